/- The data-level semantics: plain data, an interpreter of the program over them, and its soundness; part 9. -/
import Derived.Shelf.Strings.IndexAnyAll
import Derived.Shelf.Small.Utf8
import Derived.Shelf.Strings.Cut
import Derived.Laws.Runes
import Derived.Test.YtcmeincdmphaoaaDoorF8
import Derived.Lib.SlTrimSet
import Derived.Lib.Repeat
import Derived.Sort.OwnSorted
import Derived.Shelf.Sort.Plain
import Derived.Shelf.Slices.In.SortNone2
import Derived.Lib.Replace
import Derived.Lib.SplitLaws
import Derived.Lib.Fields
import Derived.Lib.Atoi
import Derived.Lib.AtoiErrMem
set_option linter.unusedVariables false
set_option linter.unusedSimpArgs false
namespace Go.Proofs
open Go.Shelf Go.RowKit Go.Lib
variable {P : Program} {ρ : Ren}

end Go.Proofs
namespace Go.Proofs.YtcmeincdmphaoaaDoor.DS
section
variable {P : Program} {E : Env}
end
end Go.Proofs.YtcmeincdmphaoaaDoor.DS

namespace Go.Proofs.YtcmeincdmphaoaaDoor.DS
section
variable {P : Program} {E : Env}
end
end Go.Proofs.YtcmeincdmphaoaaDoor.DS

namespace Go.Proofs.YtcmeincdmphaoaaDoor.DS
section
variable {P : Program} {E : Env}
end
end Go.Proofs.YtcmeincdmphaoaaDoor.DS

namespace Go.Proofs.YtcmeincdmphaoaaDoor.DS
open Go.Shelf Go.RowKit Go.Proofs Go.Sort

section
variable {P : Program} {E : Env}
end
end Go.Proofs.YtcmeincdmphaoaaDoor.DS

namespace Go.Proofs.YtcmeincdmphaoaaDoor.DS
section
variable {P : Program} {E : Env}
end
end Go.Proofs.YtcmeincdmphaoaaDoor.DS

namespace Go.Proofs.YtcmeincdmphaoaaDoor.DS
section
variable {P : Program} {E : Env}
end
end Go.Proofs.YtcmeincdmphaoaaDoor.DS

namespace Go.Proofs.YtcmeincdmphaoaaDoor.DS
section
variable {P : Program} {E : Env}
end
end Go.Proofs.YtcmeincdmphaoaaDoor.DS
