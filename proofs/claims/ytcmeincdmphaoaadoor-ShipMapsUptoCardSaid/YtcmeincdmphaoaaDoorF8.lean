/- The data-level semantics: plain data, an interpreter of the program over them, and its soundness; part 8. -/
import Derived.Test.YtcmeincdmphaoaaDoorF7
import Derived.Lib.Bytealg
import Derived.Lib.Strings
import Derived.Lib.IndexLaws
import Derived.Lib.Index
import Derived.Lib.Join
import Derived.Lib.ItoaMem
import Derived.Stop.LaidErr
import Derived.Sort.Grow
import Derived.Shelf.Strings.Builder1
set_option linter.unusedVariables false
set_option linter.unusedSimpArgs false
namespace Go.Proofs.YtcmeincdmphaoaaDoor.DS

/-- F settles at x. -/
structure Tends {α : Type} (F : Nat → Option α) (x : Option α) : Prop where
  mono : ∀ m n a, m ≤ n → F m = some a → F n = some a
  sub : ∀ n a, F n = some a → x = some a
  reach : ∀ a, x = some a → ∃ n, F n = some a

open Classical in
noncomputable def limR {α : Type} (F : Nat → Option α) : Option α := if h : ∃ a n, F n = some a then some (Classical.choose h) else none

theorem tends_lim {α : Type} {F : Nat → Option α} (h : ∀ m n a, m ≤ n → F m = some a → F n = some a) : Tends F (limR F) := by
  refine ⟨h, fun n a hn => ?_, fun a ha => ?_⟩
  · have hx : ∃ a n, F n = some a := ⟨a, n, hn⟩
    obtain ⟨k, hk⟩ := Classical.choose_spec hx
    have h1 := h n (max n k) a (Nat.le_max_left _ _) hn
    have h2 := h k (max n k) _ (Nat.le_max_right _ _) hk
    rw [h1] at h2
    simp only [limR, dif_pos hx]
    exact h2.symm
  · unfold limR at ha
    split at ha
    · rename_i hx
      injection ha with ha
      obtain ⟨k, hk⟩ := Classical.choose_spec hx
      exact ⟨k, by rw [hk, ha]⟩
    · cases ha

theorem Tends.uniq {α : Type} {F : Nat → Option α} {x y : Option α} (h : Tends F x) (h' : Tends F y) : x = y := by
  cases x with
  | none =>
    cases y with
    | none => rfl
    | some b => obtain ⟨n, hn⟩ := h'.reach b rfl; have := h.sub n b hn; cases this
  | some a => obtain ⟨n, hn⟩ := h.reach a rfl; exact (h'.sub n a hn).symm
theorem Tends.const {α : Type} (x : Option α) : Tends (fun _ => x) x := ⟨fun _ _ _ _ h => h, fun _ _ h => h, fun _ h => ⟨0, h⟩⟩
theorem Tends.none {α : Type} : Tends (fun _ => (Option.none : Option α)) .none := .const _
theorem Tends.opt {α β : Type} {F : Nat → Option α} {x : Option α} (h : Tends F x) {G : Nat → α → Option β} {y : α → Option β} (hg : ∀ a, Tends (fun n => G n a) (y a)) : Tends (fun n => DS.opt (F n) (G n)) (DS.opt x y) := by
  refine ⟨fun m n a hmn hm => ?_, fun n a hn => ?_, fun a ha => ?_⟩
  · obtain ⟨b, h1, h2⟩ := opt_some.1 hm
    exact opt_some.2 ⟨b, h.mono m n b hmn h1, (hg b).mono m n a hmn h2⟩
  · obtain ⟨b, h1, h2⟩ := opt_some.1 hn
    exact opt_some.2 ⟨b, h.sub n b h1, (hg b).sub n a h2⟩
  · obtain ⟨b, h1, h2⟩ := opt_some.1 ha
    obtain ⟨n1, h1⟩ := h.reach b h1
    obtain ⟨n2, h2⟩ := (hg b).reach a h2
    exact ⟨max n1 n2, opt_some.2 ⟨b, h.mono _ _ _ (Nat.le_max_left _ _) h1, (hg b).mono _ _ _ (Nat.le_max_right _ _) h2⟩⟩
theorem Tends.optC {α β : Type} (x : Option α) {G : Nat → α → Option β} {y : α → Option β} (hg : ∀ a, x = some a → Tends (fun n => G n a) (y a)) : Tends (fun n => DS.opt x (G n)) (DS.opt x y) := by
  cases x with
  | none => exact .none
  | some a => exact hg a rfl
theorem Tends.cond {α : Type} (c : Bool) {F G : Nat → Option α} {x y : Option α} (h : Tends F x) (h' : Tends G y) : Tends (fun n => cond c (F n) (G n)) (cond c x y) := by
  cases c
  · exact h'
  · exact h

/-- What one says, the other says too. -/
def Le {α : Type} (x y : Option α) : Prop := ∀ a, x = some a → y = some a
theorem Le.refl {α : Type} (x : Option α) : Le x x := fun _ h => h
theorem Le.opt {α β : Type} {x x' : Option α} (h : Le x x') {f f' : α → Option β} (hf : ∀ a, Le (f a) (f' a)) : Le (DS.opt x f) (DS.opt x' f') := by
  intro b hb
  obtain ⟨a, h1, h2⟩ := opt_some.1 hb
  exact opt_some.2 ⟨a, h a h1, hf a b h2⟩
theorem Le.cond {α : Type} (c : Bool) {x x' y y' : Option α} (h : Le x x') (h' : Le y y') : Le (cond c x y) (cond c x' y') := by
  cases c
  · exact h'
  · exact h

section
variable {E : Env} {ca cb : Nat → List D → R} (hc : ∀ f ds, Le (ca f ds) (cb f ds))
include hc
theorem opK_mono {α : Type} (ops : List Oper) (draw : Bool) (i : Nat) (st : St) {K K' : St → Option α} (hK : ∀ st, Le (K st) (K' st)) : Le (opK E ca ops draw i st K) (opK E cb ops draw i st K') := by
  unfold opK
  cases nthOp ops i with
  | none => exact .refl _
  | some o =>
    simp only
    cases chainOf ops i with
    | nil =>
      simp only
      cases opO E draw st ops [] o with
      | none => exact .refl _
      | some out =>
        cases out with
        | sv c v => exact .cond _ (.opt (.refl _) fun st' => hK st') (.refl _)
        | ob c id ob scr v => exact .cond _ (.opt (.refl _) fun u => .opt (.refl _) fun st' => hK st') (.cond _ (.opt (.refl _) fun st' => hK st') (.refl _))
        | call f ds rs => exact .cond _ (.opt (hc f ds) fun r => .opt (.refl _) fun u => .opt (.refl _) fun st' => hK st') (.refl _)
        | hcall f ds sg rows boxes => exact .cond _ (.opt (hc f ds) fun r => .opt (.refl _) fun u => .opt (.refl _) fun st' => hK st') (.opt (hc f ds) fun r => .opt (.refl _) fun st' => hK st')
    | cons p L =>
      simp only
      refine .cond _ ?_ (.refl _)
      cases opO E draw st ops (p :: L) o with
      | none => exact .refl _
      | some out =>
        cases out with
        | sv c v => exact .cond _ (.opt (.refl _) fun st' => hK st') (.refl _)
        | ob c id ob scr v => exact .opt (.refl _) fun u => .opt (.refl _) fun st' => hK st'
        | call f ds rs => exact .cond _ (.opt (.cond _ (hc f ds) (.refl _)) fun r => .opt (.refl _) fun u => .opt (.refl _) fun st' => hK st') (.refl _)
        | hcall f ds sg rows boxes => exact .cond _ (.cond _ (.opt (hc f ds) fun r => .opt (.refl _) fun st' => hK st') (.opt (.refl _) fun u => .opt (.refl _) fun st' => hK st')) (.refl _)
theorem opsK_mono {α : Type} (ops : List Oper) (draw : Bool) : ∀ (is : List Nat) (st : St) {K K' : St → Option α} (_ : ∀ st, Le (K st) (K' st)), Le (opsK E ca ops draw is st K) (opsK E cb ops draw is st K') := by
  intro is
  induction is with
  | nil => intro st K K' hK; exact hK st
  | cons i r ih => intro st K K' hK; exact opK_mono hc ops draw i st fun st' => ih st' hK
theorem opsD_mono {α : Type} (ops : List Oper) : ∀ (is : List Nat) (log : List (Nat × Foot)) (st : St) {K K' : St → Option α} (_ : ∀ st, Le (K st) (K' st)), Le (opsD E ca ops is log st K) (opsD E cb ops is log st K') := by
  intro is
  induction is with
  | nil => intro log st K K' hK; exact hK st
  | cons i r ih => intro log st K K' hK; exact .cond _ (opK_mono hc ops false i st fun st' => ih _ st' hK) (.cond _ (opK_mono hc ops true i st fun st' => ih _ st' hK) (.refl _))
omit hc in
theorem iterK_mono {nrm : St → Option St} {b b' : St → (Ex → St → R) → R} (hb : ∀ st K K', (∀ e st, Le (K e st) (K' e st)) → Le (b st K) (b' st K')) : ∀ (m n : Nat) (st : St) {K K' : Ex → St → R} (_ : ∀ e st, Le (K e st) (K' e st)), m ≤ n →
    Le (iterK nrm b m st K) (iterK nrm b' n st K') := by
  intro m
  induction m with
  | zero => intro n st K K' _ _ a h; cases h
  | succ m ih =>
    intro n st K K' hK hn
    obtain ⟨n, rfl⟩ : ∃ k, n = k + 1 := ⟨n - 1, by omega⟩
    refine hb _ _ _ fun e st' => ?_
    cases e with
    | normal => exact .opt (.refl _) fun st'' => ih n st'' hK (by omega)
    | exit i => exact hK _ _
    | ret => exact hK _ _
theorem exec_mono {an : List (Nat × Norm)} {m n : Nat} (hmn : m ≤ n) : ∀ (c : Code) (st : St) (K K' : Ex → St → R), (∀ e st, Le (K e st) (K' e st)) → Le (execK E ca an m c st K) (execK E cb an n c st K') := by
  intro c
  induction c with
  | skip => intro st K K' hK; exact hK _ _
  | region id ops draw =>
    intro st K K' hK
    exact .cond _ (opsD_mono hc _ _ _ _ fun st' => hK _ _) (opsK_mono hc _ _ _ _ fun st' => hK _ _)
  | seq x y ihx ihy =>
    intro st K K' hK
    refine ihx _ _ _ fun e st' => ?_
    cases e with
    | normal => exact .opt (.refl _) fun st'' => ihy _ _ _ hK
    | exit i => exact hK _ _
    | ret => exact hK _ _
  | cond c x y ihx ihy =>
    intro st K K' hK
    simp only [execK]
    split
    · exact .cond _ (.opt (.refl _) fun st'' => ihx _ _ _ hK) (.opt (.refl _) fun st'' => ihy _ _ _ hK)
    · exact .refl _
  | block id c ih =>
    intro st K K' hK
    refine ih _ _ _ fun e st' => ?_
    cases e with
    | normal => exact hK _ _
    | exit i => exact .cond _ (hK _ _) (hK _ _)
    | ret => exact hK _ _
  | loop c ih =>
    intro st K K' hK
    exact .opt (.refl _) fun st' => iterK_mono (fun st K K' hK => ih st K K' hK) m n st' hK hmn
  | exit i => intro st K K' hK; exact hK _ _
  | ret => intro st K K' hK; exact hK _ _
  | _ => intro st K K' hK; exact .refl _
end
theorem run_mono {E : Env} : ∀ (m n : Nat) (_ : m ≤ n) (f : Nat) (args : List D), Le (run E m f args) (run E n f args) := by
  intro m
  induction m with
  | zero => intro n _ f args r h; cases h
  | succ m ih =>
    intro n hn f args
    obtain ⟨n, rfl⟩ : ∃ k, n = k + 1 := ⟨n - 1, by omega⟩
    simp only [run]
    split
    · exact .refl _
    · exact .opt (.refl _) fun fn => .opt (.refl _) fun sg => .opt (.refl _) fun c => .opt (.refl _) fun sl => .opt (.refl _) fun st => exec_mono (fun f ds => ih n (by omega) f ds) (by omega) c st _ _ fun e st => .refl _

section
variable {E : Env} {callk : Nat → Nat → List D → R} {callI : Nat → List D → R}

theorem opK_tends {α : Type} (hc : ∀ f ds, Tends (fun n => callk n f ds) (callI f ds)) (ops : List Oper) (draw : Bool) (i : Nat) (st : St) {K : Nat → St → Option α} {KI : St → Option α} (hK : ∀ st, Tends (fun n => K n st) (KI st)) :
    Tends (fun n => opK E (callk n) ops draw i st (K n)) (opK E callI ops draw i st KI) := by
  unfold opK
  cases nthOp ops i with
  | none => exact .none
  | some o =>
    simp only
    cases chainOf ops i with
    | nil =>
      simp only
      cases opO E draw st ops [] o with
      | none => exact .none
      | some out =>
        cases out with
        | sv c v => exact .cond _ (.optC _ fun st' _ => hK st') .none
        | ob c id ob scr v => exact .cond _ (.optC _ fun u _ => .optC _ fun st' _ => hK st') (.cond _ (.optC _ fun st' _ => hK st') .none)
        | call f ds rs => exact .cond _ (.opt (hc f ds) fun r => .optC _ fun u _ => .optC _ fun st' _ => hK st') .none
        | hcall f ds sg rows boxes => exact .cond _ (.opt (hc f ds) fun r => .optC _ fun u _ => .optC _ fun st' _ => hK st') (.opt (hc f ds) fun r => .optC _ fun st' _ => hK st')
    | cons p L =>
      simp only
      refine .cond _ ?_ .none
      cases opO E draw st ops (p :: L) o with
      | none => exact .none
      | some out =>
        cases out with
        | sv c v => exact .cond _ (.optC _ fun st' _ => hK st') .none
        | ob c id ob scr v => exact .optC _ fun u _ => .optC _ fun st' _ => hK st'
        | call f ds rs => exact .cond _ (.opt (.cond _ (hc f ds) (.const _)) fun r => .optC _ fun u _ => .optC _ fun st' _ => hK st') .none
        | hcall f ds sg rows boxes => exact .cond _ (.cond _ (.opt (hc f ds) fun r => .optC _ fun st' _ => hK st') (.optC _ fun u _ => .optC _ fun st' _ => hK st')) .none

theorem opsK_tends {α : Type} (hc : ∀ f ds, Tends (fun n => callk n f ds) (callI f ds)) (ops : List Oper) (draw : Bool) : ∀ (is : List Nat) (st : St) {K : Nat → St → Option α} {KI : St → Option α} (_ : ∀ st, Tends (fun n => K n st) (KI st)),
    Tends (fun n => opsK E (callk n) ops draw is st (K n)) (opsK E callI ops draw is st KI) := by
  intro is
  induction is with
  | nil => intro st K KI hK; exact hK st
  | cons i r ih => intro st K KI hK; exact opK_tends hc ops draw i st fun st' => ih st' hK

theorem opsD_tends {α : Type} (hc : ∀ f ds, Tends (fun n => callk n f ds) (callI f ds)) (ops : List Oper) : ∀ (is : List Nat) (log : List (Nat × Foot)) (st : St) {K : Nat → St → Option α} {KI : St → Option α} (_ : ∀ st, Tends (fun n => K n st) (KI st)),
    Tends (fun n => opsD E (callk n) ops is log st (K n)) (opsD E callI ops is log st KI) := by
  intro is
  induction is with
  | nil => intro log st K KI hK; exact hK st
  | cons i r ih => intro log st K KI hK; exact .cond _ (opK_tends hc ops false i st fun st' => ih _ st' hK) (.cond _ (opK_tends hc ops true i st fun st' => ih _ st' hK) .none)

/-- A loop without counting. -/
noncomputable def iterI (nrm : St → Option St) (body : St → (Ex → St → R) → R) (st : St) (K : Ex → St → R) : R := limR fun n => iterK nrm body n st K

/-- A mark: the value, as it is. -/
noncomputable def cutI (_ : Code) (_ : St) (x : R) : R := limR fun _ => x
theorem cutI_eq (c : Code) (st : St) (x : R) : cutI c st x = x := ((Tends.const x).uniq (tends_lim fun _ _ _ _ h => h)).symm
def isCut (an : List (Nat × Norm)) (c : Code) : Bool := match lead c with
  | some id => match lk id an with
    | some nm => nm.cut
    | none => false
  | none => false
section
variable (lf : (St → Option St) → (St → (Ex → St → R) → R) → St → (Ex → St → R) → R) (cf : Code → St → R → R)
/-- Code, its loops by lf; cf at the marks. -/
def execG (E : Env) (callk : Nat → List D → R) (an : List (Nat × Norm)) : Code → St → (Ex → St → R) → R
  | .skip, st, K => K .normal st
  | .region _ ops draw, st, K => cond draw (opsD E callk ops.toList (upFrom 0 ops.size) [] st fun st' => K .normal (endRegion ops.toList st')) (opsK E callk ops.toList false (upFrom 0 ops.size) st fun st' => K .normal (endRegion ops.toList st'))
  | .seq a b, st, K => execG E callk an a st fun e st' => match e with
    | .normal => opt (normAt E.tt an b st') fun st'' => cond (isCut an b) (cf b st'' (execG E callk an b st'' K)) (execG E callk an b st'' K)
    | .exit i => K (.exit i) st'
    | .ret => K .ret st'
  | .cond c a b, st, K => match ev st [] [] c with
    | some (.val .bool d) => cond d.toBool (opt (normAt E.tt an a st) fun st' => execG E callk an a st' K) (opt (normAt E.tt an b st) fun st' => execG E callk an b st' K)
    | _ => none
  | .block id c, st, K => execG E callk an c st fun e st' => match e with
    | .normal => K .normal st'
    | .exit i => cond (Nat.beq i id) (K .normal st') (K (.exit i) st')
    | .ret => K .ret st'
  | .loop c, st, K => opt (normAt E.tt an c st) fun st' => lf (normAt E.tt an c) (execG E callk an c) st' K
  | .exit i, st, K => K (.exit i) st
  | .ret, st, K => K .ret st
  | _, _, _ => none
end
noncomputable abbrev execI := execG iterI cutI

/-- A body that keeps what is settled. -/
def BT (bk : Nat → St → (Ex → St → R) → R) (bI : St → (Ex → St → R) → R) : Prop :=
  ∀ (st : St) (K : Nat → Ex → St → R) (KI : Ex → St → R), (∀ e st, Tends (fun n => K n e st) (KI e st)) → Tends (fun n => bk n st (K n)) (bI st KI)

theorem iterJ_tends {nrm : St → Option St} {bk : Nat → St → (Ex → St → R) → R} {bI : St → (Ex → St → R) → R} (h : BT bk bI) : ∀ (j : Nat) (st : St) (K : Nat → Ex → St → R) (KI : Ex → St → R), (∀ e st, Tends (fun n => K n e st) (KI e st)) →
    Tends (fun n => iterK nrm (bk n) j st (K n)) (iterK nrm bI j st KI) := by
  intro j
  induction j with
  | zero => intro st K KI hK; exact .none
  | succ j ih =>
    intro st K KI hK
    refine h _ _ _ fun e st' => ?_
    cases e with
    | normal => exact .optC _ fun st'' _ => ih st'' K KI hK
    | exit i => exact hK _ _
    | ret => exact hK _ _

/-- A body's monotony. -/
def BM (b : St → (Ex → St → R) → R) : Prop := ∀ st K K', (∀ e st, Le (K e st) (K' e st)) → Le (b st K) (b st K')

theorem iterI_tends {nrm : St → Option St} {b : St → (Ex → St → R) → R} (hb : BM b) (st : St) (K : Ex → St → R) : Tends (fun n => iterK nrm b n st K) (iterI nrm b st K) :=
  tends_lim fun m n a hmn h => iterK_mono hb m n st (fun _ _ => .refl _) hmn a h

theorem loop_tends {nrm : St → Option St} {bk : Nat → St → (Ex → St → R) → R} {bI : St → (Ex → St → R) → R} (hm : ∀ m n, m ≤ n → ∀ st K K', (∀ e st, Le (K e st) (K' e st)) → Le (bk m st K) (bk n st K')) (hb : BM bI) (h : BT bk bI) (st : St) (K : Nat → Ex → St → R) (KI : Ex → St → R)
    (hK : ∀ e st, Tends (fun n => K n e st) (KI e st)) : Tends (fun n => iterK nrm (bk n) n st (K n)) (iterI nrm bI st KI) := by
  have hI := iterI_tends (nrm := nrm) hb st KI
  refine ⟨fun m n a hmn hma => ?_, fun n a hn => ?_, fun a ha => ?_⟩
  · exact iterK_mono (fun st K K' hK => hm m n hmn st K K' hK) m n st (fun e st r hr => (hK e st).mono m n r hmn hr) hmn a hma
  · exact hI.sub n a ((iterJ_tends h n st K KI hK).sub n a hn)
  · obtain ⟨j, hj⟩ := hI.reach a ha
    obtain ⟨n, hn⟩ := (iterJ_tends h j st K KI hK).reach a hj
    exact ⟨max j n, iterK_mono (fun st K K' hK => hm n (max j n) (Nat.le_max_right _ _) st K K' hK) j (max j n) st (fun e st r hr => (hK e st).mono n _ r (Nat.le_max_right _ _) hr) (Nat.le_max_left _ _) a hn⟩

theorem execI_mono {an : List (Nat × Norm)} {ca : Nat → List D → R} : ∀ c : Code, BM (execI E ca an c) := by
  intro c
  induction c with
  | skip => intro st K K' hK; exact hK _ _
  | region id ops draw =>
    intro st K K' hK
    exact .cond _ (opsD_mono (fun _ _ => .refl _) _ _ _ _ fun st' => hK _ _) (opsK_mono (fun _ _ => .refl _) _ _ _ _ fun st' => hK _ _)
  | seq x y ihx ihy =>
    intro st K K' hK
    refine ihx _ _ _ fun e st' => ?_
    cases e with
    | normal => exact .opt (.refl _) fun st'' => by rw [cutI_eq, cutI_eq]; exact .cond _ (ihy _ _ _ hK) (ihy _ _ _ hK)
    | exit i => exact hK _ _
    | ret => exact hK _ _
  | cond c x y ihx ihy =>
    intro st K K' hK
    simp only [execI, execG]
    split
    · exact .cond _ (.opt (.refl _) fun st'' => ihx _ _ _ hK) (.opt (.refl _) fun st'' => ihy _ _ _ hK)
    · exact .refl _
  | block id c ih =>
    intro st K K' hK
    refine ih _ _ _ fun e st' => ?_
    cases e with
    | normal => exact hK _ _
    | exit i => exact .cond _ (hK _ _) (hK _ _)
    | ret => exact hK _ _
  | loop c ih =>
    intro st K K' hK
    refine .opt (.refl _) fun st' => ?_
    intro a ha
    obtain ⟨n, hn⟩ := (iterI_tends ih st' K).reach a ha
    exact (iterI_tends ih st' K').sub n a (iterK_mono ih n n st' hK (Nat.le_refl _) a hn)
  | exit i => intro st K K' hK; exact hK _ _
  | ret => intro st K K' hK; exact hK _ _
  | _ => intro st K K' hK; exact .refl _

theorem exec_tends {an : List (Nat × Norm)} (hc : ∀ f ds, Tends (fun n => callk n f ds) (callI f ds)) : ∀ c : Code, BT (fun n => execK E (callk n) an n c) (execI E callI an c) := by
  intro c
  induction c with
  | skip => intro st K KI hK; exact hK _ _
  | region id ops draw =>
    intro st K KI hK
    exact .cond _ (opsD_tends hc _ _ _ _ fun st' => hK _ _) (opsK_tends hc _ _ _ _ fun st' => hK _ _)
  | seq x y ihx ihy =>
    intro st K KI hK
    refine ihx _ _ _ fun e st' => ?_
    cases e with
    | normal => exact .optC _ fun st'' _ => by rw [cutI_eq]; cases isCut an y <;> exact ihy _ _ _ hK
    | exit i => exact hK _ _
    | ret => exact hK _ _
  | cond c x y ihx ihy =>
    intro st K KI hK
    simp only [execK, execI, execG]
    cases ev st [] [] c with
    | none => exact .none
    | some s =>
      cases s with
      | val k d =>
        cases k with
        | bool => exact .cond _ (.optC _ fun st'' _ => ihx _ _ _ hK) (.optC _ fun st'' _ => ihy _ _ _ hK)
        | _ => exact .none
      | _ => exact .none
  | block id c ih =>
    intro st K KI hK
    refine ih _ _ _ fun e st' => ?_
    cases e with
    | normal => exact hK _ _
    | exit i => exact .cond _ (hK _ _) (hK _ _)
    | ret => exact hK _ _
  | loop c ih =>
    intro st K KI hK
    refine .optC _ fun st' _ => ?_
    exact loop_tends (fun m n hmn st K K' hK => exec_mono (fun f ds a ha => (hc f ds).mono m n a hmn ha) hmn c st K K' hK) (execI_mono c) ih st' K KI hK
  | exit i => intro st K KI hK; exact hK _ _
  | ret => intro st K KI hK; exact hK _ _
  | _ => intro st K KI hK; exact .none

/-- What a call of a function comes to. -/
noncomputable def RUN (E : Env) (f : Nat) (args : List D) : R := limR fun k => run E k f args
theorem run_tends (E : Env) (f : Nat) (args : List D) : Tends (fun k => run E k f args) (RUN E f args) := tends_lim fun m n a hmn h => run_mono m n hmn f args a h
def runG (lf : (St → Option St) → (St → (Ex → St → R) → R) → St → (Ex → St → R) → R) (cf : Code → St → R → R) (E : Env) (callk : Nat → List D → R) (f : Nat) (args : List D) : R := match lk f E.ext with
    | some g => g args
    | none => opt (lk f E.fns) fun fn => opt (lk f E.sigs) fun sg => opt fn.body fun c => opt (paramSt sg.params 0 args) fun sl =>
      let st : St := { n := fn.ntmps, slots := fun t => lk t sl.1, objs := fun i => lk i sl.2 }
      opt (normAt E.tt (annOf E f) c st) fun st => execG lf cf E callk (annOf E f) c st (finK E fn sg)
noncomputable abbrev runI := runG iterI cutI
theorem RUN_eq (E : Env) (f : Nat) (args : List D) : RUN E f args = runI E (RUN E) f args := by
  have h : Tends (fun k => run E (k + 1) f args) (RUN E f args) := by
    have h := run_tends E f args
    exact ⟨fun m n a hmn hm => h.mono (m + 1) (n + 1) a (by omega) hm, fun n a hn => h.sub (n + 1) a hn, fun a ha => by
      obtain ⟨n, hn⟩ := h.reach a ha
      exact ⟨n, h.mono n (n + 1) a (by omega) hn⟩⟩
  refine h.uniq ?_
  simp only [run, runI, runG]
  cases lk f E.ext with
  | some g => exact .const _
  | none => exact .optC _ fun fn _ => .optC _ fun sg _ => .optC _ fun c _ => .optC _ fun sl _ => .optC _ fun st _ => exec_tends (fun f ds => run_tends E f ds) c st _ _ fun e st => .const _
theorem RUN_run {E : Env} {f : Nat} {args r : List D} (h : RUN E f args = some r) : ∃ k, run E k f args = some r := (run_tends E f args).reach r h

theorem execI_cont {an : List (Nat × Norm)} {ca : Nat → List D → R} : ∀ c : Code, BT (fun _ => execI E ca an c) (execI E ca an c) := by
  intro c
  induction c with
  | skip => intro st K KI hK; exact hK _ _
  | region id ops draw =>
    intro st K KI hK
    exact .cond _ (opsD_tends (callk := fun _ => ca) (fun _ _ => .const _) _ _ _ _ fun st' => hK _ _) (opsK_tends (callk := fun _ => ca) (fun _ _ => .const _) _ _ _ _ fun st' => hK _ _)
  | seq x y ihx ihy =>
    intro st K KI hK
    refine ihx _ _ _ fun e st' => ?_
    cases e with
    | normal => exact .optC _ fun st'' _ => by simp only [cutI_eq]; exact .cond _ (ihy _ _ _ hK) (ihy _ _ _ hK)
    | exit i => exact hK _ _
    | ret => exact hK _ _
  | cond c x y ihx ihy =>
    intro st K KI hK
    simp only [execI, execG]
    split
    · exact .cond _ (.optC _ fun st'' _ => ihx _ _ _ hK) (.optC _ fun st'' _ => ihy _ _ _ hK)
    · exact .none
  | block id c ih =>
    intro st K KI hK
    refine ih _ _ _ fun e st' => ?_
    cases e with
    | normal => exact hK _ _
    | exit i => exact .cond _ (hK _ _) (hK _ _)
    | ret => exact hK _ _
  | loop c ih =>
    intro st K KI hK
    refine .optC _ fun st' _ => ?_
    have hb := execI_mono (E := E) (an := an) (ca := ca) c
    refine ⟨fun m n a hmn hm => ?_, fun n a hn => ?_, fun a ha => ?_⟩
    · obtain ⟨j, hj⟩ := (iterI_tends hb st' (K m)).reach a hm
      exact (iterI_tends hb st' (K n)).sub j a (iterK_mono hb j j st' (fun e st r hr => (hK e st).mono m n r hmn hr) (Nat.le_refl _) a hj)
    · obtain ⟨j, hj⟩ := (iterI_tends hb st' (K n)).reach a hn
      exact (iterI_tends hb st' KI).sub j a (iterK_mono hb j j st' (fun e st r hr => (hK e st).sub n r hr) (Nat.le_refl _) a hj)
    · obtain ⟨j, hj⟩ := (iterI_tends hb st' KI).reach a ha
      obtain ⟨n, hn⟩ := (iterJ_tends ih j st' K KI hK).reach a hj
      exact ⟨n, (iterI_tends hb st' (K n)).sub j a hn⟩
  | exit i => intro st K KI hK; exact hK _ _
  | ret => intro st K KI hK; exact hK _ _
  | _ => intro st K KI hK; exact .none

/-- A loop is one round, and then the loop. -/
theorem iterI_eq {nrm : St → Option St} {an : List (Nat × Norm)} {c : Code} (st : St) (K : Ex → St → R) : iterI nrm (execI E callI an c) st K = execI E callI an c st fun e st' => match e with
    | .normal => opt (nrm st') fun st'' => iterI nrm (execI E callI an c) st'' K
    | .exit i => K (.exit i) st'
    | .ret => K .ret st' := by
  have hb := execI_mono (E := E) (an := an) (ca := callI) c
  have h := iterI_tends (nrm := nrm) hb st K
  have h1 : Tends (fun n => iterK nrm (execI E callI an c) (n + 1) st K) (iterI nrm (execI E callI an c) st K) :=
    ⟨fun m n a hmn hm => h.mono (m + 1) (n + 1) a (by omega) hm, fun n a hn => h.sub (n + 1) a hn, fun a ha => by
      obtain ⟨n, hn⟩ := h.reach a ha
      exact ⟨n, h.mono n (n + 1) a (by omega) hn⟩⟩
  refine h1.uniq ?_
  simp only [iterK]
  refine execI_cont c st _ _ fun e st' => ?_
  cases e with
  | normal => exact .optC _ fun st'' _ => iterI_tends hb st'' K
  | exit i => exact .const _
  | ret => exact .const _
end
end Go.Proofs.YtcmeincdmphaoaaDoor.DS

namespace Go.Proofs.YtcmeincdmphaoaaDoor.DS

section
variable (lf : (St → Option St) → (St → (Ex → St → R) → R) → St → (Ex → St → R) → R) (cf : Code → St → R → R)
variable (E : Env) (callk : Nat → List D → R) (an : List (Nat × Norm))
def stepG (b : Code) (K : Ex → St → R) : Ex → St → R := fun e st' => match e with
  | .normal => opt (normAt E.tt an b st') fun st'' => cond (isCut an b) (cf b st'' (execG lf cf E callk an b st'' K)) (execG lf cf E callk an b st'' K)
  | .exit i => K (.exit i) st'
  | .ret => K .ret st'
def lopG (c : Code) (K : Ex → St → R) : Ex → St → R := fun e st' => match e with
  | .normal => opt (normAt E.tt an c st') fun st'' => lf (normAt E.tt an c) (execG lf cf E callk an c) st'' K
  | .exit i => K (.exit i) st'
  | .ret => K .ret st'
/-- The continuation of the part at a path. -/
def conG : Code → List Nat → (Ex → St → R) → Ex → St → R
  | _, [], K => K
  | .seq a b, 0 :: p, K => conG a p (stepG lf cf E callk an b K)
  | .seq _ b, _ :: p, K => conG b p K
  | .cond _ a _, 0 :: p, K => conG a p K
  | .cond _ _ b, _ :: p, K => conG b p K
  | .block id c, _ :: p, K => conG c p (blkK id K)
  | .loop c, _ :: p, K => conG c p (lopG lf cf E callk an c K)
  | _, _, K => K
/-- The loop at a path, and all that follows. -/
def loopG (c : Code) (p : List Nat) (K : Ex → St → R) (st : St) : R := match subAt c p with
  | .loop b => lf (normAt E.tt an b) (execG lf cf E callk an b) st (conG lf cf E callk an c p K)
  | _ => none
/-- One round of it, and all that follows. -/
def roundG (c : Code) (p : List Nat) (K : Ex → St → R) (st : St) : R := match subAt c p with
  | .loop b => execG lf cf E callk an b st (lopG lf cf E callk an b (conG lf cf E callk an c p K))
  | _ => none
/-- The part at a path, and all that follows. -/
def partG (c : Code) (p : List Nat) (K : Ex → St → R) (st : St) : R := execG lf cf E callk an (subAt c p) st (conG lf cf E callk an c p K)
end
section
variable (lf : (St → Option St) → (St → (Ex → St → R) → R) → St → (Ex → St → R) → R) (cf : Code → St → R → R)
variable (E : Env) (callk : Nat → List D → R) (f : Nat) (fn : Func) (p : List Nat) (st : St)
def ROUNDG : R := match fn.body, lk f E.sigs with
  | some c, some sg => roundG lf cf E callk (annOf E f) c p (finK E fn sg) st
  | _, _ => none
def PARTG : R := match fn.body, lk f E.sigs with
  | some c, some sg => partG lf cf E callk (annOf E f) c p (finK E fn sg) st
  | _, _ => none
end
noncomputable def LOOP (E : Env) (callk : Nat → List D → R) (f : Nat) (fn : Func) (p : List Nat) (st : St) : R := match fn.body, lk f E.sigs with
  | some c, some sg => loopG iterI cutI E callk (annOf E f) c p (finK E fn sg) st
  | _, _ => none
noncomputable abbrev ROUND := ROUNDG iterI cutI
noncomputable def PART (E : Env) (callk : Nat → List D → R) (f : Nat) (fn : Func) (p : List Nat) (st : St) : R := cutI (match fn.body with | some c => subAt c p | none => .skip) st (PARTG iterI cutI E callk f fn p st)
theorem PART_eq (E : Env) (callk : Nat → List D → R) (f : Nat) (fn : Func) (p : List Nat) (st : St) : PART E callk f fn p st = PARTG iterI cutI E callk f fn p st := cutI_eq _ _ _
theorem LOOP_eq (E : Env) (callk : Nat → List D → R) (f : Nat) (fn : Func) (p : List Nat) (st : St) : LOOP E callk f fn p st = ROUND E callk f fn p st := by
  unfold LOOP ROUND ROUNDG
  split
  · unfold loopG roundG
    split
    · rw [iterI_eq]; rfl
    · rfl
  · rfl

/-- Functions, checked. -/
def FnsOK (P : Program) (E : Env) : List (Nat × Func) → Prop
  | [] => True
  | (f, fn) :: r => (P.funcs[f]? = some fn ∧ fnB E f fn = true) ∧ FnsOK P E r
theorem fns_of {P : Program} {E : Env} : ∀ {l : List (Nat × Func)}, FnsOK P E l → ∀ f fn, lk f l = some fn → FnOK P E f fn := by
  intro l
  induction l with
  | nil => intro _ f fn h; cases h
  | cons p r ih =>
    obtain ⟨g, gn⟩ := p
    intro h f fn hf
    simp only [lk] at hf
    cases hb : Nat.beq f g with
    | true => rw [hb] at hf; injection hf with hf; subst hf; rw [beq_iff.1 hb]; exact fnB_spec h.1.1 h.1.2
    | false => rw [hb] at hf; exact ih h.2 f fn hf

end Go.Proofs.YtcmeincdmphaoaaDoor.DS

namespace Go.Proofs.YtcmeincdmphaoaaDoor.DS

/-! Small laws for the equations. -/

theorem inb_nat {i n : Nat} (h : i < n) : inb (i : Int) n = true := by unfold inb; simp; omega
theorem wrap_id {i : Int} (h0 : -9223372036854775808 ≤ i) (h1 : i ≤ 9223372036854775807) : IntKind.i64.wrap i = i := wrap64 h0 h1
theorem fitL_le {n m : Nat} (h : n + m ≤ lim) : fitL n m = true := by unfold fitL; simpa using h
theorem dec_t {p : Prop} [Decidable p] (h : p) : decide p = true := by simp [h]
theorem dec_f {p : Prop} [Decidable p] (h : ¬ p) : decide p = false := by simp [h]
theorem getD_eq {α : Type} (l : List α) (i : Nat) (d : α) (h : i < l.length) : l.getD i d = l[i] := by
  simp [List.getD_eq_getElem?_getD, List.getElem?_eq_getElem h]
theorem lim_val : lim = 68719476736 := rfl


/-! Small laws for plain proofs over the equations: data, indices, bytes, cuts. -/

theorem opt_s {α β : Type} (a : α) (f : α → Option β) : opt (some a) f = f a := rfl
theorem tI (n : Int) : D.toInt (.int n) = n := rfl
theorem tS (s : List UInt8) : D.toStr (.str s) = s := rfl
theorem tB (b : Bool) : D.toBool (.bool b) = b := rfl
theorem nxt {i : Nat} (h : i ≤ 4611686018427387904) : IntKind.wrap .i64 ((i : Int) + 1) = ((i + 1 : Nat) : Int) := by rw [wrap_id (by omega) (by omega)]; omega
theorem fit_t {n m : Nat} (h : n + m ≤ 68719476736) : fitL n m = true := fitL_le (by rw [lim_val]; exact h)
theorem lim_t {n m : Nat} (h : n + m ≤ 68719476736) : decide (n + m ≤ lim) = true := dec_t (by rw [lim_val]; exact h)
theorem drop_cons {α : Type} {l : List α} {i : Nat} (d : α) (h : i < l.length) : l.drop i = l.getD i d :: l.drop (i + 1) := by
  rw [getD_eq l i d h]; exact List.drop_eq_getElem_cons h
theorem take_snoc {α : Type} {l : List α} {i : Nat} (d : α) (h : i < l.length) : l.take (i + 1) = l.take i ++ [l.getD i d] := by
  rw [getD_eq l i d h]; exact List.take_succ_eq_append_getElem h
/-- A part of a row or string. -/
def sub {α : Type} (l : List α) (i k : Nat) : List α := (l.take k).drop i
theorem sub_snoc {α : Type} {l : List α} {i k : Nat} (d : α) (hi : i ≤ k) (hk : k < l.length) : sub l i (k + 1) = sub l i k ++ [l.getD k d] := by
  unfold sub
  rw [take_snoc d hk, List.drop_append_of_le_length (by simp; omega)]
theorem sub_self {α : Type} (l : List α) (i : Nat) : sub l i i = [] := by simp [sub]
theorem sub_one {α : Type} {l : List α} {i : Nat} (d : α) (h : i < l.length) : sub l i (i + 1) = [l.getD i d] := by rw [sub_snoc d (Nat.le_refl _) h, sub_self]; rfl
theorem cut_both {α : Type} (l : List α) (i k : Nat) : cutL l (some (i : Int)) (some (k : Int)) = sub l i k := rfl
theorem cut_lo {α : Type} (l : List α) (i : Nat) : cutL l (some (i : Int)) none = l.drop i := rfl
theorem cut_hi {α : Type} (l : List α) (k : Nat) : cutL l none (some (k : Int)) = l.take k := rfl
theorem cutOk_both {n i k : Nat} (h1 : i ≤ k) (h2 : k ≤ n) : cutOk n (some (i : Int)) (some (k : Int)) = true := by simp only [cutOk, Bool.and_eq_true, decide_eq_true_eq]; omega
theorem cutOk_lo {n i : Nat} (h : i ≤ n) : cutOk n (some (i : Int)) none = true := by simp only [cutOk, Bool.and_eq_true, decide_eq_true_eq]; omega
theorem cutOk_hi {n k : Nat} (h : k ≤ n) : cutOk n none (some (k : Int)) = true := by simp only [cutOk, Bool.and_eq_true, decide_eq_true_eq]; omega
/-- How great a string or row is, in the measure of the bound. -/
theorem mass_str (s : List UInt8) (r : List D) : dmass.dmAll (.str s :: r) = s.length + 1 + dmass.dmAll r := rfl
theorem mass_list (l : List D) (r : List D) : dmass.dmAll (.list l :: r) = dmass.dmAll l + 1 + dmass.dmAll r := rfl
theorem mass_nil : dmass.dmAll [] = 0 := rfl

/-! Functions that many packages have, in plain words: small letters, equal rows, prefixes and suffixes. -/

theorem bytesD_len (l : List UInt8) : (bytesD l).length = l.length := by simp [bytesD]
theorem dBytes_bytesD (l : List UInt8) : dBytes (bytesD l) = l := by
  unfold dBytes bytesD
  rw [List.map_map]
  conv => rhs; rw [← List.map_id l]
  apply List.map_congr_left
  intro c _
  simp [D.toInt]
theorem bytesD_append (a b : List UInt8) : bytesD (a ++ b) = bytesD a ++ bytesD b := by simp [bytesD]

/-! ### Prefixes and suffixes -/
def hasSuf (s p : List UInt8) : Bool := decide (p.length ≤ s.length) && decide (s.drop (s.length - p.length) = p)
def hasPre (s p : List UInt8) : Bool := decide (p.length ≤ s.length) && decide (s.take p.length = p)
theorem suf_eq {s p : List UInt8} (hs : s.length ≤ 4611686018427387904) (hp : p.length ≤ 4611686018427387904) :
    cond (bif cutOk (List.length s) (some (IntKind.wrap IntKind.i64 ((↑(List.length s) : Int) - (↑(List.length p) : Int)))) none then true else bif bif decide ((↑(List.length p) : Int) ≤ (↑(List.length s) : Int)) then true else false then false else true)
      (some [D.bool (bif decide ((↑(List.length p) : Int) ≤ (↑(List.length s) : Int)) then decide (cutL s (some (IntKind.wrap IntKind.i64 ((↑(List.length s) : Int) - (↑(List.length p) : Int)))) none = p) else false)])
      (none) = some [.bool (hasSuf s p)] := by
  by_cases h : p.length ≤ s.length
  · have e : IntKind.wrap IntKind.i64 ((↑(List.length s) : Int) - (↑(List.length p) : Int)) = ((s.length - p.length : Nat) : Int) := by rw [wrap_id (by omega) (by omega)]; omega
    rw [e, cutOk_lo (by omega), dec_t (by omega), cut_lo]
    simp [hasSuf, h]
  · rw [dec_f (by omega)]
    simp [hasSuf, h]
theorem pre_eq {s p : List UInt8} (hs : s.length ≤ 4611686018427387904) (hp : p.length ≤ 4611686018427387904) :
    cond (bif cutOk (List.length s) none (some (↑(List.length p) : Int)) then true else bif bif decide ((↑(List.length p) : Int) ≤ (↑(List.length s) : Int)) then true else false then false else true)
      (some [D.bool (bif decide ((↑(List.length p) : Int) ≤ (↑(List.length s) : Int)) then decide (cutL s none (some (↑(List.length p) : Int)) = p) else false)])
      (none) = some [.bool (hasPre s p)] := by
  by_cases h : p.length ≤ s.length
  · rw [cutOk_hi (by omega), dec_t (by omega), cut_hi]
    simp [hasPre, h]
  · rw [dec_f (by omega)]
    simp [hasPre, h]

/-! Splitting at one byte; loops over rows; how great the parts of data are. -/

/-! ### Cutting at a byte -/
def cuts (c : UInt8) : List UInt8 → List UInt8 → List (List UInt8)
  | w, [] => [w]
  | w, b :: r => bif b == c then w :: cuts c [] r else cuts c (w ++ [b]) r
def splitC (c : UInt8) (s : List UInt8) : List (List UInt8) := cuts c [] s
theorem cuts_none {c : UInt8} : ∀ (s w : List UInt8), c ∉ s → cuts c w s = [w ++ s] := by
  intro s
  induction s with
  | nil => intro w _; simp [cuts]
  | cons b r ih =>
    intro w h
    have hb : (b == c) = false := by
      rw [← Bool.not_eq_true, beq_iff_eq]; intro e; subst e; exact h List.mem_cons_self
    simp only [cuts, hb, cond_false]
    rw [ih _ (fun hr => h (List.mem_cons_of_mem _ hr))]; simp
theorem cuts_one {c : UInt8} (post : List UInt8) : ∀ (pre w : List UInt8), c ∉ pre → cuts c w (pre ++ c :: post) = (w ++ pre) :: cuts c [] post := by
  intro pre
  induction pre with
  | nil => intro w _; simp [cuts]
  | cons b r ih =>
    intro w h
    have hb : (b == c) = false := by
      rw [← Bool.not_eq_true, beq_iff_eq]; intro e; subst e; exact h List.mem_cons_self
    simp only [List.cons_append, cuts, hb, cond_false]
    rw [ih _ (fun hr => h (List.mem_cons_of_mem _ hr))]; simp
theorem idx_cases (c : UInt8) : ∀ s : List UInt8, (Lib.indexByte s c = -1 ∧ c ∉ s) ∨ ∃ pre post, s = pre ++ c :: post ∧ c ∉ pre ∧ Lib.indexByte s c = (pre.length : Int) := by
  intro s
  induction s with
  | nil => exact .inl ⟨rfl, by simp⟩
  | cons b r ih =>
    unfold Lib.indexByte
    cases hb : b == c with
    | true =>
      have := beq_iff_eq.1 hb; subst this
      exact .inr ⟨[], r, rfl, by simp, by simp⟩
    | false =>
      have hne : b ≠ c := by intro e; subst e; simp at hb
      rcases ih with ⟨h1, h2⟩ | ⟨pre, post, h1, h2, h3⟩
      · left
        refine ⟨by simp [h1], ?_⟩
        simp only [List.mem_cons, not_or]
        exact ⟨fun e => hne e.symm, h2⟩
      · right
        refine ⟨b :: pre, post, by rw [h1]; rfl, ?_, ?_⟩
        · simp only [List.mem_cons, not_or]
          exact ⟨fun e => hne e.symm, h2⟩
        · rw [h3]
          have : ((pre.length : Int) == -1) = false := by rw [← Bool.not_eq_true, beq_iff_eq]; omega
          simp [this]
theorem splitC_none {c : UInt8} {s : List UInt8} (h : c ∉ s) : splitC c s = [s] := by unfold splitC; rw [cuts_none _ _ h]; rfl
theorem splitC_one {c : UInt8} {pre : List UInt8} (post : List UInt8) (h : c ∉ pre) : splitC c (pre ++ c :: post) = pre :: splitC c post := by unfold splitC; rw [cuts_one _ _ _ h]; rfl
theorem split_len (c : UInt8) : ∀ n (s : List UInt8), s.length ≤ n → (splitC c s).length = s.count c + 1 ∧ ∀ x ∈ splitC c s, x.length ≤ s.length := by
  intro n
  induction n with
  | zero =>
    intro s h
    have : s = [] := List.length_eq_zero_iff.1 (by omega)
    subst this
    exact ⟨rfl, fun x hx => by simp [splitC, cuts] at hx; subst hx; simp⟩
  | succ n ih =>
    intro s h
    rcases idx_cases c s with ⟨_, h2⟩ | ⟨pre, post, h1, h2, _⟩
    · rw [splitC_none h2, List.count_eq_zero.2 h2]
      exact ⟨rfl, fun x hx => by simp at hx; subst hx; exact Nat.le_refl _⟩
    · subst h1
      simp at h
      obtain ⟨q1, q2⟩ := ih post (by omega)
      rw [splitC_one _ h2]
      refine ⟨by simp [q1, List.count_eq_zero.2 h2], fun x hx => ?_⟩
      rcases List.mem_cons.1 hx with rfl | hx
      · simp
      · have := q2 x hx; simp; omega

theorem take_set_self {α : Type} (x : α) : ∀ (a : List α) (i : Nat), (a.set i x).take i = a.take i := by
  intro a
  induction a with
  | nil => intro i; rfl
  | cons b r ih => intro i; cases i with
    | zero => rfl
    | succ i => simp [ih]
theorem split_loop {L : List UInt8 → Int → Int → List D → R} {X : List UInt8 → R} {c : UInt8} (hX : ∀ s, s.length ≤ 1073741824 → X s = some [.int (Lib.indexByte s c)]) (hL : ∀ (s0 : List UInt8) (n3 i10 : Int) (a9s : List D), L s0 n3 i10 a9s =
    cond (decide (i10 < n3))
      (opt (X s0) fun r1 =>
        cond (decide (D.toInt (List.getD r1 0 D.no) < 0))
          (cond (inb i10 (List.length a9s))
            (cond (cutOk (List.length (List.set a9s (Int.toNat i10) (D.str s0))) none (some (IntKind.wrap IntKind.i64 (i10 + 1))))
              (some [D.list (cutL (List.set a9s (Int.toNat i10) (D.str s0)) none (some (IntKind.wrap IntKind.i64 (i10 + 1))))])
              (none))
            (none))
          (cond (cutOk (List.length s0) none (some (IntKind.wrap IntKind.i64 (D.toInt (List.getD r1 0 D.no) + 0))))
            (cond (inb i10 (List.length a9s))
              (cond (cutOk (List.length s0) (some (IntKind.wrap IntKind.i64 (D.toInt (List.getD r1 0 D.no) + (↑(List.length [c]) : Int)))) none)
                (L (cutL s0 (some (IntKind.wrap IntKind.i64 (D.toInt (List.getD r1 0 D.no) + (↑(List.length [c]) : Int)))) none) n3 (IntKind.wrap IntKind.i64 (i10 + 1)) (List.set a9s (Int.toNat i10) (D.str (cutL s0 none (some (IntKind.wrap IntKind.i64 (D.toInt (List.getD r1 0 D.no) + 0)))))))
                (none))
              (none))
            (none)))
      (cond (inb i10 (List.length a9s))
        (cond (cutOk (List.length (List.set a9s (Int.toNat i10) (D.str s0))) none (some (IntKind.wrap IntKind.i64 (i10 + 1))))
          (some [D.list (cutL (List.set a9s (Int.toNat i10) (D.str s0)) none (some (IntKind.wrap IntKind.i64 (i10 + 1))))])
          (none))
        (none))) : ∀ (n : Nat) (s : List UInt8), s.length ≤ n → n ≤ 1073741824 → ∀ (i : Nat) (a : List D), i + s.count c ≤ 1073741824 → a.length = i + s.count c + 1 → L s ((i + s.count c : Nat) : Int) (i : Int) a = some [.list (a.take i ++ (splitC c s).map .str)] := by
  intro n
  induction n with
  | zero =>
    intro s h _ i a hb ha
    have : s = [] := List.length_eq_zero_iff.1 (by omega)
    subst this
    rw [hL, dec_f (by simp), nxt (by omega), inb_nat (by omega), Int.toNat_natCast, cutOk_hi (by rw [List.length_set]; omega), cut_hi]
    simp only [cond_true, cond_false]
    rw [take_snoc .no (by rw [List.length_set]; omega)]
    simp only [List.count_nil, Nat.add_zero] at ha
    simp [splitC, cuts, List.getD_eq_getElem?_getD, List.getElem?_set, ha, take_set_self]
  | succ n ih =>
    intro s h hn i a hb ha
    have hin : inb (i : Int) a.length = true := inb_nat (by omega)
    have hx := hX s (by omega)
    rcases idx_cases c s with ⟨_, h2⟩ | ⟨pre, post, h1, h2, h3⟩
    · have hc : s.count c = 0 := List.count_eq_zero.2 h2
      rw [hc] at ha ⊢
      rw [hL, dec_f (by omega), nxt (by omega), hin, Int.toNat_natCast, cutOk_hi (by rw [List.length_set]; omega), cut_hi, splitC_none h2]
      simp only [cond_true, cond_false]
      rw [take_snoc .no (by rw [List.length_set]; omega)]
      simp [List.getD_eq_getElem?_getD, List.getElem?_set, ha, take_set_self]
    · have hcs : s.count c = post.count c + 1 := by rw [h1]; simp [List.count_eq_zero.2 h2]
      have hl : s.length = pre.length + 1 + post.length := by rw [h1]; simp; omega
      rw [hL, dec_t (by omega), hx, opt_s, List.getD_cons_zero, tI, h3, dec_f (by omega), nxt (by omega), hin, Int.toNat_natCast]
      have w0 : IntKind.wrap IntKind.i64 ((pre.length : Int) + 0) = (pre.length : Int) := wrap_id (by omega) (by omega)
      have w1 : IntKind.wrap IntKind.i64 ((pre.length : Int) + (↑(List.length [c]) : Int)) = ((pre.length + 1 : Nat) : Int) := nxt (by omega)
      have e1 : s.take pre.length = pre := by rw [h1]; simp
      have e2 : s.drop (pre.length + 1) = post := by rw [h1]; simp [List.drop_append]
      have k1 : cutOk s.length none (some (pre.length : Int)) = true := cutOk_hi (by omega)
      have k2 : cutOk s.length (some ((pre.length + 1 : Nat) : Int)) none = true := cutOk_lo (by omega)
      simp only [w0, w1, k1, k2, cut_lo, cut_hi, e1, e2, cond_true, cond_false]
      have := ih post (by omega) (by omega) (i + 1) (a.set i (.str pre)) (by omega) (by rw [List.length_set]; omega)
      rw [show i + 1 + post.count c = i + s.count c by omega] at this
      rw [this, h1, splitC_one _ h2, take_snoc .no (by rw [List.length_set]; omega)]
      have hlt : i < i + s.count c + 1 := by omega
      simp [List.getD_eq_getElem?_getD, List.getElem?_set, ha, take_set_self, hlt]

/-! ### A loop that asks all -/
theorem all_loop {L : Int → R} {xs : List D} {p : D → Bool} (hend : L (xs.length : Nat) = some [.bool true]) (hL : ∀ i : Nat, i < xs.length → L i = cond (p (xs.getD i .no)) (L ((i + 1 : Nat) : Int)) (some [.bool false])) : L 0 = some [.bool (xs.all p)] := by
  have key : ∀ n i : Nat, i + n = xs.length → L i = some [.bool ((xs.drop i).all p)] := by
    intro n
    induction n with
    | zero =>
      intro i hi
      have : i = xs.length := by omega
      subst this
      rw [hend, List.drop_length]; rfl
    | succ n ih =>
      intro i hi
      have hil : i < xs.length := by omega
      rw [hL i hil, ih (i + 1) (by omega), drop_cons .no hil]
      simp only [List.all_cons]
      cases p (xs.getD i .no) <;> rfl
  have := key xs.length 0 (by omega)
  rwa [List.drop_zero] at this
theorem all_loopS {L : Int → R} {s : List UInt8} {p : UInt8 → Bool} (hend : L (s.length : Nat) = some [.bool true]) (hL : ∀ i : Nat, i < s.length → L i = cond (p (s.getD i 0)) (L ((i + 1 : Nat) : Int)) (some [.bool false])) : L 0 = some [.bool (s.all p)] := by
  have key : ∀ n i : Nat, i + n = s.length → L i = some [.bool ((s.drop i).all p)] := by
    intro n
    induction n with
    | zero =>
      intro i hi
      have : i = s.length := by omega
      subst this
      rw [hend, List.drop_length]; rfl
    | succ n ih =>
      intro i hi
      have hil : i < s.length := by omega
      rw [hL i hil, ih (i + 1) (by omega), drop_cons 0 hil]
      simp only [List.all_cons]
      cases p (s.getD i 0) <;> rfl
  have := key s.length 0 (by omega)
  rwa [List.drop_zero] at this

/-! ### How great parts are -/
theorem mass_mem {l : List D} {x : D} (h : x ∈ l) : dmass x ≤ dmass.dmAll l := by
  induction l with
  | nil => cases h
  | cons y r ih =>
    simp only [dmass.dmAll]
    rcases List.mem_cons.1 h with rfl | h
    · omega
    · have := ih h; omega
theorem mass_getD (l : List D) (i : Nat) : dmass (l.getD i .no) ≤ dmass.dmAll l := by
  by_cases h : i < l.length
  · rw [getD_eq l i .no h]; exact mass_mem (List.getElem_mem h)
  · rw [List.getD_eq_getElem?_getD, List.getElem?_eq_none (by omega)]; simp [dmass]
theorem mass_cell (d : D) (i : Nat) : dmass (d.cell i) ≤ dmass d := by
  cases d with
  | agg cs => exact mass_getD cs i
  | _ => cases i <;> simp [D.cell, D.cells, dmass]
theorem toStr_le (d : D) : d.toStr.length ≤ dmass d := by cases d <;> simp [D.toStr, dmass]
theorem cellS_le (d : D) (i : Nat) : (D.toStr (d.cell i)).length ≤ dmass d := Nat.le_trans (toStr_le _) (mass_cell d i)
/-- The cells of a listed table. -/
def flatV : DataW Unit → List Value
  | .lit (.int k n) => [.int k n]
  | .lit (.bool b) => [.bool b]
  | .lit (.string s) => [.string ⟨s.toArray⟩]
  | .agg l => flatAll l
  | _ => []
where flatAll : List (DataW Unit) → List Value
  | [] => []
  | d :: r => flatV d ++ flatAll r
end Go.Proofs.YtcmeincdmphaoaaDoor.DS

namespace Go.Proofs.YtcmeincdmphaoaaDoor.DS

/-! Functions of the library, by contracts. -/

section
variable {P : Program} {E : Env}

def ExtOK (P : Program) (E : Env) (W0 : World) (f : Nat) (g : List D → Option (List D)) : Prop := ∀ sg ds r, lk f E.sigs = some sg → g ds = some r → ∀ (w : World) (M : Mem) (vs : List Value) (X : Nat → Prop), Same W0 w → (∀ b, X b → W0.heap.size ≤ b) → ArgsOK E X w M sg.params vs ds →
    CallsF P f vs.toArray w (RetOK E X w M sg.outs sg.results vs r)
def ExtsOK (P : Program) (E : Env) (W0 : World) : List (Nat × (List D → Option (List D))) → Prop
  | [] => True
  | (f, g) :: r => ExtOK P E W0 f g ∧ ExtsOK P E W0 r
theorem exts_of {W0 : World} : ∀ {l : List (Nat × (List D → Option (List D)))}, ExtsOK P E W0 l → ∀ f g, lk f l = some g → ExtOK P E W0 f g := by
  intro l
  induction l with
  | nil => intro _ f fn h; cases h
  | cons p r ih =>
    obtain ⟨g, gn⟩ := p
    intro h f fn hf
    simp only [lk] at hf
    cases hb : Nat.beq f g with
    | true => rw [hb] at hf; injection hf with hf; subst hf; rw [beq_iff.1 hb]; exact h.1
    | false => rw [hb] at hf; exact ih h.2 f fn hf

def canonA : List PM → List D → List D
  | .val k :: ps, d :: ds => canon k d :: canonA ps ds
  | _, _ => []
theorem paramSt_vals : ∀ (ps : List PM) (i : Nat) (ds : List D) sl os, allValP ps = true → paramSt ps i ds = some (sl, os) → ds.length = ps.length ∧ ∀ (q : Nat) k d, ps[q]? = some (.val k) → ds[q]? = some d → lk (i + q) sl = some (.val k (canon k d)) := by
  intro ps
  induction ps with
  | nil => intro i ds sl os _ h; cases ds with
    | nil => exact ⟨rfl, fun q k d h => by simp at h⟩
    | cons _ _ => cases h
  | cons p ps ih =>
    intro i ds sl os hv h
    cases p with
    | val k =>
      cases ds with
      | nil => cases h
      | cons d ds =>
        obtain ⟨x, hx, h⟩ := opt_some.1 h
        injection h with h; injection h with h1 h2; subst h1 h2
        obtain ⟨q1, q2⟩ := ih (i + 1) ds x.1 x.2 hv hx
        refine ⟨by simp [q1], fun q k' d' h1 h2 => ?_⟩
        cases q with
        | zero =>
          simp at h1 h2; subst h1 h2
          simp only [lk, Nat.add_zero, beq_self, cond_true]
        | succ q =>
          have := q2 q k' d' (by simpa using h1) (by simpa using h2)
          rw [show i + 1 + q = i + (q + 1) by omega] at this
          simp only [lk, beq_false.2 (show i + (q + 1) ≠ i by omega), cond_false]
          exact this
    | _ => cases hv
theorem argsRep_mk {tt : TT} {M : Mem} : ∀ (ps : List PM) (vs : List Value) (ds : List D), allValP ps = true → vs.length = ps.length → ds.length = ps.length → (∀ (q : Nat) k d v, ps[q]? = some (.val k) → ds[q]? = some d → vs[q]? = some v → Rep tt M k v (canon k d)) → ArgsRep tt M ps vs (canonA ps ds) := by
  intro ps
  induction ps with
  | nil => intro vs ds _ h1 h2 _; cases vs with
    | nil => trivial
    | cons _ _ => simp at h1
  | cons p ps ih =>
    intro vs ds hv h1 h2 h
    cases p with
    | val k =>
      cases vs with
      | nil => simp at h1
      | cons v vs =>
        cases ds with
        | nil => simp at h2
        | cons d ds => exact ⟨h 0 k d v rfl rfl rfl, ih vs ds hv (by simpa using h1) (by simpa using h2) fun q k' d' v' a b c => h (q + 1) k' d' v' (by simpa using a) (by simpa using b) (by simpa using c)⟩
    | _ => cases hv
theorem vals_of {X : Nat → Prop} {w : World} {M : Mem} {ps : List PM} {vs : List Value} {ds : List D} (hp : allValP ps = true) (h : ArgsOK E X w M ps vs ds) : ArgsRep E.tt M ps vs (canonA ps ds) ∧ ∀ ad v, M ad = some v → w.cell? ad = some v := by
  obtain ⟨hl, sl, os, ι, h1, H, h2, _⟩ := h
  obtain ⟨q1, q2⟩ := paramSt_vals ps 0 ds sl os hp h1
  refine ⟨argsRep_mk ps vs ds hp hl q1 fun q k d v a b c => ?_, H.mem⟩
  have := q2 q k d a b
  rw [Nat.zero_add] at this
  obtain ⟨⟨v', e1, e2⟩, _⟩ := h2 q _ this
  rw [c] at e1; injection e1 with e1; subst e1
  exact e2
theorem HRel.anyX {tt : TT} {X : Nat → Prop} {w0 w : World} {Mx M : Mem} {ι : Nat → Value} {objs : Nat → Option Obj} (H : HRel tt (fun _ => False) w0 Mx ι M objs w) : HRel tt X w0 Mx ι M objs w :=
  ⟨H.obj, H.disj, fun id o b h hb => ⟨.inl ((H.own id o b h hb).1.resolve_right fun h => h), (H.own id o b h hb).2⟩, H.mem, H.memx, fun ad h _ => H.memB ad h (fun h => h), H.os, H.tape, H.output, H.size, fun b hb _ => H.keep b hb (fun h => h)⟩
/-- A function that is handed plain data only. -/
theorem ret_of {X : Nat → Prop} {w w' : World} {M : Mem} {ps : List PM} {rs : List RM} {vs : List Value} {ds : List D} {v : Value} (hp : allValP ps = true) (h : RetV E w M rs ds v w') : RetOK E X w M ps rs vs ds v w' := by
  intro base bid svs os hr hn
  obtain ⟨ι, M', H, hv⟩ := h base svs os hr
  have hb := boxesP_vals ps bid 0 hp
  rw [hb] at hn ⊢
  simp only [boxObjs, List.append_nil] at hn ⊢
  refine ⟨ι, M', H.anyX, hv, fun i hi => ?_, fun p t cs hpp => ?_⟩
  · obtain ⟨_, n2, n3, _, n5⟩ := resSV_spec rs base 0 _ svs _ hr
    have : i ∈ refsL svs := by
      match svs, hi, n3, n5 with
      | [], hi, _, _ => exact hi
      | [s], hi, n3, n5 =>
        simp only [refsL, List.append_nil]
        cases s with
        | tup t => exact absurd List.mem_cons_self (n3 t)
        | sag t ks l => exact absurd List.mem_cons_self (n5 t ks l)
        | _ => exact hi
      | _ :: _ :: _, hi, _, _ => exact hi
    obtain ⟨s, h1, h2⟩ := mem_refsL.1 this
    exact n2 s h1 i h2
  · have := boxIds_mem (bid := bid) ps 0 p t cs hpp
    rw [hb] at this; cases this
theorem ret_one {w : World} {M : Mem} {k : KT} {d : D} {v : Value} (hM : ∀ ad v, M ad = some v → w.cell? ad = some v) (h : Rep E.tt M k v d) : RetV E w M [.val k] [d] v w := by
  intro base svs os hr
  injection hr with hr; injection hr with h1 h2; subst h1 h2
  refine ⟨fun _ => undef, M, HRel.start hM, ?_⟩
  show Rep E.tt M k v (canon k d)
  rw [h.canon]; exact h
/-- A function that has a body is entered. -/
theorem calls_enter {f : Nat} {fn : Func} {c : Code} (hf : P.funcs[f]? = some fn) (hn : (fn.name == "runtime.NumGoroutine") = false) (hb : fn.body = some c) {args : Array Value} {w : World} {R : Value → World → Prop}
    (h : Calls P f args w fun e w' => ∃ v, e = .returned v ∧ R v w') : CallsF P f args w R := by
  left
  refine ⟨?_, h.mono fun e w' he => ?_⟩
  · have h2 : ¬ fn.name = "runtime.NumGoroutine" := by simpa using hn
    simp [callFunc, hf, h2, hb]
  · obtain ⟨v, rfl, hv⟩ := he; exact hv
end

/-! ### What they give -/
/-! Functions of the library, by contracts: more of them. -/

section
variable {P : Program} {E : Env}
/-- A function of plain data that leaves the world as it was. -/
theorem ext_pure {f : Nat} {fn : Func} {c : Code} (hf : P.funcs[f]? = some fn) (hn : (fn.name == "runtime.NumGoroutine") = false) (hb : fn.body = some c) {ps : List PM} {k : KT} (hs : lk f E.sigs = some ⟨ps, [.val k], false⟩) (hp : allValP ps = true) {g : List D → Option (List D)}
    (h : ∀ ds r, g ds = some r → ∃ d, r = [d] ∧ ∀ M vs, ArgsRep E.tt M ps vs (canonA ps ds) → ∃ v, (∀ M', Rep E.tt M' k v d) ∧ ∀ w, Calls P f vs.toArray w fun e w' => e = .returned v ∧ w' = w) {W0 : World} : ExtOK P E W0 f g := by
  intro sg ds r hsg hr w M vs X hS hX ha
  rw [hs] at hsg; injection hsg with hsg; subst hsg
  obtain ⟨d, rfl, h2⟩ := h ds r hr
  obtain ⟨ha, hM⟩ := vals_of hp ha
  obtain ⟨v, h3, h4⟩ := h2 M vs ha
  refine calls_enter hf hn hb ((h4 w).mono fun e w' he => ?_)
  obtain ⟨rfl, rfl⟩ := he
  exact ⟨v, rfl, ret_of hp (ret_one hM (h3 M))⟩

theorem indexByte_le (l : List UInt8) (c : UInt8) : Lib.indexByte l c ≤ l.length := by
  induction l with
  | nil => simp [Lib.indexByte]
  | cons b l ih =>
    simp only [Lib.indexByte, List.length_cons]
    split
    · omega
    · split <;> omega
theorem indexByte_wf {l : List UInt8} (h : l.length ≤ maxLen) (c : UInt8) : (Lit.int .i64 (Lib.indexByte l c)).wf = true := by
  have h1 := Lib.indexByte_ge l c
  have h2 := indexByte_le l c
  have h3 : maxLen = 9223372036854775807 := by decide
  simp only [Lit.wf, IntKind.min, IntKind.max, IntKind.signed, IntKind.bits, Bool.and_eq_true, decide_eq_true_eq, if_true]
  omega

end

/-! Functions of the library, by contracts: those that lay new memory, those that are never reached. -/

section
variable {P : Program} {E : Env}
/-- The memory behind a call that only lays new blocks. -/
def growMem (M : Mem) (w w' : World) : Mem := fun ad => if ad.block < w.heap.size then M ad else w'.cell? ad
theorem cell_lt {w : World} {ad : Addr} {v : Value} (h : w.cell? ad = some v) : ad.block < w.heap.size := by
  refine Classical.byContradiction fun hn => ?_
  have : w.heap[ad.block]? = none := Array.getElem?_eq_none (by omega)
  simp [World.cell?, this] at h
theorem HRel.grow {tt : TT} {X : Nat → Prop} {w w' : World} {M : Mem} (hM : ∀ ad v, M ad = some v → w.cell? ad = some v) (hB : Go.RowKit.Below w.heap.size w w') (ι : Nat → Value) : HRel tt X w M ι (growMem M w w') (fun _ => none) w' := by
  refine ⟨fun id o h => (by cases h), fun id id2 o o2 b h => (by cases h), fun id o b h => (by cases h), ?_, ?_, ?_, hB.os, hB.tape, hB.output, hB.size, fun b hb _ => hB.block b hb⟩
  · intro ad v h
    unfold growMem at h
    split at h
    · rename_i hlt
      rw [hB.cell hlt]; exact hM ad v h
    · exact h
  · intro ad v h
    unfold growMem
    rw [if_pos (cell_lt (hM ad v h))]; exact h
  · intro ad hlt _
    unfold growMem
    rw [if_pos hlt]
def RepAll (tt : TT) (M : Mem) : List KT → List Value → List D → Prop
  | [], [], [] => True
  | k :: ks, v :: vs, d :: ds => Rep tt M k v d ∧ RepAll tt M ks vs ds
  | _, _, _ => False
def valsFrom : List KT → Nat → List D → List SV
  | [], _, _ => []
  | k :: r, j, ds => .val k (canon k (ds.getD j .no)) :: valsFrom r (j + 1) ds
theorem resSV_valsK : ∀ (ks : List KT) (base j : Nat) (ds : List D), resSV (ks.map RM.val) base j ds = some (valsFrom ks j ds, []) := by
  intro ks
  induction ks with
  | nil => intro base j ds; rfl
  | cons k r ih => intro base j ds; simp only [List.map_cons, resSV, ih, opt, valsFrom]
theorem valsFrom_rel {tt : TT} {ι : Nat → Value} {M : Mem} : ∀ (ks : List KT) (us : List Value) (ds pre : List D), RepAll tt M ks us ds → us.length = (valsFrom ks pre.length (pre ++ ds)).length ∧
    ∀ (i : Nat) (s : SV) (x : Value), (valsFrom ks pre.length (pre ++ ds))[i]? = some s → us[i]? = some x → SVRel0 tt ι M s x := by
  intro ks
  induction ks with
  | nil =>
    intro us ds pre h
    cases us with
    | nil => exact ⟨rfl, fun i s x h => by simp [valsFrom] at h⟩
    | cons _ _ => cases ds <;> exact h.elim
  | cons k r ih =>
    intro us ds pre h
    cases us with
    | nil => cases ds <;> exact h.elim
    | cons u us =>
      cases ds with
      | nil => exact h.elim
      | cons d ds =>
        obtain ⟨h1, h2⟩ := h
        have hg : (pre ++ d :: ds).getD pre.length .no = d := by simp [List.getD_eq_getElem?_getD]
        have hr := ih us ds (pre ++ [d]) h2
        rw [List.length_append, List.append_assoc] at hr
        simp only [List.length_singleton, List.singleton_append] at hr
        simp only [valsFrom, hg]
        refine ⟨by simp [hr.1], fun i s x hs hx => ?_⟩
        cases i with
        | zero =>
          simp at hs hx; subst hs hx
          show Rep tt M k u (canon k d)
          rw [h1.canon]; exact h1
        | succ i => exact hr.2 i s x (by simpa using hs) (by simpa using hx)
theorem ret_grow {w w' : World} {M : Mem} {ks : List KT} {us : List Value} {ds : List D} (hM : ∀ ad v, M ad = some v → w.cell? ad = some v) (hB : Go.RowKit.Below w.heap.size w w') (h : RepAll E.tt (growMem M w w') ks us ds) : RetV E w M (ks.map RM.val) ds (resultVal us) w' := by
  intro base svs os hr
  rw [resSV_valsK] at hr
  injection hr with hr; injection hr with h1 h2; subst h1 h2
  refine ⟨fun _ => undef, growMem M w w', HRel.grow hM hB _, ?_⟩
  obtain ⟨q1, q2⟩ := valsFrom_rel (ι := fun _ => undef) ks us ds [] h
  simp only [List.length_nil, List.nil_append] at q1 q2
  have hk : ∀ s ∈ valsFrom ks 0 ds, ∃ k d, s = .val k d := by
    have key : ∀ (ks : List KT) (j : Nat), ∀ s ∈ valsFrom ks j ds, ∃ k d, s = .val k d := by
      intro ks
      induction ks with
      | nil => intro j s h; cases h
      | cons k r ih =>
        intro j s h
        rcases List.mem_cons.1 h with rfl | h
        · exact ⟨_, _, rfl⟩
        · exact ih _ s h
    exact key ks 0
  generalize valsFrom ks 0 ds = l at q1 q2 hk
  match l, us, q1, q2, hk with
  | [s], [u], _, q2, hk =>
    obtain ⟨k, d, rfl⟩ := hk s List.mem_cons_self
    exact q2 0 _ u rfl rfl
  | [], [], _, q2, _ => exact ⟨[], rfl, rfl, q2⟩
  | a :: b :: r, u :: x :: v, q1, q2, _ => exact ⟨u :: x :: v, rfl, q1, q2⟩
  | [], _ :: _, q1, _, _ => cases q1
  | [_], [], q1, _, _ => cases q1
  | [_], _ :: _ :: _, q1, _, _ => simp at q1
  | _ :: _ :: _, [], q1, _, _ => simp at q1
  | _ :: _ :: _, [_], q1, _, _ => simp at q1
/-- A function of plain data that lays new memory only. -/
theorem ext_grow {f : Nat} {fn : Func} {c : Code} (hf : P.funcs[f]? = some fn) (hn : (fn.name == "runtime.NumGoroutine") = false) (hb : fn.body = some c) {ps : List PM} {rs : List RM} {ks : List KT} (hs : lk f E.sigs = some ⟨ps, rs, false⟩) (hrs : rs = ks.map RM.val) (hp : allValP ps = true) {g : List D → Option (List D)} {W0 : World}
    (h : ∀ ds r, g ds = some r → ∀ (w : World) M vs, Same W0 w → (∀ ad v, M ad = some v → w.cell? ad = some v) → ArgsRep E.tt M ps vs (canonA ps ds) →
      Calls P f vs.toArray w fun e w' => ∃ us, e = .returned (resultVal us) ∧ Go.RowKit.Below w.heap.size w w' ∧ RepAll E.tt (growMem M w w') ks us r) : ExtOK P E W0 f g := by
  intro sg ds r hsg hr w M vs X hS hX ha
  rw [hs] at hsg; injection hsg with hsg; subst hsg
  obtain ⟨ha, hM⟩ := vals_of hp ha
  refine calls_enter hf hn hb ((h ds r hr w M vs hS hM ha).mono fun e w' he => ?_)
  obtain ⟨us, rfl, hB, hrep⟩ := he
  refine ⟨_, rfl, ret_of hp ?_⟩
  subst hrs
  exact ret_grow hM hB hrep

/-- A function that is never reached. -/
def xNone : List D → Option (List D) := fun _ => none
theorem extNone {f : Nat} {W0 : World} : ExtOK P E W0 f xNone := fun sg ds r _ hr => by cases hr

/-! ### Strings: searches for one byte -/
def xIndex1 : List D → Option (List D)
  | [.str a, .str [c]] => some [.int (Lib.indexByte a c)]
  | _ => none
def xCount1 : List D → Option (List D)
  | [.str a, .str [c]] => some [.int (Lib.countByte a c : Int)]
  | _ => none
theorem ba_one {t : ByteArray} {c : UInt8} (h : t.data.toList = [c]) : t = ⟨#[c]⟩ := by
  cases t with
  | mk d => congr 1; apply Array.toList_inj.1; rw [h]
theorem extIndex1 {f : Nat} {fn : Func} {c : Code} (hf : P.funcs[f]? = some fn) (hn : (fn.name == "runtime.NumGoroutine") = false) (hb : fn.body = some c) (hs : lk f E.sigs = some ⟨[.val .str, .val .str], [.val (.int .i64)], false⟩)
    (hc : ∀ (s : ByteArray) (c : UInt8) (w : World), Calls P f #[.string s, .string ⟨#[c]⟩] w fun e w' => e = .returned (.int .i64 (Lib.indexByte s.data.toList c)) ∧ w' = w) {W0 : World} : ExtOK P E W0 f xIndex1 := by
  refine ext_pure hf hn hb hs rfl fun ds r hr => ?_
  unfold xIndex1 at hr
  split at hr
  · rename_i a c
    injection hr with hr
    refine ⟨_, hr.symm, fun M vs ha => ?_⟩
    replace ha : ArgsRep E.tt M [.val .str, .val .str] vs [.str a, .str [c]] := ha
    obtain ⟨v1, vs, x1, xs, rfl, e, h1, ha⟩ := args_cons ha
    injection e with e3 e4; subst e3 e4
    obtain ⟨v2, vs, x2, xs, rfl, e, h2, ha⟩ := args_cons ha
    injection e with e3 e4; subst e3 e4
    obtain ⟨rfl, _⟩ := args_nil ha
    obtain ⟨s, rfl, e1, hsz⟩ := h1.inv_str
    obtain ⟨t, rfl, e2, _⟩ := h2.inv_str
    injection e1 with e1; injection e2 with e2
    subst e1
    rw [ba_one e2.symm]
    exact ⟨_, fun M' => .int _ _ (indexByte_wf (by rw [Array.length_toList]; exact hsz) _), fun w => hc s c w⟩
  · cases hr
theorem count_wf {l : List UInt8} (h : l.length ≤ maxLen) (c : UInt8) : (Lit.int .i64 (Lib.countByte l c : Int)).wf = true := by
  have h2 : Lib.countByte l c ≤ l.length := List.count_le_length
  have h3 : maxLen = 9223372036854775807 := by decide
  simp only [Lit.wf, IntKind.min, IntKind.max, IntKind.signed, IntKind.bits, Bool.and_eq_true, decide_eq_true_eq, if_true]
  omega
theorem extCount1 {f : Nat} {fn : Func} {c : Code} (hf : P.funcs[f]? = some fn) (hn : (fn.name == "runtime.NumGoroutine") = false) (hb : fn.body = some c) (hs : lk f E.sigs = some ⟨[.val .str, .val .str], [.val (.int .i64)], false⟩)
    (hc : ∀ (s : ByteArray) (c : UInt8) (w : World), Calls P f #[.string s, .string ⟨#[c]⟩] w fun e w' => e = .returned (.int .i64 (Lib.countByte s.data.toList c : Int)) ∧ w' = w) {W0 : World} : ExtOK P E W0 f xCount1 := by
  refine ext_pure hf hn hb hs rfl fun ds r hr => ?_
  unfold xCount1 at hr
  split at hr
  · rename_i a c
    injection hr with hr
    refine ⟨_, hr.symm, fun M vs ha => ?_⟩
    replace ha : ArgsRep E.tt M [.val .str, .val .str] vs [.str a, .str [c]] := ha
    obtain ⟨v1, vs, x1, xs, rfl, e, h1, ha⟩ := args_cons ha
    injection e with e3 e4; subst e3 e4
    obtain ⟨v2, vs, x2, xs, rfl, e, h2, ha⟩ := args_cons ha
    injection e with e3 e4; subst e3 e4
    obtain ⟨rfl, _⟩ := args_nil ha
    obtain ⟨s, rfl, e1, hsz⟩ := h1.inv_str
    obtain ⟨t, rfl, e2, _⟩ := h2.inv_str
    injection e1 with e1; injection e2 with e2
    subst e1
    rw [ba_one e2.symm]
    exact ⟨_, fun M' => .int _ _ (count_wf (by rw [Array.length_toList]; exact hsz) _), fun w => hc s c w⟩
  · cases hr
end

/-! strconv.Itoa, by its contract; the table that it reads. -/

section
variable {P : Program} {E : Env}
end

/-! ### strings.Index -/
section
variable {P : Program} {E : Env}
end

/-! ### strings.Join -/
section
variable {P : Program} {E : Env}
end
end Go.Proofs.YtcmeincdmphaoaaDoor.DS

namespace Go.Proofs.YtcmeincdmphaoaaDoor.DS
open Go.Shelf Go.RowKit Go.Proofs

/-! ### String, exactly -/
section
variable {P : Program} {ρ : Ren}
theorem grown_freeze (w : World) (g n : Nat) : w.grownBy (w.drew.freeze ⟨g, 0, none⟩ n) (some g) := by
  unfold World.freeze
  split
  · exact ⟨rfl, rfl, rfl, Nat.le_refl _, fun _ _ _ => rfl⟩
  · refine ⟨rfl, rfl, rfl, by simp, fun k hk hn => ?_⟩
    simp only [Array.getElem?_modify]
    rw [if_neg (fun e => hn (by rw [← e]))]; rfl
set_option maxHeartbeats 2000000 in
set_option maxRecDepth 100000 in
/-- A builder that holds bytes: its row's bytes are frozen, nothing else turns. -/
theorem string_some (L : Lays.n169 P ρ) (X : Builder.Extra P ρ) (b g cap : Nat) (p : Value) (cur : Array Value) (fr : Nat × Nat) (l : List UInt8) (w : World) (hbk : w.heap[b]? = some (.cells #[p, .slice (some ⟨g, 0, none⟩) l.length cap] (ρ.t 72) (0, 0)))
    (hg : w.heap[g]? = some (.cells cur (ρ.t 5) fr)) (h0 : l ≠ []) (hle : l.length ≤ cap) (hm : cap ≤ maxLen) (hs : cur.size = cap) (hc : ∀ (j : Nat) (x : UInt8), l[j]? = some x → cur[j]? = some (Value.int .u8 (x.toNat : Int))) :
    Calls P (ρ.f 169) #[.pointer (some ⟨b, 0, none⟩)] w fun e w' => e = .returned (.string ⟨l.toArray⟩) ∧ w.grownBy w' (some g) := by
  have hl0 : l.length ≠ 0 := by simpa using h0
  have c1 : w.drew.cell? ⟨b, 1, none⟩ = some (.slice (some ⟨g, 0, none⟩) l.length cap) := by
    have : w.drew.heap[b]? = some (.cells #[p, .slice (some ⟨g, 0, none⟩) l.length cap] (ρ.t 72) (0, 0)) := hbk
    rw [Lib.cell_of_heap this]; rfl
  have hgd : w.drew.heap[g]? = some (.cells cur (ρ.t 5) fr) := hg
  have hSD : (Builtin.unsafeSliceData_ #[(ρ.t 37)] (ρ.t 127) #[.slice (some ⟨g, 0, none⟩) l.length cap]).run P w.drew = .ok (.pointer (some ⟨g, 0, none⟩)) w.drew :=
    Lib.run_unsafeSliceData_row _ _ _ _ _ _ (by omega)
  have hUS : (Builtin.unsafeString_ #[(ρ.t 127), (ρ.t 3)] (ρ.t 9) #[.pointer (some ⟨g, 0, none⟩), .int .i64 l.length]).run P w.drew = .ok (.string ⟨l.toArray⟩) (w.drew.freeze ⟨g, 0, none⟩ l.length) := by
    refine Lib.run_unsafeString_row w.drew (ρ.t 127) (ρ.t 3) (ρ.t 9) (ρ.t 5) L.t127 X.cellsByte g cur.size (by simp [World.shape?, hgd]) l h0 (by omega) (by unfold maxLen at hm; omega) ?_
    intro j x hx
    rw [Addr.add_lit, Lib.cell_of_heap hgd, Nat.zero_add]
    exact hc j x hx
  have hgr := grown_freeze w g l.length
  clear hm hle hs hc hg hgd hbk
  have mixed := L.mixed
  have t72 := L.t72; have a72 := L.a72; have z72 := L.z72; have v72 := L.v72; have u72 := run_underlying L.t72
  have t70 := L.t70; have a70 := L.a70; have z70 := L.z70; have v70 := L.v70; have u70 := run_underlying L.t70
  have t37 := L.t37; have a37 := L.a37; have z37 := L.z37; have v37 := L.v37; have u37 := run_underlying L.t37
  have t127 := L.t127; have a127 := L.a127; have z127 := L.z127; have v127 := L.v127; have u127 := run_underlying L.t127
  have t3 := L.t3; have a3 := L.a3; have z3 := L.z3; have v3 := L.v3; have u3 := run_underlying L.t3
  have t9 := L.t9; have a9 := L.a9; have z9 := L.z9; have v9 := L.v9; have u9 := run_underlying L.t9
  have t5 := X.t5; have a5 := X.a5; have z5 := X.z5; have v5 := X.v5; have u5 := run_underlying X.t5
  go_enter L.f169, Body.n169_ntmps ρ
  go_wp2
  go_region_o
  all_goals (go_wp2; go_ret; exact ⟨rfl, hgr⟩)
set_option maxHeartbeats 2000000 in
set_option maxRecDepth 100000 in
/-- A builder without bytes: no block turns. -/
theorem string_none (L : Lays.n169 P ρ) (X : Builder.Extra P ρ) (b : Nat) (p : Value) (a : Option Addr) (cap : Nat) (w w2 : World) (q : Option Addr) (hbk : w.heap[b]? = some (.cells #[p, .slice a 0 cap] (ρ.t 72) (0, 0)))
    (hSD : (Builtin.unsafeSliceData_ #[(ρ.t 37)] (ρ.t 127) #[.slice a 0 cap]).run P w.drew = .ok (.pointer q) w2) (hw2 : w2 = w.drew ∨ ∃ o, w2 = w.drew.alloc o) :
    Calls P (ρ.f 169) #[.pointer (some ⟨b, 0, none⟩)] w fun e w' => e = .returned (.string ⟨#[]⟩) ∧ w.grownBy w' none := by
  have hlt : b < w.heap.size := by
    rcases Nat.lt_or_ge b w.heap.size with h' | h'
    · exact h'
    · simp [Array.getElem?_eq_none h'] at hbk
  have hUS := Any.unsafeString_none L X
  have c1 : w.drew.cell? ⟨b, 1, none⟩ = some (.slice a 0 cap) := by
    have : w.drew.heap[b]? = some (.cells #[p, .slice a 0 cap] (ρ.t 72) (0, 0)) := hbk
    rw [Lib.cell_of_heap this]; rfl
  have c0 : w.cell? ⟨b, 1, none⟩ = some (.slice a 0 cap) := c1
  have mixed := L.mixed
  have t72 := L.t72; have a72 := L.a72; have z72 := L.z72; have v72 := L.v72; have u72 := run_underlying L.t72
  have t70 := L.t70; have a70 := L.a70; have z70 := L.z70; have v70 := L.v70; have u70 := run_underlying L.t70
  have t37 := L.t37; have a37 := L.a37; have z37 := L.z37; have v37 := L.v37; have u37 := run_underlying L.t37
  have t127 := L.t127; have a127 := L.a127; have z127 := L.z127; have v127 := L.v127; have u127 := run_underlying L.t127
  have t3 := L.t3; have a3 := L.a3; have z3 := L.z3; have v3 := L.v3; have u3 := run_underlying L.t3
  have t9 := L.t9; have a9 := L.a9; have z9 := L.z9; have v9 := L.v9; have u9 := run_underlying L.t9
  have t5 := X.t5; have a5 := X.a5; have z5 := X.z5; have v5 := X.v5; have u5 := run_underlying X.t5
  rcases hw2 with rfl | ⟨o, rfl⟩
  · have hgr : w.grownBy w.drew none := ⟨rfl, rfl, rfl, Nat.le_refl _, fun _ _ _ => rfl⟩
    go_enter L.f169, Body.n169_ntmps ρ
    go_wp2
    go_region_o
    all_goals (go_wp2; go_ret; exact ⟨rfl, hgr⟩)
  · have c2 : (w.drew.alloc o).cell? ⟨b, 1, none⟩ = some (.slice a 0 cap) := by
      have : (w.drew.alloc o).heap[b]? = _ := (Lib.alloc_old w.drew _ b hlt).trans hbk
      rw [Lib.cell_of_heap this]; rfl
    have c3 : (w.alloc o).drew.cell? ⟨b, 1, none⟩ = some (.slice a 0 cap) := c2
    have hgr : w.grownBy (w.drew.alloc o) none := ⟨rfl, rfl, rfl, by simp, fun k hk _ => Lib.alloc_old w.drew o k hk⟩
    go_enter L.f169, Body.n169_ntmps ρ
    go_wp2
    go_region_o
    all_goals (go_wp2; go_ret; exact ⟨rfl, hgr⟩)
end
end Go.Proofs.YtcmeincdmphaoaaDoor.DS

namespace Go.Proofs.YtcmeincdmphaoaaDoor.DS
open Go.Shelf Go.RowKit Go.Proofs

section
variable {P : Program} {E : Env}
/-- A builder's handle as an argument. -/
theorem bld_args {t e : TypeId} {ti ei : TI} (ht : lk t E.tt = some ti) (h2 : ti.cells.length = 2) (he : lk e E.tt = some ei) {X : Nat → Prop} {w : World} {M : Mem} {vs : List Value} {d : D} (h : ArgsOK E X w M [.box t [.self, .row e]] vs [d]) :
    ∃ ι b p v, vs = [.pointer (some ⟨b, 0, none⟩)] ∧ ι 0 = .pointer (some ⟨b, 0, none⟩) ∧ w.heap[b]? = some (.cells #[p, v] t (0, 0)) ∧ (p = .pointer none ∨ p = .pointer (some ⟨b, 0, none⟩)) ∧ ι (rowId 0 1) = v ∧ (∃ a n c, v = .slice a n c) ∧
      ArrRel E.tt M w e ei v (d.cell 1).toList ∧ HRel E.tt X w M ι M (fun i => lk i [(0, Obj.box t (.cells [.selfn 0, .own (rowId 0 1)])), (rowId 0 1, .arr e (d.cell 1).toList)]) w := by
  obtain ⟨hl, sl, os, ι, hp, H, hsl, _⟩ := h
  simp only [paramSt, opt_s] at hp
  injection hp with hp
  injection hp with hp1 hp2
  subst hp1 hp2
  obtain ⟨⟨u, hu, hr⟩, _⟩ := hsl 0 (.bptr 0 t 0 (.agg t)) rfl
  obtain ⟨_, b, hι, rfl⟩ := hr
  obtain ⟨ti', b', cs, ht', hι', hh, hcs, hlen, hc⟩ := H.obj 0 (Obj.box t (.cells [.selfn 0, .own (rowId 0 1)])) rfl
  rw [ht] at ht'; cases ht'
  rw [hι] at hι'
  injection hι' with hι'; injection hι' with hι'; injection hι' with hι'; subst hι'
  rw [h2] at hcs
  obtain ⟨p, v, rfl⟩ : ∃ p v, cs = #[p, v] := by
    obtain ⟨l⟩ := cs
    match l, hcs with
    | [p, v], _ => exact ⟨p, v, rfl⟩
  obtain ⟨ei', he', _, harr⟩ := H.obj (rowId 0 1) (.arr e (d.cell 1).toList) rfl
  rw [he] at he'; cases he'
  obtain ⟨hv, hsl⟩ := hc 1 (.own (rowId 0 1)) v rfl rfl
  have hpv := hc 0 (.selfn 0) p rfl rfl
  refine ⟨ι, b, p, v, ?_, hι, hh, ?_, hv.symm, by rw [hv]; exact hsl, by rw [hv]; exact harr, H⟩
  · match vs, hl, hu with
    | [x], _, hu => simp at hu; subst hu; rfl
  · rcases hpv with h | ⟨b2, h, h'⟩
    · exact .inl h
    · rw [hι] at h
      injection h with h; injection h with h; injection h with h; subst h
      exact .inr h'
/-- What was handed over is gone. -/
theorem HRel.free {tt : TT} {X : Nat → Prop} {w w' : World} {M : Mem} {ι : Nat → Value} {objs : Nat → Option Obj} (H : HRel tt X w M ι M objs w) {row : Option Nat} (hg : w.grownBy w' row) (hr : ∀ g, row = some g → ∃ id o, objs id = some o ∧ blockOf (ι id) = some g) :
    HRel tt X w M ι M (fun _ => none) w' := by
  refine ⟨fun _ _ h => (by cases h), fun _ _ _ _ _ h => (by cases h), fun _ _ _ h => (by cases h), ?_, H.memx, H.memB, hg.os, hg.tape, hg.output, hg.size, ?_⟩
  · intro ad v hv
    have hc := H.mem ad v hv
    refine (World.cell?_of_block (w := w) (hg.block ad.block (cell_lt hc) (fun e => ?_))).trans hc
    obtain ⟨id, o, ho, hb⟩ := hr ad.block e.symm
    have := (H.own id o ad.block ho hb).2 ad.off ad.spot
    rw [show (⟨ad.block, ad.off, ad.spot⟩ : Addr) = ad from rfl, hv] at this
    cases this
  · intro b hb hX
    refine hg.block b hb (fun e => ?_)
    obtain ⟨id, o, ho, hbb⟩ := hr b e.symm
    rcases (H.own id o b ho hbb).1 with h | h
    · omega
    · exact hX h
def xString : List D → Option (List D)
  | [d] => some [.str (dBytes (d.cell 1).toList)]
  | _ => none
theorem extString {ρ : Ren} (L : Lays.n169 P ρ) (XB : Builder.Extra P ρ) {f : Nat} {t e : TypeId} (e1 : ρ.f 169 = f) (e2 : ρ.t 72 = t) (e3 : ρ.t 5 = e) {fn : Func} {c : Code} (hf : P.funcs[f]? = some fn) (hn : (fn.name == "runtime.NumGoroutine") = false) (hb : fn.body = some c)
    {ti ei : TI} (ht : lk t E.tt = some ti) (h2 : ti.cells.length = 2) (he : lk e E.tt = some ei) (hk : ei.kt = .int .u8) (hc : ei.cells.length = 1) (hs : lk f E.sigs = some ⟨[.box t [.self, .row e]], [.val .str], true⟩) {W0 : World} : ExtOK P E W0 f xString := by
  intro sg ds r hsg hr w M vs X hS hX ha
  rw [hs] at hsg; injection hsg with hsg; subst hsg
  unfold xString at hr
  split at hr
  · rename_i d
    injection hr with hr; subst hr
    obtain ⟨ι, b, p, v, rfl, hι, hh, hp, hιr, ⟨a, n, cc, hv⟩, harr, H⟩ := bld_args ht h2 he ha
    clear ha
    generalize (d.cell 1).toList = xs at *
    have post : ∀ (row : Option Nat) (l : List UInt8) (w' : World), l.length ≤ maxLen → w.grownBy w' row → (∀ g, row = some g → blockOf v = some g) → l = dBytes xs →
        RetOK E X w M (Sig.outs ⟨[.box t [.self, .row e]], [.val .str], true⟩) [.val .str] [.pointer (some ⟨b, 0, none⟩)] [.str (dBytes xs)] (.string ⟨l.toArray⟩) w' := by
      intro row l w' hlm hg hrow hl base bid svs os hres _
      injection hres with hres
      injection hres with hr1 hr2
      subst hr1 hr2
      refine ⟨ι, M, ?_, ?_, fun i hi => (by cases hi), fun p t cs h => (by simp [Sig.outs] at h)⟩
      · have := H.free hg (fun g e => ⟨rowId 0 1, _, rfl, by rw [hιr]; exact hrow g e⟩)
        exact this
      · rw [← hl]
        show Rep E.tt M .str (.string ⟨l.toArray⟩) (.str l)
        have := Rep.str (tt := E.tt) (M := M) ⟨l.toArray⟩ (by show l.toArray.size ≤ maxLen; rw [List.size_toArray]; exact hlm)
        simpa using this
    subst e1 e2 e3
    refine calls_enter hf hn hb ?_
    rcases harr with ⟨rfl, hes⟩ | ⟨g, cap, cur, tt', fr, us, rfl, hg, hle, hm, hcs, _, hall⟩
    · subst hes
      refine (string_none L XB b p none 0 w w.drew none hh rfl (.inl rfl)).mono fun e w' hq => ?_
      obtain ⟨rfl, hgr⟩ := hq
      exact ⟨_, rfl, post none [] w' (Nat.zero_le _) hgr (fun _ h => by cases h) rfl⟩
    · obtain ⟨tv, rfl⟩ := tt'
      cases xs with
      | nil =>
        by_cases hc0 : cap = 0
        · subst hc0
          have hSD : (Builtin.unsafeSliceData_ #[(ρ.t 37)] (ρ.t 127) #[.slice (some ⟨g, 0, none⟩) 0 0]).run P w.drew = .ok (.pointer (some ⟨w.drew.heap.size, 0, none⟩)) (w.drew.alloc (.view ⟨g, 0, none⟩ (ρ.t 5))) :=
            Lib.run_unsafeSliceData_zero w.drew _ _ (ρ.t 5) L.t127 ⟨g, 0, none⟩ 0 ((ρ.t 5), cur.size) (by have hg' : w.drew.heap[g]? = some (.cells cur (ρ.t 5) fr) := hg; simp [World.shape?, hg'])
          refine (string_none L XB b p _ 0 w _ _ hh hSD (.inr ⟨_, rfl⟩)).mono fun e w' hq => ?_
          obtain ⟨rfl, hgr⟩ := hq
          refine ⟨_, rfl, ?_⟩
          exact post none [] w' (Nat.zero_le _) hgr (fun _ h => by cases h) rfl
        · have hSD : (Builtin.unsafeSliceData_ #[(ρ.t 37)] (ρ.t 127) #[.slice (some ⟨g, 0, none⟩) 0 cap]).run P w.drew = .ok (.pointer (some ⟨g, 0, none⟩)) w.drew :=
            Lib.run_unsafeSliceData_row _ _ _ _ _ _ hc0
          refine (string_none L XB b p _ cap w _ _ hh hSD (.inl rfl)).mono fun e w' hq => ?_
          obtain ⟨rfl, hgr⟩ := hq
          refine ⟨_, rfl, ?_⟩
          exact post none [] w' (Nat.zero_le _) hgr (fun _ h => by cases h) rfl
      | cons x0 r0 =>
        have hne : dBytes (x0 :: r0) ≠ [] := by simp [dBytes]
        generalize x0 :: r0 = xs at *
        have hlen : (dBytes xs).length = xs.length := by simp [dBytes]
        have hh' := hh
        rw [← hlen] at hh'
        refine (string_some L XB b g cap p cur fr (dBytes xs) w hh' hg hne (by rw [hlen]; exact hle) hm (by rw [hcs, hc, Nat.mul_one]) ?_).mono fun e w' hq => ?_
        · intro j x hx
          have hj : j < xs.length := by
            have := (List.getElem?_eq_some_iff.1 hx).1
            rwa [hlen] at this
          obtain ⟨q1, q2, q3⟩ := hall j hj
          rw [hk] at q3
          obtain ⟨u1, u2, u3⟩ := q3.inv_int
          have := q2 0 (us j) (by rw [u1]; rfl)
          rw [hc, Nat.mul_one, Nat.add_zero] at this
          rw [this, u1]
          simp only [dBytes, List.getElem?_map, List.getElem?_eq_getElem hj, Option.map_some] at hx
          injection hx with hx
          rw [← hx]
          simp only [Lit.wf, IntKind.min, IntKind.max, IntKind.signed, IntKind.bits, Bool.and_eq_true, decide_eq_true_eq] at u3
          have h3 : (0 : Int) ≤ (xs[j]).toInt ∧ (xs[j]).toInt ≤ 255 := by simpa using u3
          congr 2
          simp
          omega
        · obtain ⟨rfl, hgr⟩ := hq
          exact ⟨_, rfl, post (some g) _ w' (by rw [hlen]; exact Nat.le_trans hle hm) hgr (fun g' h => by injection h with h; subst h; rfl) rfl⟩
  · cases hr

def xCheck : List D → Option (List D)
  | [d] => some [.agg [.no, .list (d.cell 1).toList]]
  | _ => none
theorem extCheck {f : Nat} {t e : TypeId} {fn : Func} {c : Code} (hf : P.funcs[f]? = some fn) (hn : (fn.name == "runtime.NumGoroutine") = false) (hb : fn.body = some c)
    {ti ei : TI} (ht : lk t E.tt = some ti) (h2 : ti.cells.length = 2) (he : lk e E.tt = some ei) (hpos : 0 < ei.cells.length) (hs : lk f E.sigs = some ⟨[.box t [.self, .row e]], [], false⟩)
    (hused : ∀ (b : Nat) (w : World), w.cell? ⟨b, 0, none⟩ = some (.pointer (some ⟨b, 0, none⟩)) → Calls P f #[.pointer (some ⟨b, 0, none⟩)] w fun e w' => e = .returned (.tuple #[]) ∧ w' = w)
    (hfresh : ∀ (b : Nat) (w : World), w.cell? ⟨b, 0, none⟩ = some (.pointer none) → w.shape? b = some (t, 2) → w.frozen? ⟨b, 0, none⟩ = false → Calls P f #[.pointer (some ⟨b, 0, none⟩)] w fun e w' => e = .returned (.tuple #[]) ∧ w' = w.setCell ⟨b, 0, none⟩ (.pointer (some ⟨b, 0, none⟩)))
    {W0 : World} : ExtOK P E W0 f xCheck := by
  intro sg ds r hsg hr w M vs X hS hX ha
  rw [hs] at hsg; injection hsg with hsg; subst hsg
  unfold xCheck at hr
  split at hr
  · rename_i d
    injection hr with hr; subst hr
    obtain ⟨ι, b, p, v, rfl, hι, hh, hp, hιr, ⟨a, n, cc, hv⟩, harr, H⟩ := bld_args ht h2 he ha
    have hlt : b < w.heap.size := (Array.getElem?_eq_some_iff.1 hh).1
    have hbv : blockOf v ≠ some b := by
      have := H.disj 0 (rowId 0 1) _ _ b rfl rfl (by decide) (by rw [hι]; rfl)
      rwa [hιr] at this
    have post : ∀ (w' : World) (p' : Value), w.grownBy w' (some b) → w'.heap[b]? = some (.cells #[p', v] t (0, 0)) → (p' = .pointer none ∨ p' = .pointer (some ⟨b, 0, none⟩)) →
        RetOK E X w M (Sig.outs ⟨[.box t [.self, .row e]], [], false⟩) [] [.pointer (some ⟨b, 0, none⟩)] [.agg [.no, .list (d.cell 1).toList]] (.tuple #[]) w' := by
      intro w' p' hg hh' hp' base bid svs os hres _
      injection hres with hres
      injection hres with hr1 hr2
      subst hr1 hr2
      have hne : rowId (bid 0) 1 ≠ bid 0 := by unfold rowId; omega
      have hother : ∀ k, k < w.heap.size → k ≠ b → w'.heap[k]? = w.heap[k]? := fun k hk hkb => hg.block k hk (fun e => hkb (by injection e))
      have i0 : put (put (fun _ => undef) (bid 0) (Value.pointer (some ⟨b, 0, none⟩))) (rowId (bid 0) 1) v (bid 0) = .pointer (some ⟨b, 0, none⟩) := by
        rw [put_other _ _ _ (fun e => hne e.symm), put_same]
      have i1 : put (put (fun _ => undef) (bid 0) (Value.pointer (some ⟨b, 0, none⟩))) (rowId (bid 0) 1) v (rowId (bid 0) 1) = v := put_same _ _ _
      generalize hιd : put (put (fun _ => undef) (bid 0) (Value.pointer (some ⟨b, 0, none⟩))) (rowId (bid 0) 1) v = ι' at i0 i1
      have hobj : ∀ i o, lk i [(bid 0, Obj.box t (.cells [.selfn (bid 0), .own (rowId (bid 0) 1)])), (rowId (bid 0) 1, Obj.arr e (d.cell 1).toList)] = some o →
          (i = bid 0 ∧ o = Obj.box t (.cells [.selfn (bid 0), .own (rowId (bid 0) 1)])) ∨ (i = rowId (bid 0) 1 ∧ o = Obj.arr e (d.cell 1).toList) := by
        intro i o h
        simp only [lk] at h
        cases hb1 : Nat.beq i (bid 0) with
        | true => rw [hb1] at h; injection h with h; exact .inl ⟨beq_iff.1 hb1, h.symm⟩
        | false =>
          rw [hb1] at h
          cases hb2 : Nat.beq i (rowId (bid 0) 1) with
          | true => rw [hb2] at h; injection h with h; exact .inr ⟨beq_iff.1 hb2, h.symm⟩
          | false => rw [hb2] at h; cases h
      refine ⟨ι', M, ?_, ⟨[], rfl, rfl, fun i s x h => (by simp at h)⟩, fun i hi => (by cases hi), ?_⟩
      · show HRel E.tt X w M ι' M (fun i => lk i [(bid 0, Obj.box t (.cells [.selfn (bid 0), .own (rowId (bid 0) 1)])), (rowId (bid 0) 1, Obj.arr e (d.cell 1).toList)]) w'
        refine ⟨?_, ?_, ?_, ?_, H.memx, H.memB, hg.os, hg.tape, hg.output, hg.size, ?_⟩
        · intro i o ho
          rcases hobj i o ho with ⟨rfl, rfl⟩ | ⟨rfl, rfl⟩
          · refine ⟨ti, b, #[p', v], ht, i0, hh', by rw [h2]; rfl, by rw [h2]; rfl, ?_⟩
            intro j s c hs hc
            match j, hs, hc with
            | 0, hs, hc =>
              simp at hs hc; subst hs hc
              rcases hp' with h | h
              · exact .inl h
              · exact .inr ⟨b, i0, h⟩
            | 1, hs, hc =>
              simp at hs hc; subst hs hc
              exact ⟨i1.symm, a, n, cc, by rw [i1]; exact hv⟩
            | j + 2, hs, hc => simp at hs
          · refine ⟨ei, he, hpos, ?_⟩
            rw [i1]
            refine harr.congr (fun _ _ h => h) (fun k hk => hother k ?_ (fun e => hbv (by rw [← e]; exact hk)))
            exact (H.obj (rowId 0 1) _ rfl).block_lt (by rw [hιr]; exact hk)
        · intro i i' o o' k ho ho' hii hk
          rcases hobj i o ho with ⟨rfl, rfl⟩ | ⟨rfl, rfl⟩ <;> rcases hobj i' o' ho' with ⟨rfl, rfl⟩ | ⟨rfl, rfl⟩
          · exact absurd rfl hii
          · rw [i0] at hk; rw [i1]
            injection hk with hk; subst hk; exact hbv
          · rw [i1] at hk; rw [i0]
            intro h
            injection h with h; subst h; exact hbv hk
          · exact absurd rfl hii
        · intro i o k ho hk
          rcases hobj i o ho with ⟨rfl, rfl⟩ | ⟨rfl, rfl⟩
          · rw [i0] at hk
            exact H.own 0 _ k rfl (by rw [hι]; exact hk)
          · rw [i1] at hk
            exact H.own (rowId 0 1) _ k rfl (by rw [hιr]; exact hk)
        · intro ad u hu
          have hc := H.mem ad u hu
          refine (World.cell?_of_block (w := w) (hother ad.block (cell_lt hc) (fun e => ?_))).trans hc
          have := (H.own 0 _ ad.block rfl (by rw [hι, e]; rfl)).2 ad.off ad.spot
          rw [show (⟨ad.block, ad.off, ad.spot⟩ : Addr) = ad from rfl, hu] at this
          cases this
        · intro k hk hkX
          refine hother k hk (fun e => hkX ?_)
          rcases (H.own 0 _ k rfl (by rw [hι, e]; rfl)).1 with h | h
          · omega
          · exact h
      · intro q t' cs' hq
        simp only [Sig.outs, cond_false] at hq
        match q, hq with
        | 0, hq => simp; exact i0.symm
        | q + 1, hq => simp at hq
    have c0 : w.cell? ⟨b, 0, none⟩ = some p := by rw [Lib.cell_of_heap hh]; rfl
    refine calls_enter hf hn hb ?_
    rcases hp with rfl | rfl
    · refine (hfresh b w c0 (by simp [World.shape?, hh]) (by simp [World.frozen?, hh])).mono fun e w' hq => ?_
      obtain ⟨rfl, rfl⟩ := hq
      refine ⟨_, rfl, post _ (.pointer (some ⟨b, 0, none⟩)) ⟨rfl, rfl, rfl, by simp, fun k hk hn => Below.heap_setCell _ _ _ _ (fun e => hn (by rw [e]))⟩ ?_ (.inr rfl)⟩
      simp [World.setCell, Array.getElem?_modify, hh]
    · refine (hused b w c0).mono fun e w' hq => ?_
      obtain ⟨rfl, rfl⟩ := hq
      exact ⟨_, rfl, post _ (.pointer (some ⟨b, 0, none⟩)) ⟨rfl, rfl, rfl, Nat.le_refl _, fun _ _ _ => rfl⟩ hh (.inr rfl)⟩
  · cases hr
end
end Go.Proofs.YtcmeincdmphaoaaDoor.DS

namespace Go.Proofs.YtcmeincdmphaoaaDoor.DS

end Go.Proofs.YtcmeincdmphaoaaDoor.DS
