/- A law whose answer is a truth value: the contract. -/
import Derived.Test.YtjofkhdnidjleabDoorDtE
import Derived.ProofKit
set_option linter.unusedVariables false
set_option linter.unusedSimpArgs false
namespace Go.Proofs.YtjofkhdnidjleabDoor.DS
open Go.RowKit Go.ChangeShapes

/-- How parameters of these types are handed over. -/
def paramsOf0 (tt : TT) (S : List Nat) : List TypeId → Option (List PM)
  | [] => some []
  | t :: r => opt (lk t tt) fun ti => cond (memN t S) (opt (paramsOf0 tt S r) fun x => some (.val ti.kt :: x)) none
def paramsOf (tt : TT) (ts : List TypeId) : Option (List PM) := cond (npAll tt (npSet tt) (npSet tt)) (paramsOf0 tt (npSet tt) ts) none

section
variable {H : Type} {enc : TypeId × Value → H} {P : Program} {tt : TT} (hT : TTok P tt) (hti : Tight tt) (hel : Elems tt)

include hT hti hel in
theorem open_one {S : List Nat} (hnp : NoPtr tt S) {W : World} {base : Nat} {t : TypeId} {ti : TI} {v : Value} {d : DataW H} {ps : List MemPlace} (ht : lk t tt = some ti) (htS : t ∈ S) (hval : Value.okWide P W .any base t v) (h : DataW.Trod enc P W 0 (fun _ => true) true t v d ps) :
    ∃ x, Rep tt (allMem W) ti.kt v x ∧ dmass x ≤ bulk d := by
  obtain ⟨fuel, hf⟩ := h
  obtain ⟨v', x, h1, h2, h3⟩ := trod_rep hT hti hel hnp fuel t ti _ d ps ht htS hf
  have hu := (hT t ti ht).under
  have hone : ti.kt.single = true → v.cells = #[v] → v' = v := by
    intro hk hc
    have := (h1.cells_single hk).1
    rw [this, hc] at h2
    simpa using h2
  have : v' = v := by
    cases hk : ti.kt with
    | bool => rw [hk] at hu; obtain ⟨b, rfl⟩ := WideShapes.okWide_bool hu.1 hval; exact hone (by rw [hk]; rfl) rfl
    | int k => rw [hk] at hu; obtain ⟨b, rfl⟩ := WideShapes.okWide_int hu.1 hval; exact hone (by rw [hk]; rfl) rfl
    | str => rw [hk] at hu; obtain ⟨b, rfl⟩ := WideShapes.okWide_string hu.1 hval; exact hone (by rw [hk]; rfl) rfl
    | slice e => rw [hk] at hu; obtain ⟨_, _, _, rfl⟩ := WideShapes.okWide_slice hu.1 hval; exact hone (by rw [hk]; rfl) rfl
    | ptr => rw [hk] at h1; cases h1
    | agg u =>
      rw [hk] at hu
      obtain ⟨rfl, fs, hfs, _⟩ := hu
      obtain ⟨cs, rfl, _⟩ := WideShapes.okWide_struct hfs hval
      rw [hk] at h1
      obtain ⟨_, cs', rfl, _⟩ := h1.inv_agg
      simp only [Value.cells] at h2
      congr 1
      exact Array.toList_inj.1 h2
  subst this
  exact ⟨x, h1, h3⟩

include hT hti hel in
theorem open_all {S : List Nat} (hnp : NoPtr tt S) {W : World} {base : Nat} : ∀ (ts : List TypeId) (vs : List Value) (ds : List (DataW H)) (ps : List MemPlace) (pms : List PM), DataW.TrodAll enc P W 0 (fun _ => true) true ts vs ds ps →
    (∀ (j : Nat) t v, ts[j]? = some t → vs[j]? = some v → Value.okWide P W .any base t v) → paramsOf0 tt S ts = some pms → ∃ xs, ArgsRep tt (allMem W) pms vs xs ∧ dmass.dmAll xs ≤ bulk.bulkAll ds := by
  intro ts
  induction ts with
  | nil =>
    intro vs ds ps pms h _ hp
    obtain ⟨rfl, rfl, _⟩ := trodAll_nil h
    injection hp with hp; subst hp
    exact ⟨[], trivial, by simp [dmass.dmAll]⟩
  | cons t ts ih =>
    intro vs ds ps pms h hval hp
    obtain ⟨v, vs', d, ds', p, q, rfl, rfl, rfl, h0, h1⟩ := trodAll_cons h
    obtain ⟨ti, ht, hp⟩ := opt_some.1 hp
    obtain ⟨htS, hp⟩ := cond_some.1 hp
    obtain ⟨x, hx, hp⟩ := opt_some.1 hp
    injection hp with hp; subst hp
    obtain ⟨y, hy1, hy2⟩ := open_one hT hti hel hnp ht (memN_iff.1 htS) (hval 0 t v rfl rfl) h0
    obtain ⟨ys, hys1, hys2⟩ := ih vs' ds' q x h1 (fun j t v h1 h2 => hval (j + 1) t v (by simpa using h1) (by simpa using h2)) hx
    exact ⟨y :: ys, ⟨hy1, hys1⟩, by simp only [dmass.dmAll, bulk.bulkAll]; omega⟩

theorem trodAll_stays {W W' : World} (hl : laidOutB P = true) (hb : Below W.heap.size W W') {sp : Nat → Bool} : ∀ (ts : List TypeId) (vs : List Value) (ds : List (DataW H)) (ps : List MemPlace), (∀ t ∈ ts, P.readableRec t = true ∧ t < P.types.size) →
    DataW.TrodAll enc P W 0 (fun _ => true) true ts vs ds ps → (∀ x ∈ ps, x.block < W.heap.size) → (∀ x ∈ ps, sp x.block = true) → DataW.TrodAll enc P W' 0 sp true ts vs ds ps := by
  intro ts
  induction ts with
  | nil => intro vs ds ps _ h _ _; obtain ⟨rfl, rfl, rfl⟩ := trodAll_nil h; rfl
  | cons t ts ih =>
    intro vs ds ps hr h hlt hsp
    obtain ⟨v, vs', d, ds', p, q, rfl, rfl, rfl, h0, h1⟩ := trodAll_cons h
    obtain ⟨r1, r2⟩ := hr t List.mem_cons_self
    refine ⟨p, q, WideElems.Trod_stays hl r1 r2 h0 (fun x hx => hb.same (hlt x (List.mem_append_left _ hx))) (fun x hx => hsp x (List.mem_append_left _ hx)), ?_, rfl⟩
    exact ih vs' ds' q (fun t ht => hr t (List.mem_cons_of_mem _ ht)) h1 (fun x hx => hlt x (List.mem_append_right _ hx)) (fun x hx => hsp x (List.mem_append_right _ hx))
end

theorem paramsOf0_vals {tt : TT} {S : List Nat} : ∀ (ts : List TypeId) (ps : List PM), paramsOf0 tt S ts = some ps → allValP ps = true := by
  intro ts
  induction ts with
  | nil => intro ps h; injection h with h; subst h; rfl
  | cons t r ih =>
    intro ps h
    obtain ⟨ti, _, h⟩ := opt_some.1 h
    obtain ⟨_, h⟩ := cond_some.1 h
    obtain ⟨x, hx, h⟩ := opt_some.1 h
    injection h with h; subst h
    exact ih x hx

theorem law_contract_at {H : Type} {enc : TypeId × Value → H} {P : Program} {E : Env} {W : World} (hE : EnvOK P E W) (hti : Tight E.tt) (hel : Elems E.tt) {f : Nat} {fn : Func} {c : Code} {sg : Sig} (hf : P.funcs[f]? = some fn) (hname : (fn.name == "runtime.NumGoroutine") = false) (hbody : fn.body = some c)
    (hsg : lk f E.sigs = some sg) (hpm : paramsOf E.tt fn.params.toList = some sg.params) (hrs : sg.results = [.val .bool]) {tb : TypeId} (hrt : fn.resultTypes = #[tb]) (htb : P.underlying tb = some .bool) (hlaid : laidOutB P = true)
    (hread : ∀ t ∈ fn.params.toList, P.readableRec t = true ∧ t < P.types.size) {s : ChangeSpec} (hsv : s.vars = []) {apart fresh handsOn again : Bool} {base : Nat} {args : Array Value} {ds gs : List (DataW H)} {before : List MemPlace}
    (hval : ∀ (j : Nat) t v, fn.params[j]? = some t → args[j]? = some v → Value.okWide P W .any base t v) (hW : DataW.Whole enc P fn.params.toList s.vars apart W args.toList ds gs before)
    (hfn : s.fn H (ds ++ gs) = { results := [.lit (.bool true)], args := ds })
    (hrun : ∀ xs, ArgsRep E.tt (allMem W) sg.params args.toList xs → dmass.dmAll xs ≤ bulk.bulkAll ds → ∃ k, run E k f xs = some [.bool true]) :
    Calls P f args W fun e W' => ∃ v, e = .returned v ∧ s.post enc P fn apart fresh handsOn again W args v W' := by
  have hW' := hW
  obtain ⟨p, q, hA, hV, rfl, hfz, hnd⟩ := hW
  rw [hsv] at hV
  obtain ⟨rfl, rfl⟩ := trodVars_none hV
  obtain ⟨hnp, hpm⟩ := cond_some.1 hpm
  obtain ⟨xs, hx1, hx2⟩ := open_all hE.tt hti hel (npAll_no hnp) _ _ _ _ _ hA (fun j t v h1 h2 => hval j t v (by simpa using h1) (by simpa using h2)) hpm
  obtain ⟨k, hk⟩ := hrun xs hx1 hx2
  have hC := (run_sound hE k f sg xs _ hsg hk W (allMem W) args.toList (fun _ => False) (Same.refl W) (fun _ h => h.elim) (argsOK_of hx1 (fun _ _ h => h))).mono fun v w' hret => ret_vals (noBox_outs (noBox_of_val (paramsOf0_vals _ _ hpm))) hret
  rw [Array.toArray_toList] at hC
  have hent : (callFunc f args).run P W = .ok (.enter f args) W := by
    have h2 : ¬ fn.name = "runtime.NumGoroutine" := by simpa using hname
    simp [callFunc, hf, h2, hbody]
  have hcalls : Calls P f args W (fun | .returned v, w' => RetV E W (allMem W) sg.results [.bool true] v w' | _, _ => False) := by
    rcases hC with ⟨_, h⟩ | ⟨v, w', h, _⟩
    · exact h
    · rw [hent] at h; cases h
  refine hcalls.mono fun e W' he => ?_
  cases e with
  | panicked _ => exact he.elim
  | outgrown => exact he.elim
  | returned v =>
    obtain ⟨ι, M', HR, hv⟩ := he 0 [.val .bool (.bool true)] [] (by rw [hrs]; rfl)
    have hv2 : v = .bool true := (Rep.inv_bool (tt := E.tt) (M := M') (d := .bool true) hv).1
    subst hv2
    have hb : Below W.heap.size W W' := ⟨HR.os, HR.tape, HR.output, HR.size, fun k hk => HR.keep k hk (fun h => h)⟩
    have hlt : ∀ x ∈ p, x.block < W.heap.size := fun x hx => by simpa using hW'.lt x (List.mem_append_left _ hx)
    have hres : ∀ (b : Nat) (sp : Nat → Bool) (hd : Bool), DataW.TrodAll enc P W' b sp hd fn.resultTypes.toList ((Value.bool true).resultList fn.resultTypes.size) (s.fn H (ds ++ [])).results [] := by
      intro b sp hd
      rw [hrt, hfn]
      exact trodAll_cons_mk (shut_bool htb _) trodAll_mk0
    have hargs : ∀ sp : Nat → Bool, (∀ x ∈ p, sp x.block = true) → DataW.TrodAll enc P W' 0 sp true fn.params.toList args.toList (s.fn H (ds ++ [])).args p := by
      intro sp hsp
      rw [hfn]
      exact trodAll_stays hlaid hb _ _ _ _ hread hA hlt hsp
    have hvars : ∀ sp : Nat → Bool, DataW.TrodVars enc P W' sp s.vars (s.fn H (ds ++ [])).vars [] := by
      intro sp
      rw [hsv, hfn]; rfl
    refine ⟨_, rfl, ds, [], p ++ [], [], p, [], hW', hres _ _ _, hargs _ (fun x hx => by simpa using hlt x hx), hvars _, hb.frame _, fun _ => ?_⟩
    refine ⟨ok_one hrt rfl (okWide_bool_mk htb _), [.lit (.bool true)] ++ (s.fn H (ds ++ [])).args, (s.fn H (ds ++ [])).vars, ([] ++ p) ++ [], ⟨[] ++ p, [], ?_, hvars _, rfl, ?_, ?_⟩, fun x hx _ => by simpa using hx⟩
    · have h1 := hres 0 (fun _ => true) true
      rw [hfn] at h1
      exact trodAll_append (hargs _ (fun _ _ => rfl)) h1
    · intro b off hp
      have hp' : MemPlace.cell b off ∈ p := by simpa using hp
      rw [hb.frozen (hlt _ hp')]
      exact hfz b off (by simpa using hp')
    · intro ha
      simpa using hnd ha

end Go.Proofs.YtjofkhdnidjleabDoor.DS
