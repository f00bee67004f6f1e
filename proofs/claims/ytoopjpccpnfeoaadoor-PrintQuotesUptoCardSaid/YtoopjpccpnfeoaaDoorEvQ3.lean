/- An evaluator of the model's code over abstract values, and its soundness, part 3: what it tells of a piece of code, each run of that code does. -/
import Derived.Test.YtoopjpccpnfeoaaDoorEvQ2
import Derived.Deep.AppendSrc
import Derived.Deep.OwnRows
import Derived.Laws.MakeOwn
import Derived.Laws.Externs
import Derived.Lib.Bytealg
import Derived.Lib.BytesEntry
import Derived.MapKept
import Derived.Laws.StructEq
import Derived.ScopeJumps
import Derived.Deep.Quiet
set_option linter.unusedVariables false
set_option linter.unusedSimpArgs false
namespace Go.Ev
set_option linter.unusedSimpArgs false
set_option linter.unusedVariables false
/-! ### strings gone through, panics -/
def evRange {R : Type} (P : Program) (o : Oper) (t : TypeId) (x : Operand) (st : St) (K : X → St → Option R) : Option R :=
  match P.underlying t, opnd st x with
  | some .string, some (.v (.string s)) => fin o { st with nk := st.nk + 1, ar := (st.nk, .iter s 0) :: st.ar } K (.ptr st.nk 0)
  | _, _ => none
def evNext {R : Type} (o : Oper) (x : Operand) (isString : Bool) (st : St) (K : X → St → Option R) : Option R :=
  bif isString then (match opnd st x with
    | some (.ptr k 0) => match look st.ar k with
      | some (.iter s pos) => bif decide (pos < s.size) then
          fin o { st with ar := (k, .iter s (pos + (Utf8.decode s pos).2)) :: st.ar } K (.tuple [.v (.bool true), .v (.int .i64 (pos : Nat)), .v (.int .i32 (Utf8.decode s pos).1)])
        else fin o st K (.tuple [.v (.bool false)])
      | _ => none
    | _ => none) else none
def evPanic {R : Type} (x : Operand) (st : St) (K : X → St → Option R) : Option R :=
  match opnd st x with
  | some (.iface t y) => K (.pan (.iface t y)) st
  | _ => none
section
variable {R : Type} {P : Program} {o : Oper} {st : St} {K : X → St → Option R} {r : R}
theorem evRange_ok {t : TypeId} {x : Operand} (ho : o.op = .range t x) (h : evRange P o t x st K = some r) : ∃ x st', RunsOp P o st x st' ∧ K x st' = some r := by
  unfold evRange at h
  split at h
  · rename_i s hu hx
    refine runs_new h (fun G ι ok a w hs => ⟨.pointer (some ⟨w.heap.size, 0, none⟩), w.alloc (.stringIter s 0), ι.set st.nk ⟨w.heap.size, 0, 0, 1⟩, ?_, hs.alloc rfl ⟨⟨w.heap.size, 0, 0, 1⟩, Loci.set_same _ _ _, rfl, heap_alloc_new'⟩, .ptr (L := ⟨w.heap.size, 0, 0, 1⟩) (Loci.set_same _ _ _)⟩)
    unfold execOp; rw [ho]
    refine exec_v ?_
    rw [rep_v_inv (hs.opnd hx)]
    unfold Instr.range
    rw [run_ok (run_under hu)]; rfl
  · cases h
theorem evNext_ok {x : Operand} {b : Bool} (ho : o.op = .next x b) (h : evNext o x b st K = some r) : ∃ x st', RunsOp P o st x st' ∧ K x st' = some r := by
  unfold evNext at h
  obtain ⟨hb, h⟩ := cond_none h
  subst hb
  split at h
  · rename_i k hx
    split at h
    · rename_i s pos hk
      -- the iterator's place
      have iter : ∀ {G ι ok a w}, SimI G ι ok st a w → ∃ L, ι k = some L ∧ 0 < L.cp ∧ a.eval x = .pointer (some ⟨L.b, 0, none⟩) ∧ w.heap[L.b]? = some (.stringIter s pos) := by
        intro G ι ok a w hs
        obtain ⟨L, h1, h2, h3⟩ := hs.objs _ _ hk
        have hp := hs.opnd hx
        generalize a.eval x = v at hp
        cases hp with
        | ptr g => rw [h1] at g; injection g with g; subst g; exact ⟨L, h1, by omega, rfl, h3⟩
      cases hlt : decide (pos < s.size) <;> rw [hlt] at h <;> simp only [cond_true, cond_false] at h
      · refine runs_fin h (fun G ι ok a w hs => ?_)
        obtain ⟨L, h1, hc, h2, h3⟩ := iter hs
        refine ⟨.tuple #[.bool false], ?_, .tuple rfl (fun i hi => match i, hi with | 0, _ => .v _)⟩
        unfold execOp; rw [ho]
        refine exec_v ?_
        rw [h2]
        unfold Instr.next
        have hg : (getObj L.b).run P w = .ok (.stringIter s pos) w := by
          unfold getObj
          simp only [Sem.run, h3]
        simp only
        rw [run_ok hg]
        have hn : ¬ pos < s.size := by simpa using hlt
        simp only [hn, if_false]; rfl
      · refine runs_new h (fun G ι ok a w hs => ?_)
        obtain ⟨L, h1, hc, h2, h3⟩ := iter hs
        have hsz : L.b < w.heap.size := (Array.getElem?_eq_some_iff.1 h3).1
        refine ⟨.tuple #[.bool true, goInt pos, .int .i32 (Utf8.decode s pos).1], { w with heap := w.heap.setIfInBounds L.b (.stringIter s (pos + (Utf8.decode s pos).2)) }, ι, ?_, ?_, .tuple rfl (fun i hi => ?_)⟩
        · unfold execOp; rw [ho]
          refine exec_v ?_
          rw [h2]
          unfold Instr.next
          have hg : (getObj L.b).run P w = .ok (.stringIter s pos) w := by
            unfold getObj
            simp only [Sem.run, h3]
          simp only
          rw [run_ok hg]
          have hn : pos < s.size := by simpa using hlt
          simp only [hn, if_true]
          have hset : (setObj L.b (.stringIter s (pos + (Utf8.decode s pos).2))).run P w = .ok () { w with heap := w.heap.setIfInBounds L.b (.stringIter s (pos + (Utf8.decode s pos).2)) } := by
            unfold setObj
            simp only [Sem.run, h3]
          rw [run_ok hset]; rfl
        · refine hs.write (o' := .iter s (pos + (Utf8.decode s pos).2)) hk rfl h1 hc rfl rfl rfl (by simp) (fun b hb => ?_) ⟨L, h1, (hs.objs _ _ hk).elim (fun L' h' => by rw [h1] at h'; obtain ⟨e, e2, _⟩ := h'; injection e with e; subst e; exact e2), ?_⟩
          · simp only [Array.getElem?_setIfInBounds]
            rw [if_neg (fun e => hb e.symm)]
          · simp [hsz]
        · match i, hi with
          | 0, _ => exact .v _
          | 1, _ => exact .v _
          | 2, _ => exact .v _
    · cases h
  · cases h
theorem evPanic_ok {x : Operand} (ho : o.op = .panic x) (h : evPanic x st K = some r) : ∃ x st', RunsOp P o st x st' ∧ K x st' = some r := by
  unfold evPanic at h
  split at h
  · rename_i t y hx
    refine ⟨_, _, ?_, h⟩
    rintro G a w next Q ⟨ι, ok, hs⟩ hk
    have hp := hs.opnd hx
    generalize hv : a.eval x = v at hp
    unfold Oper.wp execOp
    rw [ho]
    cases hp with
    | iface g =>
      rename_i x'
      have hrun : (do pure (Next.value (← Instr.panic (a.eval x))) : Sem Next).run P w = .halt (.panic (.iface t x')) w := by rw [hv]; rfl
      show o.upon P a next Q ((do pure (Next.value (← Instr.panic (a.eval x))) : Sem Next).run P w)
      rw [hrun]
      exact hk _ _ _ ⟨ι, ok, _, rfl, .iface g, hs⟩
  · cases h
end
/-! ### values built of parts -/
def fillA (place : Nat → Option (Nat × Nat)) : List AV → List (Nat × AV) → Option (List AV)
  | cs, [] => some cs
  | cs, (i, x) :: r => match place i with
    | some p => bif Nat.beq x.cells.length p.2 && (x.cells.all leafOk && Nat.ble (p.1 + x.cells.length) cs.length) then fillA place (splice cs p.1 x.cells) r else none
    | none => none
theorem foldl_set : ∀ (xs : List Value) (off : Nat) (cs : Array Value) (k : Nat), off + k + xs.length ≤ cs.size →
    ((xs.zipIdx k).foldl (fun cs (p : Value × Nat) => cs.setIfInBounds (off + p.2) p.1) cs).size = cs.size ∧
    ∀ q, q < cs.size → ((xs.zipIdx k).foldl (fun cs (p : Value × Nat) => cs.setIfInBounds (off + p.2) p.1) cs).getD q undef = if off + k ≤ q ∧ q < off + k + xs.length then xs.getD (q - (off + k)) undef else cs.getD q undef
  | [], off, cs, k, _ => ⟨rfl, fun q _ => by rw [if_neg (by simp only [List.length_nil]; omega)]; rfl⟩
  | x :: xs, off, cs, k, h => by
    simp only [List.length_cons] at h
    obtain ⟨h1, h2⟩ := foldl_set xs off (cs.setIfInBounds (off + k) x) (k + 1) (by simp; omega)
    simp only [List.zipIdx_cons, List.foldl_cons]
    refine ⟨by rw [h1]; simp, fun q hq => ?_⟩
    rw [h2 q (by simpa using hq)]
    by_cases e : q = off + k
    · subst e
      rw [if_neg (by omega), if_pos (by simp only [List.length_cons]; omega), Nat.sub_self]
      simp [Array.getD_eq_getD_getElem?, hq]
    · by_cases c : off + (k + 1) ≤ q ∧ q < off + (k + 1) + xs.length
      · rw [if_pos c, if_pos (by simp only [List.length_cons]; omega), show q - (off + k) = (q - (off + (k + 1))) + 1 by omega]; simp
      · rw [if_neg c, if_neg (by simp only [List.length_cons]; omega)]
        simp only [Array.getD_eq_getD_getElem?, Array.getElem?_setIfInBounds]
        rw [if_neg (fun e' => e e'.symm)]
theorem fillA_ok {w : World} {ok : Nat → Prop} {B : Nat} {ι : Loci} {place : Nat → Option (Nat × Nat)} : ∀ {parts : List (Nat × AV)} {cs cs' : List AV} {vs : Array Value} {vparts : List (Nat × Value)}, fillA place cs parts = some cs' →
    vs.size = cs.length → (∀ i, i < cs.length → Rep w ok B ι (cs.getD i default) (vs.getD i undef)) → vparts.length = parts.length →
    (∀ i, i < parts.length → (vparts.getD i (0, undef)).1 = (parts.getD i (0, default)).1 ∧ Rep w ok B ι (parts.getD i (0, default)).2 (vparts.getD i (0, undef)).2) →
    ∃ vs', Instr.fill place vs vparts = some vs' ∧ vs'.size = cs'.length ∧ cs'.length = cs.length ∧ ∀ i, i < cs'.length → Rep w ok B ι (cs'.getD i default) (vs'.getD i undef)
  | [], cs, cs', vs, vparts, h, h1, h2, h3, h4 => by
    injection h with h; subst h
    have : vparts = [] := List.length_eq_zero_iff.1 h3
    subst this
    exact ⟨vs, rfl, h1, rfl, h2⟩
  | (i, x) :: parts, cs, cs', vs, vparts, h, h1, h2, h3, h4 => by
    match vparts, h3 with
    | (i', v) :: vparts, h3 =>
      have g0 := h4 0 (by simp)
      simp only [List.getD_cons_zero] at g0
      obtain ⟨e, hx⟩ := g0
      subst e
      unfold fillA at h
      split at h
      · rename_i p hp
        obtain ⟨hc, h⟩ := cond_none h
        simp only [Bool.and_eq_true] at hc
        have e1 := beq_eq hc.1
        have hle : p.1 + x.cells.length ≤ cs.length := Nat.le_of_ble_eq_true hc.2.2
        obtain ⟨c1, c2, c3⟩ := rep_cells hx hc.2.1
        obtain ⟨off, size⟩ := p
        simp only at e1 hle h
        have el : v.cells.toList.length = x.cells.length := by simpa using c1
        obtain ⟨f1, f2⟩ := foldl_set v.cells.toList off vs 0 (by omega)
        have hfold : v.cells.zipIdx.foldl (fun cs (c, j) => cs.setIfInBounds (off + j) c) vs = (v.cells.toList.zipIdx 0).foldl (fun cs (p : Value × Nat) => cs.setIfInBounds (off + p.2) p.1) vs := by
          rw [← Array.foldl_toList, Array.toList_zipIdx]
        obtain ⟨vs', k1, k2, k3, k4⟩ := fillA_ok (parts := parts) (vs := v.cells.zipIdx.foldl (fun cs (c, j) => cs.setIfInBounds (off + j) c) vs) (vparts := vparts) h (by rw [hfold, f1, splice_length hle]; exact h1)
          (fun q hq => by
            rw [splice_length hle] at hq
            rw [hfold, f2 q (by omega), splice_getD hle, el]
            simp only [Nat.add_zero]
            by_cases hcnd : off ≤ q ∧ q < off + x.cells.length
            · rw [if_pos hcnd, if_pos hcnd]
              have := c2 (q - off) (by omega)
              simpa [Array.getD_eq_getD_getElem?, List.getD_eq_getElem?_getD] using this
            · rw [if_neg hcnd, if_neg hcnd]; exact h2 q hq) (by simpa using h3) (fun q hq => by have := h4 (q + 1) (by simp; omega); simpa using this)
        refine ⟨vs', ?_, k2, by rw [k3, splice_length hle], k4⟩
        unfold Instr.fill
        rw [hp]
        simp only
        rw [if_neg (by simp only [ne_eq, Bool.or_eq_true, decide_eq_true_eq, not_or, Classical.not_not, gt_iff_lt, Nat.not_lt]; omega)]
        exact k1
      · cases h
end Go.Ev

namespace Go.Ev
set_option linter.unusedSimpArgs false
set_option linter.unusedVariables false
/-! ### shapes of types -/
mutual
def leafShOf (P : Program) : Nat → TypeId → Option Sh
  | 0, _ => none
  | n + 1, t => match P.underlying t with
    | some (.int k) => some (.int k)
    | some .bool => some .bool
    | some .string => some .str
    | some (.slice e) => match P.underlying e with
      | some (.int k) => some (.roI false k)
      | some .string => some (.roS false)
      | some _ => match shOf P n e, P.info? e with
        | some sh, some i => some (.roA false sh i.size)
        | _, _ => none
      | none => none
    | _ => none
def shOf (P : Program) : Nat → TypeId → Option Sh
  | 0, _ => none
  | n + 1, t => match P.underlying t with
    | some (.struct fs) => match leavesOf P n (fs.toList.map (·.type)) with
      | some l => some (.agg l)
      | none => none
    | some (.array c e) => match leavesOf P n (List.replicate c e) with
      | some l => some (.agg l)
      | none => none
    | some _ => leafShOf P n t
    | none => none
def leavesOf (P : Program) : Nat → List TypeId → Option (List Sh)
  | 0, _ => none
  | _ + 1, [] => some []
  | n + 1, t :: r => match shOf P n t, leavesOf P n r with
    | some (.agg l), some s => some (l ++ s)
    | some sh, some s => some (sh :: s)
    | _, _ => none
end
/-! ### structs and arrays built -/
def placesOf (P : Program) : List Field → Option (List (Nat × Nat))
  | [] => some []
  | f :: r => match P.info? f.type, placesOf P r with
    | some i, some l => some ((f.offset, i.size) :: l)
    | _, _ => none
def partsOf (st : St) : List (Nat × Operand) → Option (List (Nat × AV))
  | [] => some []
  | (i, x) :: r => match opnd st x, partsOf st r with
    | some y, some l => some ((i, y) :: l)
    | _, _ => none
def placeOf (P : Program) (t : TypeId) : Option (Nat → Option (Nat × Nat)) :=
  match P.underlying t with
  | some (.struct fs) => match placesOf P fs.toList with
    | some l => some fun i => l[i]?
    | none => none
  | some (.array _ e) => match P.info? e with
    | some i => some fun j => some (j * i.size, i.size)
    | none => none
  | _ => none
def evBuild {R : Type} (P : Program) (o : Oper) (t : TypeId) (parts : Array (Nat × Operand)) (st : St) (K : X → St → Option R) : Option R :=
  match P.info? t, placeOf P t, partsOf st parts.toList with
  | some i, some place, some ps => match i.zero with
    | some z => bif (ofVal z).cells.all leafOk then (match fillA place (ofVal z).cells ps with
      | some cs => fin o st K (.agg cs)
      | none => none) else none
    | none => none
  | _, _, _ => none
def pickAt (cs : List AV) (n : Nat) : AV :=
  match cs with
  | .v (.int k _) :: _ => .v (.int k ((cs.map AV.int!).getD n 0))
  | .v (.string _) :: _ => .v (.string ((cs.map AV.str!).getD n ByteArray.empty))
  | _ => default
def sameKind : List AV → Bool
  | .v (.int k _) :: r => r.all (compat1 (.int k))
  | .v (.string _) :: r => r.all (compat1 .str)
  | _ => false
def evIndexArr {R : Type} (P : Program) (o : Oper) (t : TypeId) (x i : Operand) (st : St) (K : X → St → Option R) : Option R :=
  match P.underlying t, opnd st x, opnd st i with
  | some (.array c e), some (.agg cs), some (.v (.int _ n)) => match P.info? e, P.underlying e with
    | some inf, some d => bif Nat.beq inf.size 1 && (Nat.beq c cs.length && !isAggT P e) then (bif decide (0 ≤ n) && decide (n < cs.length) then fin o st K (bif sameKind cs then pickAt cs n.toNat else cs.getD n.toNat default) else none) else none
    | _, _ => none
  | _, _, _ => none
section
variable {P : Program} {w : World}
theorem run_placesOf : ∀ (fs : List Field) (l : List (Nat × Nat)), placesOf P fs = some l → (fs.mapM fun f => (do pure (f.offset, ← sizeOf f.type) : Sem (Nat × Nat))).run P w = .ok l w
  | [], l, h => by injection h with h; subst h; rfl
  | f :: fs, l, h => by
    simp only [placesOf] at h
    split at h
    · rename_i i l' hi hl
      injection h with h; subst h
      have e : (do pure (f.offset, ← sizeOf f.type) : Sem (Nat × Nat)).run P w = .ok (f.offset, i.size) w := by rw [run_ok (run_size hi)]; rfl
      rw [List.mapM_cons, run_ok e, run_ok (run_placesOf fs l' hl)]; rfl
    · cases h
theorem partsOf_ok {G : Base} {ι : Loci} {ok : Nat → Prop} {st : St} {a : Act} (hs : SimI G ι ok st a w) : ∀ (l : List (Nat × Operand)) (ps : List (Nat × AV)), partsOf st l = some ps →
    (l.map fun p => (p.1, a.eval p.2)).length = ps.length ∧ ∀ i, i < ps.length → ((l.map fun p => (p.1, a.eval p.2)).getD i (0, undef)).1 = (ps.getD i (0, default)).1 ∧
      Rep w ok G.B ι (ps.getD i (0, default)).2 ((l.map fun p => (p.1, a.eval p.2)).getD i (0, undef)).2
  | [], ps, h => by injection h with h; subst h; exact ⟨rfl, fun i hi => by simp at hi⟩
  | (i, x) :: l, ps, h => by
    simp only [partsOf] at h
    split at h
    · rename_i y l' hy hl
      injection h with h; subst h
      have ih := partsOf_ok hs l l' hl
      refine ⟨by simpa using ih.1, fun q hq => ?_⟩
      cases q with
      | zero => exact ⟨rfl, hs.opnd hy⟩
      | succ q => have := ih.2 q (by simpa using hq); simpa using this
    · cases h
end
section
variable {R : Type} {P : Program} {o : Oper} {st : St} {K : X → St → Option R} {r : R}
theorem run_zero {t : TypeId} {i : TypeInfo} {z : Value} {w : World} (hi : P.info? t = some i) (hz : i.zero = some z) : (zeroValue t).run P w = .ok z w := by
  unfold zeroValue
  rw [run_ok (run_info hi), hz]; rfl
theorem evBuild_any {t : TypeId} {parts : Array (Nat × Operand)} (ho : o.op = .build t parts) (h : evBuild P o t parts st K = some r) : FinAny P o st K r := by
  unfold evBuild at h
  split at h
  · rename_i i place ps hi hpl hps
    split at h
    · rename_i z hz
      obtain ⟨hc, h⟩ := cond_none h
      split at h
      · rename_i cs hcs
        refine finAny_intro h (fun G ι ok a w hs => ?_)
        obtain ⟨c1, c2, _⟩ := rep_cells (rep_ofVal (w := w) (ok := ok) (B := G.B) (ι := ι) z) hc
        obtain ⟨p1, p2⟩ := partsOf_ok hs _ _ hps
        obtain ⟨vs', k1, k2, k3, k4⟩ := fillA_ok (vs := z.cells) (vparts := parts.toList.map fun p => (p.1, a.eval p.2)) hcs c1 c2 p1 p2
        refine ⟨.agg vs', fun w' => ?_, .agg k2 k4⟩
        unfold execOp; rw [ho]
        refine exec_v ?_
        have epl : (parts.map fun (i, x) => (i, a.eval x)).toList = parts.toList.map fun p => (p.1, a.eval p.2) := by simp
        unfold placeOf at hpl
        split at hpl
        · rename_i fs hu
          split at hpl
          · rename_i l hl
            injection hpl with hpl; subst hpl
            unfold Instr.build
            rw [run_ok (run_zero hi hz), run_ok (run_under hu)]
            have hm : (fs.mapM fun f => (do pure (f.offset, ← sizeOf f.type) : Sem (Nat × Nat))).run P w' = .ok l.toArray w' := by
              rw [Array.mapM_eq_mapM_toList, ← bind_pure_comp, run_ok (run_placesOf _ _ hl)]; rfl
            simp only
            rw [run_ok hm, epl]
            have : (fun (i : Nat) => l.toArray[i]?) = fun (i : Nat) => l[i]? := by funext i; simp
            rw [this, k1]; rfl
          · cases hpl
        · rename_i c e hu
          split at hpl
          · rename_i inf hinf
            injection hpl with hpl; subst hpl
            unfold Instr.build
            rw [run_ok (run_zero hi hz), run_ok (run_under hu)]
            simp only
            rw [run_ok (run_size hinf), epl, k1]; rfl
          · cases hpl
        · cases hpl
      · cases h
    · cases h
  · cases h
theorem evBuild_ok {t : TypeId} {parts : Array (Nat × Operand)} (ho : o.op = .build t parts) (h : evBuild P o t parts st K = some r) : ∃ x st', RunsOp P o st x st' ∧ K x st' = some r :=
  (evBuild_any ho h).fin.ok
theorem sameKind_ok {w : World} {ok : Nat → Prop} {B : Nat} {ι : Loci} {cs : List AV} (h : sameKind cs = true) {n : Nat} (hn : n < cs.length) : pickAt cs n = cs.getD n default := by
  have hget : ∀ (f : AV → Bool), (∀ x, x ∈ cs → f x = true) → f (cs.getD n default) = true := by
    intro f hf
    rw [List.getD_eq_getElem?_getD, List.getElem?_eq_getElem hn]
    exact hf _ (List.getElem_mem hn)
  unfold sameKind at h
  split at h
  · rename_i k m rr
    have hall : ∀ x, x ∈ (AV.v (.int k m) :: rr) → compat1 (.int k) x = true := by
      intro x hx
      rcases List.mem_cons.1 hx with e | e
      · subst e; simp [compat1]
      · exact List.all_eq_true.1 h x e
    have := hget _ hall
    unfold pickAt
    have e : ((AV.v (.int k m) :: rr).map AV.int!).getD n 0 = ((AV.v (.int k m) :: rr).getD n default).int! := by
      simp only [List.getD_eq_getElem?_getD, List.getElem?_map]
      rw [List.getElem?_eq_getElem hn]; rfl
    simp only
    rw [e]
    generalize (AV.v (.int k m) :: rr).getD n default = x at this
    simp only [compat1] at this
    split at this
    · rename_i k' n'
      have := eq_of_beq this; subst this; rfl
    · cases this
  · rename_i s rr
    have hall : ∀ x, x ∈ (AV.v (.string s) :: rr) → compat1 .str x = true := by
      intro x hx
      rcases List.mem_cons.1 hx with e | e
      · subst e; simp [compat1]
      · exact List.all_eq_true.1 h x e
    have := hget _ hall
    unfold pickAt
    have e : ((AV.v (.string s) :: rr).map AV.str!).getD n ByteArray.empty = ((AV.v (.string s) :: rr).getD n default).str! := by
      simp only [List.getD_eq_getElem?_getD, List.getElem?_map]
      rw [List.getElem?_eq_getElem hn]; rfl
    simp only
    rw [e]
    generalize (AV.v (.string s) :: rr).getD n default = x at this
    simp only [compat1] at this
    split at this
    · rfl
    · cases this
  · cases h
theorem evIndexArr_fin {t : TypeId} {x i : Operand} (ho : o.op = .index t x i) (h : evIndexArr P o t x i st K = some r) :
    Fin P o st K r := by
  unfold evIndexArr at h
  split at h
  · rename_i c e cs k n hu hx hi
    split at h
    · rename_i inf d hinf hd
      obtain ⟨hc, h⟩ := cond_none h
      obtain ⟨hb, h⟩ := cond_none h
      simp only [Bool.and_eq_true] at hc
      have e1 := beq_eq hc.1
      have e2 := beq_eq hc.2.1
      have hb : 0 ≤ n ∧ n < (cs.length : Int) := by simpa using hb
      refine fin_intro h (fun G ι ok a w hs => ?_)
      obtain ⟨vs, ev, hl, hr⟩ := rep_agg_inv (hs.opnd hx)
      have hn : n.toNat < cs.length := by omega
      have hag : isAggT P e = false := by have := hc.2.2; simpa using this
      refine ⟨vs.getD n.toNat undef, ?_, ?_⟩
      · unfold execOp; rw [ho]
        refine exec_v ?_
        rw [ev, rep_v_inv (hs.opnd hi)]
        unfold Instr.index
        have hk : (asIntOf (.int k n)).run P w = .ok (k, n) w := rfl
        rw [run_ok hk, run_ok (run_under hu)]
        simp only
        rw [if_pos ⟨hb.1, by rw [e2]; exact hb.2⟩, run_ok (run_size hinf), e1, Nat.mul_one]
        unfold part
        rw [run_ok (run_isAgg hd), hag]
        have hn' : n.toNat < vs.size := by omega
        simp only [Array.getD_eq_getD_getElem?, Array.getElem?_eq_getElem hn']; rfl
      · cases hsk : sameKind cs with
        | false => exact hr n.toNat hn
        | true =>
          rw [cond_true, sameKind_ok (w := w) (ok := ok) (B := G.B) (ι := ι) hsk hn]
          exact hr n.toNat hn
    · cases h
  · cases h
theorem evIndexArr_ok {t : TypeId} {x i : Operand} (ho : o.op = .index t x i) (h : evIndexArr P o t x i st K = some r) :
    ∃ x st', RunsOp P o st x st' ∧ K x st' = some r := (evIndexArr_fin ho h).ok
end
end Go.Ev

namespace Go.Ev
set_option linter.unusedSimpArgs false
set_option linter.unusedVariables false
/-! ### rows made: literals, make -/
def chunks (sh : Sh) (sz : Nat) : Nat → List AV → List AV
  | 0, _ => []
  | n + 1, l => mkE sh (l.take sz) :: chunks sh sz n (l.drop sz)
def chunksFit (sh : Sh) (sz : Nat) : Nat → List AV → Bool
  | 0, _ => true
  | n + 1, l => fitsCells sh (l.take sz) && chunksFit sh sz n (l.drop sz)
def depthT : Nat := 60
/-- n elements out of their cells -/
def mkRow (P : Program) (e : TypeId) (n : Nat) (flat : List AV) : Option Lst :=
  match P.underlying e, P.info? e with
  | some (.int k), some i => bif Nat.beq i.size 1 && (Nat.beq flat.length n && flat.all (compat1 (.int k))) then some (.I k (flat.map AV.int!)) else none
  | some .string, some i => bif Nat.beq i.size 1 && (Nat.beq flat.length n && flat.all (compat1 .str)) then some (.S (flat.map AV.str!)) else none
  | some _, some i => match shOf P depthT e with
    | some sh => bif Nat.beq flat.length (n * i.size) && (chunksFit sh i.size n flat && Nat.blt 0 i.size) then some (.A sh i.size (chunks sh i.size n flat)) else none
    | none => none
  | _, _ => none
theorem chunks_length (sh : Sh) (sz : Nat) : ∀ (n : Nat) (l : List AV), (chunks sh sz n l).length = n
  | 0, _ => rfl
  | n + 1, l => by simp [chunks, chunks_length sh sz n]
theorem chunks_ok {w : World} {ok : Nat → Prop} {B : Nat} {ι : Loci} {sh : Sh} {sz : Nat} : ∀ {n : Nat} {l : List AV} {f : Nat → Value}, chunksFit sh sz n l = true → l.length = n * sz → (∀ q, q < l.length → Rep w ok B ι (l.getD q default) (f q)) →
    ∀ i, i < n → (view sh ((chunks sh sz n l).getD i default)).cells.length = sz ∧ ∀ j, j < sz → Rep w ok B (fun _ => none) ((view sh ((chunks sh sz n l).getD i default)).cell j) (f (i * sz + j))
  | 0, l, f, _, _, _, i, hi => by omega
  | n + 1, l, f, h, hl, hr, i, hi => by
    simp only [chunksFit, Bool.and_eq_true] at h
    rw [Nat.add_mul, Nat.one_mul] at hl
    have ht : (l.take sz).length = sz := by rw [List.length_take]; omega
    cases i with
    | zero =>
      obtain ⟨g1, g2⟩ := fits_ok (ι := ι) f h.1 (fun j hj => by
        rw [ht] at hj
        have := hr j (by omega)
        have e : (l.take sz).getD j default = l.getD j default := by simp [List.getD_eq_getElem?_getD, List.getElem?_take, hj]
        rw [e]; exact this)
      simp only [chunks, List.getD_cons_zero, Nat.zero_mul, Nat.zero_add]
      exact ⟨g1.trans ht, fun j hj => g2 j (by rw [ht]; exact hj)⟩
    | succ i =>
      simp only [chunks, List.getD_cons_succ]
      have ih := chunks_ok (n := n) (l := l.drop sz) (f := fun q => f (sz + q)) h.2 (by rw [List.length_drop]; omega) (fun q hq => by
        rw [List.length_drop] at hq
        have := hr (sz + q) (by omega)
        have e : (l.drop sz).getD q default = l.getD (sz + q) default := by simp [List.getD_eq_getElem?_getD, List.getElem?_drop]
        rw [e]; exact this) i (by omega)
      refine ⟨ih.1, fun j hj => ?_⟩
      have := ih.2 j hj
      rw [show (i + 1) * sz + j = sz + (i * sz + j) by rw [Nat.add_mul, Nat.one_mul]; omega]; exact this
theorem mkRow_ok {P : Program} {w : World} {ok : Nat → Prop} {B : Nat} {ι : Loci} {e : TypeId} {n : Nat} {flat : List AV} {l : Lst} {inf : TypeInfo} (hi : P.info? e = some inf) (h : mkRow P e n flat = some l) (f : Nat → Value)
    (hr : ∀ q, q < flat.length → Rep w ok B ι (flat.getD q default) (f q)) : l.length = n ∧ l.sz = inf.size ∧ flat.length = n * inf.size ∧ 0 < inf.size ∧
      (∀ i j, i < l.length → j < l.sz → Rep w ok B (fun _ => none) ((l.elem i).cell j) (f (i * l.sz + j))) ∧ ∀ i, i < l.length → (l.elem i).cells.length = l.sz := by
  unfold mkRow at h
  split at h
  · rename_i k i hu hi'
    rw [hi] at hi'; injection hi' with hi'; subst hi'
    obtain ⟨hc, h⟩ := cond_none h
    injection h with h; subst h
    simp only [Bool.and_eq_true] at hc
    have e1 := beq_eq hc.1
    have e2 := beq_eq hc.2.1
    refine ⟨by simp [Lst.length, e2], e1.symm, by rw [e1, e2, Nat.mul_one], by omega, fun i j hi hj => ?_, fun i hi => rfl⟩
    have hj : j = 0 := by simp [Lst.sz] at hj; exact hj
    subst hj
    have hi : i < flat.length := by simpa [Lst.length] using hi
    have h1 := hr i hi
    have h2 : compat1 (.int k) (flat.getD i default) = true := by
      rw [List.getD_eq_getElem?_getD, List.getElem?_eq_getElem hi]
      exact List.all_eq_true.1 hc.2.2 _ (List.getElem_mem hi)
    have h3 := (compat1_ok h2 h1).1
    have e3 : (Lst.I k (flat.map AV.int!)).elem i = view (.int k) (flat.getD i default) := by
      simp only [Lst.elem, view, List.getD_eq_getElem?_getD, List.getElem?_map, List.getElem?_eq_getElem hi]; rfl
    rw [e3]
    simp only [Lst.sz, Nat.mul_one, Nat.add_zero]
    exact h3
  · rename_i i hu hi'
    rw [hi] at hi'; injection hi' with hi'; subst hi'
    obtain ⟨hc, h⟩ := cond_none h
    injection h with h; subst h
    simp only [Bool.and_eq_true] at hc
    have e1 := beq_eq hc.1
    have e2 := beq_eq hc.2.1
    refine ⟨by simp [Lst.length, e2], e1.symm, by rw [e1, e2, Nat.mul_one], by omega, fun i j hi hj => ?_, fun i hi => rfl⟩
    have hj : j = 0 := by simp [Lst.sz] at hj; exact hj
    subst hj
    have hi : i < flat.length := by simpa [Lst.length] using hi
    have h1 := hr i hi
    have h2 : compat1 .str (flat.getD i default) = true := by
      rw [List.getD_eq_getElem?_getD, List.getElem?_eq_getElem hi]
      exact List.all_eq_true.1 hc.2.2 _ (List.getElem_mem hi)
    have h3 := (compat1_ok h2 h1).1
    have e3 : (Lst.S (flat.map AV.str!)).elem i = view .str (flat.getD i default) := by
      simp only [Lst.elem, view, List.getD_eq_getElem?_getD, List.getElem?_map, List.getElem?_eq_getElem hi]; rfl
    rw [e3]
    simp only [Lst.sz, Nat.mul_one, Nat.add_zero]
    exact h3
  · rename_i d i _ _ hu hi'
    rw [hi] at hi'; injection hi' with hi'; subst hi'
    split at h
    · rename_i sh hsh
      obtain ⟨hc, h⟩ := cond_none h
      injection h with h; subst h
      simp only [Bool.and_eq_true] at hc
      have e1 := beq_eq hc.1
      have hpos : 0 < inf.size := by have := hc.2.2; simpa [Nat.blt_eq] using this
      have hk := chunks_ok (w := w) (ok := ok) (B := B) (ι := ι) (f := f) hc.2.1 e1 hr
      refine ⟨chunks_length _ _ _ _, rfl, e1, hpos, fun i j hi hj => ?_, fun i hi => ?_⟩
      · have hi : i < n := by have : i < (chunks sh inf.size n flat).length := hi; rw [chunks_length] at this; exact this
        exact (hk i hi).2 j hj
      · have hi : i < n := by have : i < (chunks sh inf.size n flat).length := hi; rw [chunks_length] at this; exact this
        exact (hk i hi).1
    · cases h
  · cases h
/-- a new block that holds a row -/
theorem newRow_ok {G : Base} {ι : Loci} {ok : Nat → Prop} {st : St} {a : Act} {w : World} (hs : SimI G ι ok st a w) {l : Lst} {vs : Array Value} {e : TypeId} {c : Nat} (hc : l.length ≤ c) (hsz : vs.size = c * l.sz)
    (h1 : ∀ i j, i < l.length → j < l.sz → Rep w ok G.B (fun _ => none) ((l.elem i).cell j) (vs.getD (i * l.sz + j) undef)) (h2 : ∀ i, i < l.length → (l.elem i).cells.length = l.sz) (hty : rowTy l e) :
    SimI G (ι.set st.nk ⟨w.heap.size, 0, l.length, c⟩) ok (newRowSt st l) a (w.alloc (.cells vs e)) ∧ Rep (w.alloc (.cells vs e)) ok G.B (ι.set st.nk ⟨w.heap.size, 0, l.length, c⟩) (.own st.nk) (.slice (some ⟨w.heap.size, 0, none⟩) l.length c) := by
  have hmem : ∀ b, ok b → (w.alloc (.cells vs e)).heap[b]? = w.heap[b]? := fun b hb => heap_alloc_old (hs.oklt b hb)
  have hpos : ∀ i j, i < l.length → j < l.sz → i * l.sz + j < vs.size := by
    intro i j hi hj
    have : (i + 1) * l.sz ≤ c * l.sz := Nat.mul_le_mul_right _ (by omega)
    rw [Nat.add_mul, Nat.one_mul] at this
    omega
  refine ⟨hs.alloc rfl ⟨⟨w.heap.size, 0, l.length, c⟩, Loci.set_same _ _ _, rfl, hc, fun _ => ⟨vs, e, (0, 0), heap_alloc_new', fun _ => ⟨.inl rfl, hty⟩, (fun h => by cases h), by simp [hsz], ?_⟩⟩, ?_⟩
  · refine ⟨fun i j => vs.getD (i * l.sz + j) undef, fun i j hi hj => ?_, fun i j hi hj => (h1 i j hi hj).mono hmem (fun _ h => h) (fun _ _ h => h), h2⟩
    unfold World.cell?
    simp only [heap_alloc_new', Option.isSome_none, Bool.false_eq_true, if_false, Nat.zero_add]
    have := hpos i j hi hj
    simp [Array.getD_eq_getD_getElem?, this]
  · by_cases hc0 : 0 < c
    · exact .own (L := ⟨w.heap.size, 0, l.length, c⟩) (Loci.set_same _ _ _) hc0
    · have hc1 : c = 0 := by omega
      have hl0 : l.length = 0 := by omega
      subst hc1
      have h9 : Rep (w.alloc (.cells vs e)) ok G.B (ι.set st.nk ⟨w.heap.size, 0, l.length, 0⟩) (.own st.nk) (.slice (some ⟨w.heap.size, 0, none⟩) 0 0) := .own0 (L := ⟨w.heap.size, 0, l.length, 0⟩) (Loci.set_same _ _ _) rfl hl0
      rw [show (Value.slice (some ⟨w.heap.size, 0, none⟩) l.length 0) = .slice (some ⟨w.heap.size, 0, none⟩) 0 0 by rw [hl0]]
      exact h9
def zeroFlat (zc : List AV) : Nat → List AV
  | 0 => []
  | n + 1 => zc ++ zeroFlat zc n
def evBuildSlice {R : Type} (P : Program) (o : Oper) (t : TypeId) (len : Nat) (parts : Array (Nat × Operand)) (st : St) (K : X → St → Option R) : Option R :=
  match P.underlying t, partsOf st parts.toList with
  | some (.slice e), some ps => match P.info? e with
    | some i => match i.zero with
      | some z => bif Nat.ble (len * i.size) 16777216 && (Nat.beq (ofVal z).cells.length i.size && (Nat.blt 0 i.size && (ofVal z).cells.all leafOk)) then (match fillA (fun j => some (j * i.size, i.size)) (zeroFlat (ofVal z).cells len) ps with
        | some flat => match mkRow P e len flat with
          | some l => bif rowTyB l e then fin o (newRowSt st l) K (.own st.nk) else none
          | none => none
        | none => none) else none
      | none => none
    | none => none
  | _, _ => none
theorem zeroFlat_length (zc : List AV) : ∀ n, (zeroFlat zc n).length = n * zc.length
  | 0 => by simp [zeroFlat]
  | n + 1 => by simp [zeroFlat, zeroFlat_length zc n, Nat.add_mul, Nat.add_comm]
theorem zeroFlat_getD (zc : List AV) (hz : 0 < zc.length) : ∀ n q, q < n * zc.length → (zeroFlat zc n).getD q default = zc.getD (q % zc.length) default
  | 0, q, h => by omega
  | n + 1, q, h => by
    rw [Nat.add_mul, Nat.one_mul] at h
    simp only [zeroFlat, List.getD_eq_getElem?_getD]
    by_cases c : q < zc.length
    · rw [List.getElem?_append_left c, Nat.mod_eq_of_lt c]
    · rw [List.getElem?_append_right (Nat.not_lt.1 c)]
      have ih := zeroFlat_getD zc hz n (q - zc.length) (by omega)
      simp only [List.getD_eq_getElem?_getD] at ih
      rw [ih, Nat.mod_eq_sub_mod (Nat.not_lt.1 c)]
section
variable {R : Type} {P : Program} {o : Oper} {st : St} {K : X → St → Option R} {r : R}
/-- a new row: the world has grown -/
def RunsNew (P : Program) (o : Oper) (st st₁ : St) (x : AV) : Prop :=
  ∀ G ι ok a w, SimI G ι ok st a w → ∃ v w' ι', (execOp a.eval o).run P w = .ok (.value v) w' ∧ SimI G ι' ok st₁ a w' ∧ Rep w' ok G.B ι' x v ∧ Grown w w'
theorem grown_alloc (w : World) (b : Obj) : Grown w (w.alloc b) := ⟨rfl, rfl, rfl, by show w.heap.size ≤ (w.heap.push b).size; rw [Array.size_push]; omega, fun i hi => heap_alloc_old hi⟩
theorem evBuildSlice_new {t : TypeId} {len : Nat} {parts : Array (Nat × Operand)} (ho : o.op = .buildSlice t len parts) (h : evBuildSlice P o t len parts st K = some r) : ∃ x st₁, RunsNew P o st st₁ x ∧ fin o st₁ K x = some r := by
  unfold evBuildSlice at h
  split at h
  · rename_i e ps hu hps
    split at h
    · rename_i i hi
      split at h
      · rename_i z hz
        obtain ⟨hc, h⟩ := cond_none h
        simp only [Bool.and_eq_true] at hc
        have hle : len * i.size ≤ 16777216 := Nat.le_of_ble_eq_true hc.1
        have e1 := beq_eq hc.2.1
        have hpos : 0 < i.size := by have := hc.2.2.1; simpa [Nat.blt_eq] using this
        split at h
        · rename_i flat hflat
          split at h
          · rename_i l hl
            obtain ⟨hty, h⟩ := cond_none h
            refine ⟨_, _, fun G ι ok a w hs => ?_, h⟩
            obtain ⟨c1, c2, _⟩ := rep_cells (rep_ofVal (w := w) (ok := ok) (B := G.B) (ι := ι) z) hc.2.2.2
            obtain ⟨p1, p2⟩ := partsOf_ok hs _ _ hps
            have hz0 : (Array.range (len * i.size)).size = len * i.size := by simp
            have hzc : 0 < (ofVal z).cells.length := by omega
            obtain ⟨vs', k1, k2, k3, k4⟩ := fillA_ok (w := w) (ok := ok) (B := G.B) (ι := ι) (vs := (Array.range (len * i.size)).map (fun q => z.cells[q % z.cells.size]!)) (vparts := parts.toList.map fun p => (p.1, a.eval p.2)) hflat
              (by simp [zeroFlat_length, e1]) (fun q hq => by
                rw [zeroFlat_length] at hq
                rw [zeroFlat_getD _ hzc _ _ hq]
                have hq2 : q < len * i.size := by rw [← e1]; exact hq
                have hm : q % (ofVal z).cells.length < (ofVal z).cells.length := Nat.mod_lt _ hzc
                have := c2 _ hm
                have e2 : ((Array.range (len * i.size)).map (fun q => z.cells[q % z.cells.size]!)).getD q undef = z.cells.getD (q % (ofVal z).cells.length) undef := by
                  have hm2 : q % z.cells.size < z.cells.size := by rw [c1]; exact hm
                  simp only [Array.getD_eq_getD_getElem?, Array.getElem?_map, Array.getElem?_range]
                  rw [← c1]
                  simp [hq2, getElem!_pos, hm2]
                rw [e2]; exact this) p1 p2
            obtain ⟨r1, r2, r3, r4, r5, r6⟩ := mkRow_ok hi hl (fun q => vs'.getD q undef) k4
            obtain ⟨n1, n2⟩ := newRow_ok hs (e := e) (vs := vs') (c := len) (by rw [r1]; exact Nat.le_refl _) (by rw [k2, r3, r2]) r5 r6 (rowTyB_ok hty)
            refine ⟨_, _, _, ?_, n1, n2, grown_alloc _ _⟩
            unfold execOp; rw [ho]
            refine exec_v ?_
            have epl : (parts.map fun (i, x) => (i, a.eval x)).toList = parts.toList.map fun p => (p.1, a.eval p.2) := by simp
            unfold Instr.buildSlice
            rw [run_ok (run_under hu)]
            simp only
            rw [run_ok (run_size hi), if_neg (by omega)]
            by_cases h0 : len * i.size = 0
            · rw [if_pos h0]
              have hp : (pure #[] : Sem (Array Value)).run P w = .ok #[] w := rfl
              rw [run_ok hp]
              have ez : (Array.range (len * i.size)).map (fun q => (#[] : Array Value)[q % (#[] : Array Value).size]!) = (Array.range (len * i.size)).map (fun q => z.cells[q % z.cells.size]!) := by
                rw [h0]; simp
              rw [ez, epl, k1, r1]; rfl
            · rw [if_neg h0, run_ok (run_zero hi hz)]
              have hp : (pure z.cells : Sem (Array Value)).run P w = .ok z.cells w := rfl
              first | rw [run_ok hp] | skip
              rw [epl, k1, r1]; rfl
          · cases h
        · cases h
      · cases h
    · cases h
  · cases h
theorem evBuildSlice_ok {t : TypeId} {len : Nat} {parts : Array (Nat × Operand)} (ho : o.op = .buildSlice t len parts) (h : evBuildSlice P o t len parts st K = some r) : ∃ x st', RunsOp P o st x st' ∧ K x st' = some r := by
  obtain ⟨x, st₁, h1, h2⟩ := evBuildSlice_new ho h
  exact runs_new h2 (fun G ι ok a w hs => by
    obtain ⟨v, w', ι', g1, g2, g3, _⟩ := h1 G ι ok a w hs
    exact ⟨v, w', ι', g1, g2, g3⟩)
end
end Go.Ev

namespace Go.Ev
set_option linter.unusedSimpArgs false
set_option linter.unusedVariables false
/-! ### append -/
def catLst : Lst → Lst → Option Lst
  | .I k l, .I k' l' => bif k == k' then some (.I k (l ++ l')) else none
  | .S l, .S l' => some (.S (l ++ l'))
  | .A sh sz l, .A sh' sz' l' => bif Nat.beq sz sz' && shLe sh sh' then some (.A sh sz (l ++ l')) else none
  | _, _ => none
theorem rowTy_cat : ∀ {l l' m : Lst} {t : TypeId}, catLst l l' = some m → rowTy l t → rowTy m t
  | .I k l, .I k' l', m, t, h, hr => by
    simp only [catLst] at h
    obtain ⟨_, h⟩ := cond_none h
    injection h with h; subst h
    cases k <;> first | exact hr | trivial
  | .S l, .S l', m, t, h, hr => by
    simp only [catLst] at h
    injection h with h; subst h; trivial
  | .A sh sz l, .A sh' sz' l', m, t, h, hr => by
    simp only [catLst] at h
    obtain ⟨_, h⟩ := cond_none h
    injection h with h; subst h; trivial
  | .I .., .S .., m, t, h, hr => by cases h
  | .I .., .A .., m, t, h, hr => by cases h
  | .S .., .I .., m, t, h, hr => by cases h
  | .S .., .A .., m, t, h, hr => by cases h
  | .A .., .I .., m, t, h, hr => by cases h
  | .A .., .S .., m, t, h, hr => by cases h
theorem rowTy_take : ∀ {l : Lst} {n : Nat} {t : TypeId}, rowTy l t → rowTy (l.take n) t
  | .I k l, n, t, h => by cases k <;> first | exact h | trivial
  | .S l, n, t, h => trivial
  | .A sh sz l, n, t, h => trivial
theorem rowTy_drop : ∀ {l : Lst} {n : Nat} {t : TypeId}, rowTy l t → rowTy (l.drop n) t
  | .I k l, n, t, h => by cases k <;> first | exact h | trivial
  | .S l, n, t, h => trivial
  | .A sh sz l, n, t, h => trivial
def shFlat : Sh → Bool
  | .agg l => l.all leafSh
  | s => leafSh s
def flatLst : Lst → Bool
  | .I .. => true
  | .S .. => true
  | .A sh _ _ => shFlat sh
theorem leaf_view {s : Sh} (h : leafSh s = true) (x : AV) : leafOk (view s x) = true := by
  cases s <;> simp only [leafSh] at h <;> first | rfl | (cases h; done)
theorem views_getD : ∀ (l : List Sh) (x : AV) (i j : Nat), j < l.length → ∃ s y, s ∈ l ∧ (views l x i).getD j default = view s y
  | [], _, _, _, h => by cases h
  | s :: r, x, i, 0, h => ⟨s, _, List.mem_cons_self, rfl⟩
  | s :: r, x, i, j + 1, h => by
    obtain ⟨s', y, h1, h2⟩ := views_getD r x (i + 1) j (by simpa using h)
    exact ⟨s', y, List.mem_cons_of_mem _ h1, by simpa [views] using h2⟩
theorem views_len : ∀ (l : List Sh) (x : AV) (i : Nat), (views l x i).length = l.length
  | [], _, _ => rfl
  | s :: r, x, i => by simp [views, views_len r x (i + 1)]
theorem flat_cell {sh : Sh} (h : shFlat sh = true) (x : AV) {j : Nat} (hj : j < (view sh x).cells.length) : leafOk ((view sh x).cell j) = true := by
  have one : ∀ (s : Sh), leafSh s = true → j < (view s x).cells.length → leafOk ((view s x).cell j) = true := by
    intro s hs hj
    cases s <;> simp only [leafSh] at hs <;> first
      | (cases hs; done)
      | (simp only [view, AV.cells, List.length_singleton] at hj
         have : j = 0 := by omega
         subst this
         rfl)
  cases sh with
  | agg l =>
    have hj : j < l.length := by simpa [view, AV.cells, views_len] using hj
    obtain ⟨s, y, h1, h2⟩ := views_getD l x 0 j hj
    have : (view (.agg l) x).cell j = view s y := by simpa [view, AV.cell, AV.cells] using h2
    rw [this]
    exact leaf_view (List.all_eq_true.1 h s h1) y
  | _ => exact one _ h hj
theorem flat_elem {l : Lst} (h : flatLst l = true) (i : Nat) {j : Nat} (hj : j < (l.elem i).cells.length) : leafOk ((l.elem i).cell j) = true := by
  cases l with
  | I k l =>
    have : j = 0 := by simp [Lst.elem, AV.cells] at hj; exact hj
    subst this; rfl
  | S l =>
    have : j = 0 := by simp [Lst.elem, AV.cells] at hj; exact hj
    subst this; rfl
  | A sh sz l => exact flat_cell h _ hj
section
variable {P : Program} {w : World} {ok : Nat → Prop} {B : Nat}
theorem catLst_ok {l l' m : Lst} (h : catLst l l' = some m) : m.sz = l.sz ∧ l'.sz = l.sz ∧ m.length = l.length + l'.length ∧ (∀ i, i < l.length → m.elem i = l.elem i) ∧
    (∀ i, i < l'.length → (m.elem (l.length + i)).cells.length = (l'.elem i).cells.length ∧ ∀ j v, Rep w ok B (fun _ => none) ((l'.elem i).cell j) v → Rep w ok B (fun _ => none) ((m.elem (l.length + i)).cell j) v) ∧
    (m.length = 0 → ∃ lk : LK, m = lk.nil) := by
  cases l with
  | I k l =>
    cases l' <;> simp only [catLst] at h <;> try (cases h; done)
    rename_i k' l'
    obtain ⟨e, h2⟩ := cond_none h
    clear h
    have := eq_of_beq e; subst this
    have h2 := Option.some.inj h2; subst h2
    refine ⟨rfl, rfl, by simp [Lst.length], fun i hi => ?_, fun i hi => ?_, fun h0 => ⟨.I k, ?_⟩⟩
    · have hi : i < l.length := hi
      simp [Lst.elem, List.getD_eq_getElem?_getD, List.getElem?_append_left hi]
    · have e : (Lst.I k (l ++ l')).elem ((Lst.I k l).length + i) = (Lst.I k l').elem i := by
        simp [Lst.elem, Lst.length, List.getD_eq_getElem?_getD, List.getElem?_append_right (Nat.le_add_right _ _)]
      rw [e]; exact ⟨rfl, fun _ _ h => h⟩
    · have : l ++ l' = [] := List.length_eq_zero_iff.1 h0
      rw [this]; rfl
  | S l =>
    cases l' <;> simp only [catLst] at h <;> try (cases h; done)
    rename_i l'
    injection h with h; subst h
    refine ⟨rfl, rfl, by simp [Lst.length], fun i hi => ?_, fun i hi => ?_, fun h0 => ⟨.S, ?_⟩⟩
    · have hi : i < l.length := hi
      simp [Lst.elem, List.getD_eq_getElem?_getD, List.getElem?_append_left hi]
    · have e : (Lst.S (l ++ l')).elem ((Lst.S l).length + i) = (Lst.S l').elem i := by
        simp [Lst.elem, Lst.length, List.getD_eq_getElem?_getD, List.getElem?_append_right (Nat.le_add_right _ _)]
      rw [e]; exact ⟨rfl, fun _ _ h => h⟩
    · have : l ++ l' = [] := List.length_eq_zero_iff.1 h0
      rw [this]; rfl
  | A sh sz l =>
    cases l' <;> simp only [catLst] at h <;> try (cases h; done)
    rename_i sh' sz' l'
    obtain ⟨e, h2⟩ := cond_none h
    clear h
    rw [Bool.and_eq_true] at e
    have := beq_eq e.1; subst this
    have h2 := Option.some.inj h2; subst h2
    have hv := view_le (w := w) (ok := ok) (B := B) sh sh' e.2
    refine ⟨rfl, rfl, by simp [Lst.length], fun i hi => ?_, fun i hi => ?_, fun h0 => ⟨.A sh sz, ?_⟩⟩
    · have hi : i < l.length := hi
      simp [Lst.elem, List.getD_eq_getElem?_getD, List.getElem?_append_left hi]
    · have e : (Lst.A sh sz (l ++ l')).elem ((Lst.A sh sz l).length + i) = view sh (l'.getD i default) := by
        simp [Lst.elem, Lst.length, List.getD_eq_getElem?_getD, List.getElem?_append_right (Nat.le_add_right _ _)]
      rw [e]
      exact ⟨hv.2.2 _, fun j v hr => hv.2.1 _ _ _ _ hr⟩
    · have : l ++ l' = [] := List.length_eq_zero_iff.1 h0
      rw [this]; rfl
/-- what is appended, as cells -/
theorem src_row {tx e' : TypeId} (hk : P.underlying tx = some (.slice e')) {p : Option Addr} {c : Nat} {l : Lst} (hz : 0 < l.sz) (hfl : flatLst l = true)
    (h : 0 < l.length → ∃ b o, p = some ⟨b, o, none⟩ ∧ RowAt w ok B b o l) :
    ∃ news : List Value, Src P l.sz tx (.slice p l.length c) l.length news w ∧ news.length = l.length * l.sz ∧
      (∀ i j, i < l.length → j < l.sz → Rep w ok B (fun _ => none) ((l.elem i).cell j) (news.getD (i * l.sz + j) undef)) ∧ (∀ i, i < l.length → (l.elem i).cells.length = l.sz) := by
  by_cases h0 : 0 < l.length
  · obtain ⟨b, o, rfl, hr⟩ := h h0
    obtain ⟨f, g1, g2⟩ := row_cells hr hz
    obtain ⟨val, _, _, g3⟩ := hr
    have hget : ∀ q, q < l.length * l.sz → ((List.range (l.length * l.sz)).map f).getD q undef = f q := by
      intro q hq; simp [List.getD_eq_getElem?_getD, List.getElem?_range hq]
    have hpos : ∀ i j, i < l.length → j < l.sz → i * l.sz + j < l.length * l.sz := by
      intro i j hi hj
      have : (i + 1) * l.sz ≤ l.length * l.sz := Nat.mul_le_mul_right _ hi
      rw [Nat.add_mul, Nat.one_mul] at this; omega
    refine ⟨(List.range (l.length * l.sz)).map f, Src.ofSlice w hk _ _ _ _ (by simp) (fun j u hj => ?_) (fun u hu => ?_), by simp, fun i j hi hj => ?_, g3⟩
    · rw [List.getElem?_map] at hj
      by_cases hlt : j < l.length * l.sz
      · rw [List.getElem?_range hlt] at hj
        injection hj with hj; subst hj
        rw [addr_add]; exact g1 j hlt
      · rw [List.getElem?_eq_none (by simpa using hlt)] at hj; cases hj
    · obtain ⟨q, hq, rfl⟩ := List.mem_map.1 hu
      have hq : q < l.length * l.sz := List.mem_range.1 hq
      have q1 : q / l.sz < l.length := Nat.div_lt_of_lt_mul (by rw [Nat.mul_comm]; exact hq)
      have := g2 (q / l.sz) (q % l.sz) q1 (Nat.mod_lt _ hz)
      rw [show q / l.sz * l.sz + q % l.sz = q by rw [Nat.mul_comm]; exact Nat.div_add_mod q l.sz] at this
      exact rep_leafOk this (flat_elem hfl _ (by rw [g3 _ q1]; exact Nat.mod_lt _ hz))
    · rw [hget _ (hpos i j hi hj)]; exact g2 i j hi hj
  · have hl : l.length = 0 := by omega
    refine ⟨[], ?_, by simp [hl], fun i j hi => by omega, fun i hi => by omega⟩
    rw [hl]
    cases p with
    | none => exact Src.ofNil w hk c
    | some a => exact Src.ofSlice w hk a 0 c [] (by simp) (fun j u hj => by simp at hj) (fun u hu => by cases hu)
theorem src_str {tx : TypeId} (hk : P.underlying tx = some .string) (s : ByteArray) :
    ∃ news : List Value, Src P 1 tx (.string s) s.size news w ∧ news.length = s.size * 1 ∧
      (∀ i j, i < (Lst.I .u8 (bytesOf s)).length → j < 1 → Rep w ok B (fun _ => none) (((Lst.I .u8 (bytesOf s)).elem i).cell j) (news.getD (i * 1 + j) undef)) := by
  have hb : byteCells s = (bytesOf s).map fun n => Value.int .u8 n := by simp [byteCells, bytesOf]
  refine ⟨byteCells s, Src.ofString w hk s, by rw [byteCells_length, Nat.mul_one], fun i j hi hj => ?_⟩
  have hj : j = 0 := by omega
  subst hj
  have hi : i < (bytesOf s).length := hi
  rw [hb]
  have : ((bytesOf s).map fun n => Value.int .u8 n).getD (i * 1 + 0) undef = .int .u8 ((bytesOf s).getD i 0) := by
    simp [List.getD_eq_getElem?_getD, List.getElem?_eq_getElem hi]
  rw [this]
  exact .v _
end
end Go.Ev

namespace Go.Ev
set_option linter.unusedSimpArgs false
set_option linter.unusedVariables false
theorem SimI.newKey {G : Base} {ι : Loci} {ok : Nat → Prop} {st : St} {a : Act} {w : World} (h : SimI G ι ok st a w) {L : Loc} {o : AObj} (ho : ObjOK w ok G.B (ι.set st.nk L) st.nk o)
    (hsep : ∀ k₂ o₂ L₂, look st.ar k₂ = some o₂ → o₂.owned = true → ι k₂ = some L₂ → 0 < L₂.cp → L₂.b ≠ L.b) (hap : ¬ ok L.b ∧ (G.own0 L.b ∨ G.N ≤ L.b)) :
    SimI G (ι.set st.nk L) ok { st with nk := st.nk + 1, ar := (st.nk, o) :: st.ar } a w := by
  have hle := Loci.set_le (L := L) (h.fresh st.nk (Nat.le_refl _))
  have hid : ∀ b : Nat, ok b → w.heap[b]? = w.heap[b]? := fun _ _ => rfl
  exact {
    size := h.size
    dfn := h.dfn
    dfs := fun i x d hx hd => by obtain ⟨f, caps, g1, g2⟩ := h.dfs i x d hx hd; exact ⟨f, caps, g1.mono hid (fun _ h => h) hle, g2⟩
    tags := fun k j hk => by
      obtain ⟨g1, L', g2⟩ := h.tags k j hk
      have := hle k L' g2
      exact ⟨this.trans (g2.symm.trans g1), L', this⟩
    slots := fun t x hx => ⟨(h.slots t x hx).1, (h.slots t x hx).2.mono hid (fun _ h => h) hle⟩
    objs := fun k o' hk => by
      rw [look_cons] at hk
      split at hk
      · rename_i e; subst e; injection hk with hk; subst hk; exact ho
      · exact (h.objs k o' hk).mono (fun _ _ _ => rfl) hid (fun _ h => h) hle
    inj := by
      intro k₁ k₂ o₁ o₂ L₁ L₂ hk₁ hk₂ ho₁ ho₂ hl₁ hl₂ hc₁ hc₂ hb
      rw [look_cons] at hk₁ hk₂
      by_cases e₁ : st.nk = k₁ <;> by_cases e₂ : st.nk = k₂
      · exact e₁.symm.trans e₂
      · subst e₁
        rw [if_neg e₂] at hk₂
        rw [Loci.set_same] at hl₁; injection hl₁ with hl₁; subst hl₁
        rw [Loci.set_other (fun e => e₂ e.symm)] at hl₂
        exact absurd hb.symm (hsep _ _ _ hk₂ ho₂ hl₂ hc₂)
      · subst e₂
        rw [if_neg e₁] at hk₁
        rw [Loci.set_same] at hl₂; injection hl₂ with hl₂; subst hl₂
        rw [Loci.set_other (fun e => e₁ e.symm)] at hl₁
        exact absurd hb (hsep _ _ _ hk₁ ho₁ hl₁ hc₁)
      · rw [if_neg e₁] at hk₁
        rw [if_neg e₂] at hk₂
        rw [Loci.set_other (fun e => e₁ e.symm)] at hl₁
        rw [Loci.set_other (fun e => e₂ e.symm)] at hl₂
        exact h.inj k₁ k₂ o₁ o₂ L₁ L₂ hk₁ hk₂ ho₁ ho₂ hl₁ hl₂ hc₁ hc₂ hb
    apart := by
      intro k o' L' hk hown hl hc
      rw [look_cons] at hk
      by_cases e : st.nk = k
      · subst e
        rw [Loci.set_same] at hl; injection hl with hl; subst hl
        exact hap
      · rw [if_neg e] at hk
        rw [Loci.set_other (fun e' => e e'.symm)] at hl
        exact h.apart k o' L' hk hown hl hc
    fresh := fun k hk => by
      have hk1 : st.nk + 1 ≤ k := hk
      have hne : k ≠ st.nk := fun e => Nat.not_succ_le_self st.nk (e ▸ hk1)
      rw [Loci.set_other hne]; exact h.fresh k (Nat.le_of_succ_le hk1)
    os := h.os, tape := h.tape, output := h.output, heap := h.heap, block := h.block, okin := h.okin, oksub := h.oksub, oklt := h.oklt }
/-- the row to which is appended -/
def baseOf (st : St) : AV → Option (Option Key × Option Lst)
  | .nils => some (none, none)
  | .own k => match look st.ar k with
    | some (.row true l) => some (some k, some l)
    | _ => none
  | .sl k sz off len => match look st.ar k with
    | some (.row true l) => bif Nat.beq sz l.sz then some (some k, some ((l.drop off).take len)) else none
    | _ => none
  | _ => none
def srcOf (st : St) : TypeDesc → AV → Option (Option Lst)
  | .string, .v (.string s) => some (some (.I .u8 (bytesOf s)))
  | .slice _, .nils => some none
  | .slice _, x => match sliceLst st x with
    | some l => some (some l)
    | none => none
  | _, _ => none
def both (l l' : Lst) : Option (Lst × Lst × Lst) := match catLst l l' with
  | some m => some (l, l', m)
  | none => none
def joined : Option Lst → Option Lst → Option (Lst × Lst × Lst)
  | some l, some l' => both l l'
  | some l, none => both l (l.take 0)
  | none, some l' => both (l'.take 0) l'
  | none, none => none
def killO (st : St) : Option Key → St
  | some k => { st with ar := (k, .dead) :: st.ar }
  | none => st
/-- a row that is nil just if it is empty? -/
def isNl : Option AV → Bool
  | some .nils => true
  | some (.ownN _) => true
  | _ => false
def ownOr (b : Bool) (k : Key) : AV := match b with | true => .ownN k | false => .own k
/-- a row that is nil or has room? -/
def isVl : Option AV → Bool
  | some (.ownV _) => true
  | _ => false
def ownKd (v b : Bool) (k : Key) : AV := match v with | true => .ownV k | false => ownOr b k
theorem rep_ownOr {w : World} {ok : Nat → Prop} {B : Nat} {ι : Loci} {b : Bool} {k : Key} {p : Option Addr} {n c : Nat} (h : Rep w ok B ι (.own k) (.slice p n c)) (hb : b = true → n = 0 → p = none) : Rep w ok B ι (ownOr b k) (.slice p n c) := by
  cases b with
  | false => exact h
  | true =>
    cases h with
    | @own _ _ L a1 a2 =>
      by_cases h0 : L.n = 0
      · have := hb rfl h0; cases this
      · exact .ownN a1 a2 (by omega)
    | own0 a1 a2 a3 =>
      have := hb rfl rfl; subst this
      exact .ownN0 a1 a2 a3
theorem rep_ownKd {w : World} {ok : Nat → Prop} {B : Nat} {ι : Loci} {v b : Bool} {k : Key} {p : Option Addr} {n c : Nat} (h : Rep w ok B ι (.own k) (.slice p n c)) (hv : v = true → c = 0 → p = none) (hb : b = true → n = 0 → p = none) : Rep w ok B ι (ownKd v b k) (.slice p n c) := by
  cases v with
  | false => exact rep_ownOr h hb
  | true =>
    cases h with
    | own a1 a2 => exact .ownV a1 a2
    | own0 a1 a2 a3 =>
      have := hv rfl rfl; subst this
      exact .ownV0 a1 a2 a3
def evAppend {R : Type} (P : Program) (o : Oper) (t1 t2 : TypeId) (s x : Operand) (st : St) (K : X → St → Option R) : Option R :=
  match P.underlying t1, P.underlying t2, opnd st s, opnd st x with
  | some (.slice e), some d, some sv, some xv => match P.info? e with
    | some i => match i.zero with
      | some z => match baseOf st sv, srcOf st d xv with
        | some (ko, l0), some lx => match joined l0 lx with
          | some (l, l', m) => bif Nat.beq i.size l.sz && (Nat.blt 0 i.size && (flatLst l && (flatLst l' && (rowTyB m e && (Nat.beq z.cells.size i.size && (Nat.ble (m.length * i.bytes) 140737488355328 && Nat.ble m.length 9223372036854775807)))))) then
              fin o (newRowSt (killO st ko) m) K (ownKd (isVl (opndR st s)) (isNl (opndR st s)) st.nk) else none
          | none => none
        | _, _ => none
      | none => none
    | none => none
  | _, _, _, _ => none
section
variable {P : Program} {o : Oper} {R : Type} {st : St} {K : X → St → Option R} {r : R}
theorem baseOf_ok {G : Base} {ι : Loci} {ok : Nat → Prop} {a : Act} {w : World} (hs : SimI G ι ok st a w) {sv : AV} {v : Value} (hv : Rep w ok G.B ι sv v) {ko : Option Key} {lo : Option Lst} (h : baseOf st sv = some (ko, lo)) :
    ∃ p n c, v = .slice p n c ∧ (∀ l, lo = some l → n = l.length) ∧ (lo = none → n = 0) ∧ n ≤ c ∧ (ko = none → c = 0) ∧
      (c = 0 ∨ ∃ k L l b0 row vs t fr, ko = some k ∧ lo = some l ∧ p = some ⟨L.b, b0, none⟩ ∧ look st.ar k = some row ∧ row.owned = true ∧ ι k = some L ∧ 0 < L.cp ∧ w.heap[L.b]? = some (.cells vs t fr) ∧
        ((fr.1 = fr.2 ∨ vs.size ≤ fr.1) ∧ rowTy l t) ∧ b0 + c * l.sz ≤ vs.size ∧ RowAt w ok G.B L.b b0 l) := by
  cases sv with
  | nils =>
    injection h with h; injection h with e1 e2; subst e1; subst e2
    cases hv
    exact ⟨none, 0, 0, rfl, (fun l h => by cases h), fun _ => rfl, Nat.le_refl _, fun _ => rfl, .inl rfl⟩
  | own k =>
    simp only [baseOf] at h
    split at h
    · rename_i l hk
      injection h with h; injection h with e1 e2; subst e1; subst e2
      obtain ⟨L, h1, h2, h3, h4⟩ := hs.objs _ _ hk
      cases hv with
      | own g g1 =>
        rw [h1] at g; injection g with g; subst g
        obtain ⟨vs, t, fr, a1, a2, a3, a4, a5⟩ := h4 g1
        exact ⟨_, _, _, rfl, (fun l' hl => by injection hl with hl; subst hl; exact h2), (fun h => by cases h), h3, (fun h => by cases h), .inr ⟨k, L, l, _, _, vs, t, fr, rfl, rfl, rfl, hk, rfl, h1, g1, a1, a2 rfl, a4, a5⟩⟩
      | own0 g g1 g2 =>
        rw [h1] at g; injection g with g; subst g
        exact ⟨_, 0, 0, rfl, (fun l' hl => by injection hl with hl; subst hl; omega), (fun h => by cases h), Nat.le_refl _, (fun h => by cases h), .inl rfl⟩
    · cases h
  | sl k sz off len =>
    simp only [baseOf] at h
    split at h
    · rename_i l hk
      obtain ⟨e, hh⟩ := cond_none h
      clear h
      have e := beq_eq e; subst e
      injection hh with hh; injection hh with e1 e2; subst e1; subst e2
      obtain ⟨L, h1, h2, h3, h4⟩ := hs.objs _ _ hk
      cases hv with
      | sl g g1 g2 g3 g4 =>
        rename_i c L'
        rw [h1] at g; injection g with g; subst g
        have hcp : 0 < L.cp := by omega
        obtain ⟨vs, t, fr, a1, a2, a3, a4, a5⟩ := h4 hcp
        refine ⟨_, _, _, rfl, (fun l' hl => by injection hl with hl; subst hl; rw [Lst.length_take, Lst.length_drop]; omega), (fun h => by cases h), g2, (fun h => by cases h), .inr ⟨k, L, _, _, _, vs, t, fr, rfl, rfl, rfl, hk, rfl, h1, hcp, a1, ⟨(a2 rfl).1, rowTy_take (rowTy_drop (a2 rfl).2)⟩, ?_, a5.part off len⟩⟩
        rw [Lst.sz_take, Lst.sz_drop]
        have : (off + c) * l.sz ≤ L.cp * l.sz := Nat.mul_le_mul_right _ g3
        rw [Nat.add_mul] at this
        omega
      | sl0 g g1 g2 =>
        rw [h1] at g; injection g with g; subst g
        exact ⟨_, _, 0, rfl, (fun l' hl => by injection hl with hl; subst hl; rw [Lst.length_take]; omega), (fun h => by cases h), by omega, (fun h => by cases h), .inl rfl⟩
    · cases h
  | _ => cases h
theorem srcOf_ok {G : Base} {ι : Loci} {ok : Nat → Prop} {a : Act} {w : World} (hs : SimI G ι ok st a w) {tx : TypeId} {d : TypeDesc} (hd : P.underlying tx = some d) {xv : AV} {v : Value} (hv : Rep w ok G.B ι xv v)
    {lo : Option Lst} (h : srcOf st d xv = some lo) (l' : Lst) (hl : ∀ l, lo = some l → l' = l) (hl0 : lo = none → l'.length = 0) (hz : 0 < l'.sz) (hfl : flatLst l' = true) :
    ∃ news : List Value, Src P l'.sz tx v l'.length news w ∧ news.length = l'.length * l'.sz ∧
      (∀ i j, i < l'.length → j < l'.sz → Rep w ok G.B (fun _ => none) ((l'.elem i).cell j) (news.getD (i * l'.sz + j) undef)) ∧ (∀ i, i < l'.length → (l'.elem i).cells.length = l'.sz) := by
  unfold srcOf at h
  split at h
  · rename_i s
    injection h with h; subst h
    have := hl _ rfl; subst this
    have hv := rep_v_inv hv; subst hv
    obtain ⟨news, g1, g2, g3⟩ := src_str (w := w) (ok := ok) (B := G.B) hd s
    have hsz : s.data.size = s.size := rfl
    have hlen : (Lst.I .u8 (bytesOf s)).length = s.size := by simp [Lst.length, bytesOf, hsz]
    exact ⟨news, by rw [hlen]; exact g1, by rw [hlen]; exact g2, g3, fun i hi => rfl⟩
  · injection h with h; subst h
    cases hv
    have := src_row (w := w) (ok := ok) (B := G.B) hd (p := none) (c := 0) hz hfl (fun h0 => by have := hl0 rfl; omega)
    rw [hl0 rfl] at this ⊢
    exact this
  · split at h
    · rename_i l hl1
      injection h with h; subst h
      have := hl _ rfl; subst this
      obtain ⟨p, c, rfl, _, e2⟩ := sliceLst_ok hs hv hl1
      exact src_row hd hz hfl e2
    · cases h
  · cases h
theorem joined_ok {l0 lx : Option Lst} {l l' m : Lst} (h : joined l0 lx = some (l, l', m)) : catLst l l' = some m ∧ (∀ x, l0 = some x → l = x) ∧ (l0 = none → l.length = 0) ∧ (∀ x, lx = some x → l' = x) ∧ (lx = none → l'.length = 0) := by
  have key : ∀ {a b : Lst}, both a b = some (l, l', m) → catLst l l' = some m ∧ l = a ∧ l' = b := by
    intro a b h
    unfold both at h
    split at h
    · rename_i m' hm
      injection h with h; injection h with e1 e2; injection e2 with e2 e3; subst e1; subst e2; subst e3
      exact ⟨hm, rfl, rfl⟩
    · cases h
  cases l0 with
  | none =>
    cases lx with
    | none => cases h
    | some x =>
      obtain ⟨h1, h2, h3⟩ := key h
      exact ⟨h1, (fun _ h => by cases h), fun _ => by rw [h2, Lst.length_take]; omega, (fun _ h => by injection h with h; rw [h3, h]), fun h => by cases h⟩
  | some y =>
    cases lx with
    | none =>
      obtain ⟨h1, h2, h3⟩ := key h
      exact ⟨h1, (fun _ h => by injection h with h; rw [h2, h]), (fun h => by cases h), (fun _ h => by cases h), fun _ => by rw [h3, Lst.length_take]; omega⟩
    | some x =>
      obtain ⟨h1, h2, h3⟩ := key h
      exact ⟨h1, (fun _ h => by injection h with h; rw [h2, h]), (fun h => by cases h), (fun _ h => by injection h with h; rw [h3, h]), fun h => by cases h⟩
theorem killO_sim {G : Base} {ι : Loci} {ok : Nat → Prop} {a : Act} {w : World} (hs : SimI G ι ok st a w) (ko : Option Key) : SimI G ι ok (killO st ko) a w := by
  cases ko with
  | none => exact hs
  | some k => exact hs.kill k
/-- 'append' -/
theorem evAppend_ok {t1 t2 : TypeId} {s x : Operand} {ats : Array TypeId} (hat : ats = #[t1, t2]) (ho : o.op = .call { callee := .builtin .append, args := #[s, x], argTypes := ats })
    (h : evAppend P o t1 t2 s x st K = some r) : ∃ x st', RunsOp P o st x st' ∧ K x st' = some r := by
  subst hat
  unfold evAppend at h
  split at h
  · rename_i e d sv xv hu hd hsv hxv
    split at h
    · rename_i i hi
      split at h
      · rename_i z hz
        split at h
        · rename_i ko l0 lx hb hsrc
          split at h
          · rename_i l l' m hj
            obtain ⟨hc, h⟩ := cond_none h
            simp only [Bool.and_eq_true] at hc
            have c1 : i.size = l.sz := beq_eq hc.1
            have c2 : 0 < i.size := by have := hc.2.1; simpa [Nat.blt_eq] using this
            have c3 := hc.2.2.1
            have c4 := hc.2.2.2.1
            have c8 := rowTyB_ok hc.2.2.2.2.1
            have c5 : z.cells.size = i.size := beq_eq hc.2.2.2.2.2.1
            have c6 : m.length * i.bytes ≤ 140737488355328 := Nat.le_of_ble_eq_true hc.2.2.2.2.2.2.1
            have c7 : m.length ≤ 9223372036854775807 := Nat.le_of_ble_eq_true hc.2.2.2.2.2.2.2
            obtain ⟨j1, j2, j3, j4, j5⟩ := joined_ok hj
            refine runs_new h (fun G ι ok a w hs => ?_)
            obtain ⟨m1, m2, m3, m4, m5, m6⟩ := catLst_ok (w := w) (ok := ok) (B := G.B) j1
            obtain ⟨p, n, c, hv, n1, n2, n3, n4, hB⟩ := baseOf_ok hs (hs.opnd hsv) hb
            have hn : n = l.length := by
              cases l0 with
              | none => rw [n2 rfl, j3 rfl]
              | some y => rw [n1 y rfl, j2 y rfl]
            obtain ⟨news, s1, s2, s3, s4⟩ := srcOf_ok hs hd (hs.opnd hxv) hsrc l' j4 j5 (by rw [m2, ← c1]; exact c2) c4
            rw [m2, ← c1] at s1 s2 s3
            have run : ∀ (v : Value) (w' : World), (Builtin.append_ #[t1, t2] o.type #[a.eval s, a.eval x]).run P w = .ok v w' → (execOp a.eval o).run P w = .ok (.value v) w' := by
              intro v w' hr
              rw [exec_builtin ho, show (#[s, x].map a.eval) = #[a.eval s, a.eval x] by simp]
              exact exec_v hr
            subst hn
            have hk := killO_sim hs ko
            have hNl : isNl (opndR st s) = true → l.length = 0 → p = none ∧ c = 0 := by
              intro hb0 hl0
              unfold isNl at hb0
              split at hb0
              · rename_i hx0
                have := hs.opndR hx0
                rw [hv] at this
                generalize hq : Value.slice p l.length c = q at this
                cases this; injection hq with q1 q2 q3; exact ⟨q1, q3⟩
              · rename_i hx0
                have := hs.opndR hx0
                rw [hv] at this
                generalize hq : Value.slice p l.length c = q at this
                cases this with
                | ownN a1 a2 a3 => injection hq with q1 q2 q3; omega
                | ownN0 a1 a2 a3 => injection hq with q1 q2 q3; exact ⟨q1, q3⟩
              · cases hb0
            have hVl : isVl (opndR st s) = true → c = 0 → p = none := by
              intro hb0 hc0
              unfold isVl at hb0
              split at hb0
              · rename_i hx0
                have := hs.opndR hx0
                rw [hv] at this
                generalize hq : Value.slice p l.length c = q at this
                cases this with
                | ownV a1 a2 => injection hq with q1 q2 q3; omega
                | ownV0 a1 a2 a3 => injection hq with q1 q2 q3
              · cases hb0
            have hnk : (killO st ko).nk = st.nk := by cases ko <;> rfl
            have hszm : m.sz = i.size := by rw [m1, c1]
            by_cases hroom : l.length + l'.length ≤ c
            · by_cases hc0 : c = 0
              · -- nothing, behind nothing
                subst hc0
                have e1 : l.length = 0 := by omega
                have e2 : l'.length = 0 := by omega
                obtain ⟨lk, rfl⟩ := m6 (by omega)
                have hkn := hk.nilRow lk
                refine ⟨.slice p 0 0, w, _, run _ _ ?_, hkn, rep_ownKd (.own0 (L := ⟨0, 0, 0, 0⟩) (by rw [hnk]; simp) rfl rfl) (fun hb0 _ => hVl hb0 rfl) (fun hb0 _ => (hNl hb0 e1).1)⟩
                rw [hv, e1]
                have hn0 : news = [] := List.eq_nil_of_length_eq_zero (by rw [s2, e2, Nat.zero_mul])
                subst hn0
                rw [e2] at s1
                have hst : ∀ ad : Addr, (storeCells ad []).run P w = .ok () w := fun ad => rfl
                rcases s1.kind with ⟨e', hk'⟩ | hk' <;> cases p <;> simp [Builtin.append_, run_underlying hu, run_underlying hk', sizeOf, typeInfo, hi, s1.len, s1.cells, hst]
              · rcases hB with hB | ⟨k, L, l₁, b0, row, vs, t, fr, b1, b2, b3, b4, b5, b6, b7, b8, b9, b10, b11⟩
                · exact absurd hB hc0
                · subst b1; subst b3
                  have := j2 _ b2; subst this
                  have hap := hs.apart k row L b4 b5 b6 b7
                  have hcs : ∀ j, j < news.length → b0 + l.length * i.size + j < vs.size := by
                    intro j hj
                    rw [s2] at hj
                    have : (l.length + l'.length) * l.sz ≤ c * l.sz := Nat.mul_le_mul_right _ hroom
                    rw [Nat.add_mul, ← c1] at this
                    rw [← c1] at b10
                    omega
                  have hr := run_append_room_src (P := P) w t1 t2 o.type e i hu hi L.b b0 l.length c _ l'.length news s1 hroom (fun j hj => by
                    unfold World.cell?
                    simp only [b8]
                    simp [hcs j hj]) (fun j hj => frozen_free b8 b9.1 (hcs j hj))
                  obtain ⟨c', g1, g2, g3⟩ := setCells_block L.b news (b0 + l.length * i.size) w vs t fr b8
                  obtain ⟨o1, o2, o3, o4, o5⟩ := setCells_other L.b news (b0 + l.length * i.size) w
                  have hw : SimI G ι ok { st with ar := (k, .dead) :: st.ar } a (w.setCells L.b (b0 + l.length * i.size) news) := hs.write (o' := .dead) b4 b5 b6 b7 o1 o2 o3 o4 o5 trivial
                  have hmem : ∀ b, ok b → (w.setCells L.b (b0 + l.length * i.size) news).heap[b]? = w.heap[b]? := fun b hb => o5 b (fun e => hap.1 (e ▸ hb))
                  have hcell : ∀ q v, q < vs.size → (if b0 + l.length * i.size ≤ q ∧ q < b0 + l.length * i.size + news.length then news[q - (b0 + l.length * i.size)]? else vs[q]?) = some v →
                      (w.setCells L.b (b0 + l.length * i.size) news).cell? ⟨L.b, q, none⟩ = some v := by
                    intro q v hq hv'
                    unfold World.cell?
                    simp only [g1]
                    simp only [Option.isSome_none, Bool.false_eq_true, if_false]
                    rw [g3 _ hq]; exact hv'
                  have hrow : RowAt (w.setCells L.b (b0 + l.length * i.size) news) ok G.B L.b b0 m := by
                    obtain ⟨val, r1, r2, r3⟩ := b11
                    have hin : ∀ i' j', i' < l.length + l'.length → j' < i.size → i' * i.size + j' < (l.length + l'.length) * i.size := by
                      intro i' j' hi' hj'
                      have : (i' + 1) * i.size ≤ (l.length + l'.length) * i.size := Nat.mul_le_mul_right _ hi'
                      rw [Nat.add_mul, Nat.one_mul] at this; omega
                    have hcap : (l.length + l'.length) * i.size ≤ c * i.size := Nat.mul_le_mul_right _ hroom
                    rw [← c1] at b10
                    refine ⟨fun i' j' => if i' < l.length then val i' j' else news.getD ((i' - l.length) * i.size + j') undef, fun i' j' hi' hj' => ?_, fun i' j' hi' hj' => ?_, fun i' hi' => ?_⟩
                    · rw [hszm] at hj' ⊢
                      rw [m3] at hi'
                      have h1 := hin i' j' hi' hj'
                      refine hcell _ _ (by omega) ?_
                      show _ = some (if i' < l.length then val i' j' else news.getD ((i' - l.length) * i.size + j') undef)
                      by_cases hlt : i' < l.length
                      · rw [if_pos hlt]
                        have h2 : (i' + 1) * i.size ≤ l.length * i.size := Nat.mul_le_mul_right _ hlt
                        rw [Nat.add_mul, Nat.one_mul] at h2
                        rw [if_neg (by omega)]
                        have h3 := r1 i' j' hlt (by rw [← c1]; exact hj')
                        unfold World.cell? at h3
                        simp only [b8] at h3
                        simp only [Option.isSome_none, Bool.false_eq_true, if_false] at h3
                        rw [← c1] at h3; exact h3
                      · rw [if_neg hlt]
                        have hge : l.length ≤ i' := by omega
                        have h2 : l.length * i.size ≤ i' * i.size := Nat.mul_le_mul_right _ hge
                        have h4 : (i' - l.length) * i.size = i' * i.size - l.length * i.size := Nat.sub_mul _ _ _
                        have h5 : (l.length + l'.length) * i.size = l.length * i.size + l'.length * i.size := Nat.add_mul _ _ _
                        rw [if_pos ⟨by omega, by omega⟩]
                        rw [show b0 + (i' * i.size + j') - (b0 + l.length * i.size) = (i' - l.length) * i.size + j' by omega]
                        have h6 : (i' - l.length) * i.size + j' < news.length := by omega
                        simp [List.getD_eq_getElem?_getD, List.getElem?_eq_getElem h6]
                    · rw [hszm] at hj'
                      rw [m3] at hi'
                      by_cases hlt : i' < l.length
                      · simp only [if_pos hlt]
                        rw [m4 i' hlt]
                        exact (r2 i' j' hlt (by rw [← c1]; exact hj')).mono hmem (fun _ h => h) (fun _ _ h => h)
                      · simp only [if_neg hlt]
                        have hb2 : i' - l.length < l'.length := by omega
                        have := (m5 (i' - l.length) hb2).2 j' _ (s3 (i' - l.length) j' hb2 hj')
                        rw [show l.length + (i' - l.length) = i' by omega] at this
                        exact this.mono hmem (fun _ h => h) (fun _ _ h => h)
                    · rw [m3] at hi'
                      by_cases hlt : i' < l.length
                      · rw [m4 i' hlt, hszm, c1]; exact r3 i' hlt
                      · have hb2 : i' - l.length < l'.length := by omega
                        have := (m5 (i' - l.length) hb2).1
                        rw [show l.length + (i' - l.length) = i' by omega] at this
                        rw [this, s4 _ hb2, hszm, m2, c1]
                  have hN := SimI.newKey hw (L := ⟨L.b, b0, l.length + l'.length, c⟩) (o := .row true m)
                    ⟨⟨L.b, b0, l.length + l'.length, c⟩, Loci.set_same _ _ _, m3.symm, hroom, fun _ => ⟨c', t, fr, g1, fun _ => ⟨by rw [g2]; exact b9.1, rowTy_cat j1 (by first | exact b9.2 | (rw [j2 _ b2]; exact b9.2))⟩, (fun h => by cases h), by rw [g2, hszm, c1]; exact b10, hrow⟩⟩
                    (fun k₂ o₂ L₂ hk₂ ho₂ hl₂ hc₂ hb₂ => by
                      rw [look_cons] at hk₂
                      split at hk₂
                      · injection hk₂ with hk₂; subst hk₂; cases ho₂
                      · rename_i hne
                        exact hne (hs.inj k k₂ row o₂ L L₂ b4 hk₂ b5 ho₂ b6 hl₂ b7 hc₂ hb₂.symm)) hap
                  refine ⟨_, _, _, run _ _ (by rw [hv]; exact hr), hN, ?_⟩
                  refine rep_ownKd (.own (L := ⟨L.b, b0, l.length + l'.length, c⟩) (Loci.set_same _ _ _) (by show 0 < c; omega)) (fun hb0 h0 => absurd h0 (by omega)) (fun hb0 h0 => ?_)
                  exact absurd (hNl hb0 (by omega)).2 hc0
            · -- a new row
              have hsb : ∃ olds : List Value, Src P i.size t1 (.slice p l.length c) l.length olds w ∧ olds.length = l.length * i.size ∧
                  (∀ i' j', i' < l.length → j' < i.size → Rep w ok G.B (fun _ => none) ((l.elem i').cell j') (olds.getD (i' * i.size + j') undef)) ∧ (∀ i', i' < l.length → (l.elem i').cells.length = i.size) := by
                have := src_row (w := w) (ok := ok) (B := G.B) hu (p := p) (c := c) (l := l) (by rw [← c1]; exact c2) c3 (fun h0 => by
                  rcases hB with hB | ⟨k, L, l₁, b0, row, vs, t, fr, b1, b2, b3, b4, b5, b6, b7, b8, b9, b10, b11⟩
                  · omega
                  · have := j2 _ b2; subst this
                    exact ⟨_, _, b3, b11⟩)
                rw [← c1] at this
                exact this
              obtain ⟨olds, q1, q2, q3, q4⟩ := hsb
              have hr := run_append_grow_src (P := P) w t1 t2 o.type e i z hu hi hz p l.length c olds q1.cellsD _ l'.length news s1 (by omega) (by have h7 := c7; rw [m3] at h7; omega)
                (growslice_fits (by omega) (by rw [← m3]; exact c6))
              have hge := grownCap_ge w (l.length + l'.length) c e
              have hall : ∀ i' j', i' < m.length → j' < m.sz → Rep w ok G.B (fun _ => none) ((m.elem i').cell j') (((olds ++ news).toArray ++ Builtin.zeroCells z.cells (grownCap w (l.length + l'.length) c e - (l.length + l'.length))).getD (i' * m.sz + j') undef) := by
                intro i' j' hi' hj'
                rw [hszm] at hj' ⊢
                rw [m3] at hi'
                by_cases hlt : i' < l.length
                · rw [m4 i' hlt]
                  have h2 : (i' + 1) * i.size ≤ l.length * i.size := Nat.mul_le_mul_right _ hlt
                  rw [Nat.add_mul, Nat.one_mul] at h2
                  have h3 : i' * i.size + j' < olds.length := by omega
                  have h4 := q3 i' j' hlt hj'
                  have h5 : ((olds ++ news).toArray ++ Builtin.zeroCells z.cells (grownCap w (l.length + l'.length) c e - (l.length + l'.length))).getD (i' * i.size + j') undef = olds.getD (i' * i.size + j') undef := by
                    simp only [Array.getD_eq_getD_getElem?, List.getD_eq_getElem?_getD]
                    rw [Array.getElem?_append_left (by simp; omega)]
                    simp [List.getElem?_append_left h3]
                  rw [h5]; exact h4
                · have hb2 : i' - l.length < l'.length := by omega
                  have hge2 : l.length ≤ i' := by omega
                  have h2 : l.length * i.size ≤ i' * i.size := Nat.mul_le_mul_right _ hge2
                  have h4 : (i' - l.length) * i.size = i' * i.size - l.length * i.size := Nat.sub_mul _ _ _
                  have h6 : (i' - l.length + 1) * i.size ≤ l'.length * i.size := Nat.mul_le_mul_right _ hb2
                  rw [Nat.add_mul, Nat.one_mul] at h6
                  have h3 : (i' - l.length) * i.size + j' < news.length := by omega
                  have := (m5 (i' - l.length) hb2).2 j' _ (s3 (i' - l.length) j' hb2 hj')
                  rw [show l.length + (i' - l.length) = i' by omega] at this
                  have h5 : ((olds ++ news).toArray ++ Builtin.zeroCells z.cells (grownCap w (l.length + l'.length) c e - (l.length + l'.length))).getD (i' * i.size + j') undef = news.getD ((i' - l.length) * i.size + j') undef := by
                    simp only [Array.getD_eq_getD_getElem?, List.getD_eq_getElem?_getD]
                    rw [Array.getElem?_append_left (by simp; omega)]
                    simp only [List.getElem?_toArray]
                    rw [List.getElem?_append_right (by omega)]
                    rw [show i' * i.size + j' - olds.length = (i' - l.length) * i.size + j' by omega]
                  rw [h5]; exact this
              have hlen : ∀ i', i' < m.length → (m.elem i').cells.length = m.sz := by
                intro i' hi'
                rw [m3] at hi'
                by_cases hlt : i' < l.length
                · rw [m4 i' hlt, hszm]; exact q4 i' hlt
                · have hb2 : i' - l.length < l'.length := by omega
                  have := (m5 (i' - l.length) hb2).1
                  rw [show l.length + (i' - l.length) = i' by omega] at this
                  rw [this, s4 _ hb2, hszm, m2, c1]
              have hdrew : SimI G ι ok (killO st ko) a w.drew := hk.same rfl rfl rfl rfl
              have hsize : ((olds ++ news).toArray ++ Builtin.zeroCells z.cells (grownCap w (l.length + l'.length) c e - (l.length + l'.length))).size = grownCap w (l.length + l'.length) c e * m.sz := by
                rw [Array.size_append, size_zeroCells, hszm, c5]
                simp only [List.size_toArray, List.length_append, q2, s2]
                rw [← Nat.add_mul, ← Nat.add_mul]
                congr 1; omega
              obtain ⟨w1, w2⟩ := newRow_ok hdrew (l := m) (e := e) (c := grownCap w (l.length + l'.length) c e) (by rw [m3]; exact hge) hsize
                (fun i' j' hi' hj' => (hall i' j' hi' hj').mono (fun _ _ => rfl) (fun _ h => h) (fun _ _ h => h)) hlen c8
              refine ⟨_, _, _, run _ _ (by rw [hv]; exact hr), w1, ?_⟩
              rw [← hnk]
              rw [show Value.slice (some ⟨w.heap.size, 0, none⟩) (l.length + l'.length) (grownCap w (l.length + l'.length) c e) = Value.slice (some ⟨w.drew.heap.size, 0, none⟩) m.length (grownCap w (l.length + l'.length) c e) by rw [m3]; rfl]
              refine rep_ownKd w2 (fun hb0 h0 => absurd h0 (by omega)) (fun hb0 h0 => ?_)
              omega
          · cases h
        · cases h
      · cases h
    · cases h
  · cases h
end
end Go.Ev

namespace Go.Ev
set_option linter.unusedSimpArgs false
set_option linter.unusedVariables false
/-! ### make, a conversion of a slice to its own type -/
def repLst : Lst → Nat → Lst
  | .I k l, n => .I k (List.replicate n (l.getD 0 0))
  | .S l, n => .S (List.replicate n (l.getD 0 ByteArray.empty))
  | .A sh sz l, n => .A sh sz (List.replicate n (l.getD 0 default))
theorem repLst_ok (l : Lst) (n : Nat) : (repLst l n).length = n ∧ (repLst l n).sz = l.sz ∧ ∀ i, i < n → (repLst l n).elem i = l.elem 0 := by
  cases l <;> refine ⟨by simp [repLst, Lst.length], rfl, fun i hi => by simp [repLst, Lst.elem, List.getD_eq_getElem?_getD, List.getElem?_replicate, hi]⟩
def evMake {R : Type} (P : Program) (o : Oper) (t : TypeId) (x y : Operand) (st : St) (K : X → St → Option R) : Option R :=
  match P.underlying t, opnd st x, opnd st y with
  | some (.slice e), some (.v (.int _ l)), some (.v (.int _ c)) => match P.info? e with
    | some i => match i.zero with
      | some z => match mkRow P e 1 (ofVal z).cells with
        | some l1 => bif rowTyB (repLst l1 l.toNat) e && (decide (0 ≤ l) && (decide (l ≤ c) && (decide ((i.bytes : Int) * c ≤ 281474976710656) && (decide (c ≤ 9223372036854775807) && (Nat.beq (ofVal z).cells.length i.size && (Nat.blt 0 i.size && (ofVal z).cells.all leafOk)))))) then
            fin o (newRowSt st (repLst l1 l.toNat)) K (.own st.nk) else none
        | none => none
      | none => none
    | none => none
  | _, _, _ => none
def evConvId {R : Type} (P : Program) (o : Oper) (src dst : TypeId) (x : Operand) (st : St) (K : X → St → Option R) : Option R :=
  match P.underlying src, opnd st x with
  | some (.slice e), some (.own k) => match P.underlying e, look st.ar k with
    | some (.int .u8), some (.row true l) => bif Nat.beq src dst && Nat.blt 0 l.length then fin o { st with ar := (k, .row true l) :: st.ar } K (.own k) else none
    | _, _ => none
  | _, _ => none
section
variable {P : Program} {o : Oper} {R : Type} {st : St} {K : X → St → Option R} {r : R}
theorem evMake_ok {t : TypeId} {x y : Operand} (ho : o.op = .makeSlice t x y) (h : evMake P o t x y st K = some r) : ∃ x st', RunsOp P o st x st' ∧ K x st' = some r := by
  unfold evMake at h
  split at h
  · rename_i e kl l kc c hu hx hy
    split at h
    · rename_i i hi
      split at h
      · rename_i z hz
        split at h
        · rename_i l1 hl1
          obtain ⟨hc, h⟩ := cond_none h
          simp only [Bool.and_eq_true, decide_eq_true_eq] at hc
          obtain ⟨hc8, hc⟩ := hc
          have e1 := beq_eq hc.2.2.2.2.1
          have hpos : 0 < i.size := by have := hc.2.2.2.2.2.1; simpa [Nat.blt_eq] using this
          refine runs_new h (fun G ι ok a w hs => ?_)
          obtain ⟨c1, c2, _⟩ := rep_cells (rep_ofVal (w := w) (ok := ok) (B := G.B) (ι := ι) z) hc.2.2.2.2.2.2
          obtain ⟨r1, r2, r3, r4, r5, r6⟩ := mkRow_ok (w := w) (ok := ok) (B := G.B) (ι := ι) hi hl1 (fun q => z.cells.getD q undef) c2
          obtain ⟨p1, p2, p3⟩ := repLst_ok l1 l.toNat
          have hsz : l1.sz = i.size := r2
          have hr := run_make (P := P) w t e i z hu hi hz kl kc l c hc.1 hc.2.1 hc.2.2.1 hc.2.2.2.1
          have e3 : z.cells.size = i.size := by omega
          have hmade : ∀ q, q < c.toNat * i.size → (madeCells z.cells (c.toNat * i.size)).getD q undef = z.cells.getD (q % i.size) undef := by
            intro q hq
            have hm : q % z.cells.size < z.cells.size := Nat.mod_lt _ (by omega)
            rw [← e3] at hq ⊢
            unfold madeCells
            simp only [Array.getD_eq_getD_getElem?, Array.getElem?_map, Array.getElem?_range]
            simp [hq, getElem!_pos, hm]
          obtain ⟨n1, n2⟩ := newRow_ok hs (l := repLst l1 l.toNat) (e := e) (vs := madeCells z.cells (c.toNat * i.size)) (c := c.toNat) (by rw [p1]; omega) (by rw [p2, hsz]; simp [madeCells])
            (fun i' j hi' hj => by
              rw [p1] at hi'
              rw [p2, hsz] at hj ⊢
              rw [p3 i' hi']
              have hlt : i' * i.size + j < c.toNat * i.size := by
                have : (i' + 1) * i.size ≤ c.toNat * i.size := Nat.mul_le_mul_right _ (by omega)
                rw [Nat.add_mul, Nat.one_mul] at this; omega
              rw [hmade _ hlt]
              have hm : (i' * i.size + j) % i.size = j := by rw [Nat.mul_comm, Nat.mul_add_mod, Nat.mod_eq_of_lt hj]
              rw [hm]
              have := r5 0 j (by rw [r1]; omega) (by rw [hsz]; exact hj)
              simpa using this) (fun i' hi' => by
              rw [p1] at hi'
              rw [p3 i' hi', p2]
              exact r6 0 (by rw [r1]; omega)) (rowTyB_ok hc8)
          refine ⟨_, _, _, ?_, n1, n2⟩
          unfold execOp; rw [ho]
          refine exec_v ?_
          rw [rep_v_inv (hs.opnd hx), rep_v_inv (hs.opnd hy), p1]
          exact hr
        · cases h
      · cases h
    · cases h
  · cases h
theorem evConvId_ok {src dst : TypeId} {x : Operand} (ho : o.op = .convert src dst x) (h : evConvId P o src dst x st K = some r) : ∃ x st', RunsOp P o st x st' ∧ K x st' = some r := by
  unfold evConvId at h
  split at h
  · rename_i e k hu hx
    split at h
    · rename_i l hue hk
      obtain ⟨hc, hh⟩ := cond_none h
      clear h
      rw [Bool.and_eq_true] at hc
      have es := beq_eq hc.1; subst es
      have hpos : 0 < l.length := by have := hc.2; simpa [Nat.blt_eq] using this
      refine runs_new hh (fun G ι ok a w hs => ?_)
      obtain ⟨L, h1, h2, h3, h4⟩ := hs.objs _ _ hk
      have hcp : 0 < L.cp := by omega
      obtain ⟨vs, t, fr, a1, a2, a3, a4, a5⟩ := h4 hcp
      have hv := hs.opnd hx
      have hv2 : a.eval x = .slice (some ⟨L.b, L.o, none⟩) L.n L.cp := by
        generalize a.eval x = v at hv
        cases hv with
        | own g g1 => rw [h1] at g; injection g with g; subst g; rfl
        | own0 g g1 g2 => rw [h1] at g; injection g with g; subst g; omega
      have hheap : (w.freeze ⟨L.b, vs.size, none⟩ 1).heap[L.b]? = some (.cells vs t (if fr.1 == fr.2 then (vs.size, vs.size + 1) else (min fr.1 vs.size, max fr.2 (vs.size + 1)))) := by
        unfold World.freeze
        rw [if_neg (by decide)]
        obtain ⟨lo, hi⟩ := fr
        have hlt := (Array.getElem?_eq_some_iff.1 a1).1
        simp only [Array.getElem?_modify, if_pos, a1, Option.map_some]
      have hoth : ∀ b, b ≠ L.b → (w.freeze ⟨L.b, vs.size, none⟩ 1).heap[b]? = w.heap[b]? := by
        intro b hb
        unfold World.freeze
        rw [if_neg (by decide)]
        simp only [Array.getElem?_modify]
        rw [if_neg (fun e => hb e.symm)]
      have hsize : (w.freeze ⟨L.b, vs.size, none⟩ 1).heap.size = w.heap.size := by
        unfold World.freeze
        rw [if_neg (by decide)]; simp
      have hap := hs.apart k _ L hk rfl h1 hcp
      have hmem : ∀ b, ok b → (w.freeze ⟨L.b, vs.size, none⟩ 1).heap[b]? = w.heap[b]? := fun b hb => hoth b (fun e => hap.1 (e ▸ hb))
      have hfr : ∀ x : Bool, (w.freeze ⟨L.b, vs.size, none⟩ 1).os = w.os ∧ (w.freeze ⟨L.b, vs.size, none⟩ 1).tape = w.tape ∧ (w.freeze ⟨L.b, vs.size, none⟩ 1).output = w.output := by
        intro _
        unfold World.freeze
        rw [if_neg (by decide)]
        exact ⟨rfl, rfl, rfl⟩
      have hN := hs.write (w' := w.freeze ⟨L.b, vs.size, none⟩ 1) (o' := .row true l) hk rfl h1 hcp (hfr true).1 (hfr true).2.1 (hfr true).2.2 hsize hoth
        ⟨L, h1, h2, h3, fun _ => ⟨vs, t, _, hheap, fun _ => ⟨by
          have := (a2 rfl).1
          obtain ⟨lo, hi⟩ := fr
          simp only at this ⊢
          by_cases e : lo = hi
          · subst e; simp
          · have hb : (lo == hi) = false := by simp [e]
            rw [hb]
            simp only [Bool.false_eq_true, if_false]
            rcases this with g | g
            · exact absurd g e
            · right; exact Nat.le_min.2 ⟨g, Nat.le_refl _⟩, (a2 rfl).2⟩, (fun h => by cases h), a4, by
          obtain ⟨val, r1, r2, r3⟩ := a5
          refine ⟨val, fun i j hi hj => ?_, fun i j hi hj => (r2 i j hi hj).mono hmem (fun _ h => h) (fun _ _ h => h), r3⟩
          have := r1 i j hi hj
          unfold World.cell? at this ⊢
          simp only [a1] at this
          simp only [hheap]
          exact this⟩⟩
      refine ⟨_, _, _, ?_, hN, .own (L := L) h1 hcp⟩
      unfold execOp; rw [ho]
      refine exec_v ?_
      rw [hv2]
      unfold convert
      rw [run_ok (run_under hu), run_ok (run_under hu)]
      show (do match src == src, ← underlying e with | true, .int .u8 => (do markStringish ⟨L.b, L.o, none⟩; pure (Value.slice (some ⟨L.b, L.o, none⟩) L.n L.cp)) | _, _ => unsupported (.noEntry "convert/other") : Sem Value).run P w = _
      rw [run_ok (run_under hue)]
      have hss : (src == src) = true := by simp
      rw [hss]
      show (do markStringish ⟨L.b, L.o, none⟩; pure (Value.slice (some ⟨L.b, L.o, none⟩) L.n L.cp) : Sem Value).run P w = _
      have hmk : (markStringish ⟨L.b, L.o, none⟩).run P w = .ok () (w.freeze ⟨L.b, vs.size, none⟩ 1) := by
        unfold markStringish
        have hs' : (shape L.b).run P w = .ok (some (t, vs.size)) w := by
          show Result.ok (World.shape? _ L.b) _ = _
          congr 1
          unfold World.shape?
          rw [a1]
        rw [run_ok hs']; rfl
      rw [run_ok hmk]; rfl
    · cases h
  · cases h
end
end Go.Ev

namespace Go.Ev
set_option linter.unusedSimpArgs false
set_option linter.unusedVariables false
/-! ### comparisons with nil; type assertions; deferring -/
def isConst : Operand → Bool
  | .const _ => true
  | _ => false
def nilEq (c : Bool) : TypeDesc → AV → AV → Option Bool
  | .interface _, .v .nilIface, .iface _ _ => some false
  | .interface _, .iface _ _, .v .nilIface => some false
  | .interface _, .v .nilIface, .v .nilIface => bif c then some true else none
  | .pointer _, .v (.pointer none), .ptr _ _ => some false
  | .pointer _, .ptr _ _, .v (.pointer none) => some false
  | .pointer _, .v (.pointer none), .v (.pointer none) => some true
  | .slice _, .nils, .nils => some true
  | .map _ _, .v (.map none), .mp _ => some false
  | .map _ _, .mp _, .v (.map none) => some false
  | .map _ _, .v (.map none), .v (.map none) => some true
  | _, _, _ => none
def evEqNil {R : Type} (P : Program) (o : Oper) (op : BinOp) (t : TypeId) (x y : Operand) (st : St) (K : X → St → Option R) : Option R :=
  match P.underlying t, opnd st x, opnd st y with
  | some d, some a, some b => match nilEq (isConst x || isConst y) d a b, op with
    | some r, .eql => fin o st K (.v (.bool r))
    | some r, .neq => fin o st K (.v (.bool !r))
    | _, _ => none
  | _, _, _ => none
def isIfaceT (P : Program) (t : TypeId) : Bool :=
  match P.underlying t with
  | some (.interface _) => true
  | some _ => false
  | none => true
def evAssert {R : Type} (P : Program) (o : Oper) (x : Operand) (asserted : TypeId) (commaOk : Bool) (st : St) (K : X → St → Option R) : Option R :=
  bif isIfaceT P asserted then none else (match opnd st x with
    | some (.iface t v) => bif Nat.beq t asserted then fin o st K (bif commaOk then .tuple [v, .v (.bool true)] else v) else none
    | _ => none)
def evDefer {R : Type} (o : Oper) (fo : Operand) (args : Array Operand) (st : St) (K : X → St → Option R) : Option R :=
  match opnd st fo, args.toList, o.dst with
  | some (.fn (.func g) [] caps), [], none => K .normal { st with df := .fn (.func g) [] caps :: st.df }
  | _, _, _ => none
def evMin {R : Type} (o : Oper) (x y : Operand) (st : St) (K : X → St → Option R) : Option R :=
  match opnd st x, opnd st y with
  | some (.v (.int k a)), some (.v (.int _ b)) => fin o st K (.v (.int k (bif decide (b < a) then b else a)))
  | _, _ => none
def evMax {R : Type} (o : Oper) (x y : Operand) (st : St) (K : X → St → Option R) : Option R :=
  match opnd st x, opnd st y with
  | some (.v (.int k a)), some (.v (.int _ b)) => fin o st K (.v (.int k (bif decide (a < b) then b else a)))
  | _, _ => none
section
variable {P : Program} {o : Oper} {R : Type} {st : St} {K : X → St → Option R} {r : R}
theorem evMin_fin {x y : Operand} {ats : Array TypeId} (ho : o.op = .call { callee := .builtin .min, args := #[x, y], argTypes := ats }) (h : evMin o x y st K = some r) :
    Fin P o st K r := by
  unfold evMin at h
  split at h
  · rename_i k a k' b hx hy
    refine fin_intro h (fun G ι ok a' w hs => ⟨_, ?_, .v _⟩)
    rw [exec_builtin ho, show (#[x, y].map a'.eval) = #[a'.eval x, a'.eval y] by simp]
    refine exec_v ?_
    rw [rep_v_inv (hs.opnd hx), rep_v_inv (hs.opnd hy)]
    show (Result.ok (Value.int k (if b < a then b else a)) w : Result Value) = _
    by_cases hlt : b < a <;> simp [hlt]
  · cases h
theorem evMin_ok {x y : Operand} {ats : Array TypeId} (ho : o.op = .call { callee := .builtin .min, args := #[x, y], argTypes := ats }) (h : evMin o x y st K = some r) :
    ∃ x st', RunsOp P o st x st' ∧ K x st' = some r := (evMin_fin ho h).ok
theorem evMax_fin {x y : Operand} {ats : Array TypeId} (ho : o.op = .call { callee := .builtin .max, args := #[x, y], argTypes := ats }) (h : evMax o x y st K = some r) :
    Fin P o st K r := by
  unfold evMax at h
  split at h
  · rename_i k a k' b hx hy
    refine fin_intro h (fun G ι ok a' w hs => ⟨_, ?_, .v _⟩)
    rw [exec_builtin ho, show (#[x, y].map a'.eval) = #[a'.eval x, a'.eval y] by simp]
    refine exec_v ?_
    rw [rep_v_inv (hs.opnd hx), rep_v_inv (hs.opnd hy)]
    show (Result.ok (Value.int k (if b > a then b else a)) w : Result Value) = _
    by_cases hlt : a < b <;> simp [hlt]
  · cases h
theorem evMax_ok {x y : Operand} {ats : Array TypeId} (ho : o.op = .call { callee := .builtin .max, args := #[x, y], argTypes := ats }) (h : evMax o x y st K = some r) :
    ∃ x st', RunsOp P o st x st' ∧ K x st' = some r := (evMax_fin ho h).ok
theorem evEqNil_fin {op : BinOp} {t t' : TypeId} {x y : Operand} (ho : o.op = .binOp op t x y t') (h : evEqNil P o op t x y st K = some r) :
    Fin P o st K r := by
  unfold evEqNil at h
  split at h
  · rename_i d a b hu hx hy
    -- what the comparison says
    have key : ∀ {r' : Bool}, nilEq (isConst x || isConst y) d a b = some r' → ∀ {G ι ok a'} {w : World}, SimI G ι ok st a' w →
        (eqGuard .eql t x y (a'.eval x) (a'.eval y)).run P w = .ok () w ∧ (eqGuard .neq t x y (a'.eval x) (a'.eval y)).run P w = .ok () w ∧
        (Op.equal t (a'.eval x) (a'.eval y)).run P w = .ok r' w ∧ (∀ op' : BinOp, (op' = .eql ∨ op' = .neq) → binOp op' t (a'.eval x) (a'.eval y) = (match op' with
          | .eql => (do pure (Value.bool (← Op.equal t (a'.eval x) (a'.eval y))))
          | _ => (do pure (Value.bool (!(← Op.equal t (a'.eval x) (a'.eval y))))))) := by
      intro r' hn G ι ok a' w hs
      have e1 := hs.opnd hx
      have e2 := hs.opnd hy
      generalize a'.eval x = v1 at e1
      generalize a'.eval y = v2 at e2
      unfold nilEq at hn
      split at hn
      · injection hn with hn; subst hn
        cases e1; cases e2
        refine ⟨guard_other (by simp) (by simp), guard_other (by simp) (by simp), ?_, by rintro _ (rfl | rfl) <;> rfl⟩
        unfold Op.equal Op.maxDepth Op.equalIn
        rw [run_ok (run_under hu)]; rfl
      · injection hn with hn; subst hn
        cases e1; cases e2
        refine ⟨guard_other (by simp) (by simp), guard_other (by simp) (by simp), ?_, by rintro _ (rfl | rfl) <;> rfl⟩
        unfold Op.equal Op.maxDepth Op.equalIn
        rw [run_ok (run_under hu)]; rfl
      · obtain ⟨hc, hn⟩ := cond_none hn
        injection hn with hn; subst hn
        cases e1; cases e2
        have hg : ∀ op' : BinOp, (eqGuard op' t x y .nilIface .nilIface).run P w = .ok () w := by
          intro op'
          unfold eqGuard
          rw [Bool.or_eq_true] at hc
          rcases hc with hc | hc
          · cases x <;> first | (cases hc; done) | (cases op' <;> rfl)
          · cases y <;> first | (cases hc; done) | (cases x <;> cases op' <;> rfl)
        refine ⟨hg _, hg _, ?_, by rintro _ (rfl | rfl) <;> rfl⟩
        unfold Op.equal Op.maxDepth Op.equalIn
        rw [run_ok (run_under hu)]; rfl
      · injection hn with hn; subst hn
        cases e1; cases e2
        refine ⟨guard_other (by simp) (by simp), guard_other (by simp) (by simp), ?_, by rintro _ (rfl | rfl) <;> rfl⟩
        unfold Op.equal Op.maxDepth Op.equalIn
        rw [run_ok (run_under hu)]; rfl
      · injection hn with hn; subst hn
        cases e1; cases e2
        refine ⟨guard_other (by simp) (by simp), guard_other (by simp) (by simp), ?_, by rintro _ (rfl | rfl) <;> rfl⟩
        unfold Op.equal Op.maxDepth Op.equalIn
        rw [run_ok (run_under hu)]; rfl
      · injection hn with hn; subst hn
        cases e1; cases e2
        refine ⟨guard_other (by simp) (by simp), guard_other (by simp) (by simp), ?_, by rintro _ (rfl | rfl) <;> rfl⟩
        unfold Op.equal Op.maxDepth Op.equalIn
        rw [run_ok (run_under hu)]; rfl
      · injection hn with hn; subst hn
        cases e1; cases e2
        refine ⟨guard_other (by simp) (by simp), guard_other (by simp) (by simp), ?_, by rintro _ (rfl | rfl) <;> rfl⟩
        unfold Op.equal Op.maxDepth Op.equalIn
        rw [run_ok (run_under hu)]; rfl
      · injection hn with hn; subst hn
        cases e1; cases e2
        refine ⟨guard_other (by simp) (by simp), guard_other (by simp) (by simp), ?_, by rintro _ (rfl | rfl) <;> rfl⟩
        unfold Op.equal Op.maxDepth Op.equalIn
        rw [run_ok (run_under hu)]; rfl
      · injection hn with hn; subst hn
        cases e1; cases e2
        refine ⟨guard_other (by simp) (by simp), guard_other (by simp) (by simp), ?_, by rintro _ (rfl | rfl) <;> rfl⟩
        unfold Op.equal Op.maxDepth Op.equalIn
        rw [run_ok (run_under hu)]; rfl
      · injection hn with hn; subst hn
        cases e1; cases e2
        refine ⟨guard_other (by simp) (by simp), guard_other (by simp) (by simp), ?_, by rintro _ (rfl | rfl) <;> rfl⟩
        unfold Op.equal Op.maxDepth Op.equalIn
        rw [run_ok (run_under hu)]; rfl
      · cases hn
    split at h
    · rename_i r' hn
      refine fin_intro h (fun G ι ok a' w hs => ⟨_, ?_, .v _⟩)
      obtain ⟨g1, g2, g3, g4⟩ := key hn hs
      refine exec_bin ho g1 ?_
      rw [g4 _ (.inl rfl)]
      show (do pure (Value.bool (← Op.equal t (a'.eval x) (a'.eval y))) : Sem Value).run P w = _
      rw [run_ok g3]; rfl
    · rename_i r' hn
      refine fin_intro h (fun G ι ok a' w hs => ⟨_, ?_, .v _⟩)
      obtain ⟨g1, g2, g3, g4⟩ := key hn hs
      refine exec_bin ho g2 ?_
      rw [g4 _ (.inr rfl)]
      show (do pure (Value.bool (!(← Op.equal t (a'.eval x) (a'.eval y)))) : Sem Value).run P w = _
      rw [run_ok g3]; rfl
    · cases h
  · cases h
theorem evEqNil_ok {op : BinOp} {t t' : TypeId} {x y : Operand} (ho : o.op = .binOp op t x y t') (h : evEqNil P o op t x y st K = some r) :
    ∃ x st', RunsOp P o st x st' ∧ K x st' = some r := (evEqNil_fin ho h).ok
theorem evAssert_ok {x : Operand} {xt t : TypeId} {c : Bool} (ho : o.op = .typeAssert x xt t c) (h : evAssert P o x t c st K = some r) : ∃ x st', RunsOp P o st x st' ∧ K x st' = some r := by
  unfold evAssert at h
  cases hi : isIfaceT P t <;> rw [hi] at h <;> simp only [cond_true, cond_false] at h
  · split at h
    · rename_i t' v hx
      obtain ⟨e, hh⟩ := cond_none h
      clear h
      have e := beq_eq e; subst e
      have hu : ∃ d, P.underlying t' = some d ∧ ∀ ms, d ≠ .interface ms := by
        cases hd : P.underlying t' with
        | none => unfold isIfaceT at hi; rw [hd] at hi; cases hi
        | some d =>
          refine ⟨d, rfl, fun ms e => ?_⟩
          subst e
          unfold isIfaceT at hi; rw [hd] at hi; cases hi
      obtain ⟨d, hd, hne⟩ := hu
      refine runs_fin hh (fun G ι ok a w hs => ?_)
      have hv := hs.opnd hx
      generalize hav : a.eval x = vv at hv
      cases hv with
      | iface hv' =>
        rename_i v'
        refine ⟨if c then .tuple #[v', .bool true] else v', ?_, ?_⟩
        · unfold execOp; rw [ho]
          refine exec_v ?_
          rw [hav]
          unfold Instr.typeAssert
          rw [run_ok (run_under hd)]
          cases d <;> first
            | exact absurd rfl (hne _)
            | (simp only [if_pos]; cases c <;> rfl)
        · cases c
          · exact hv'
          · refine .tuple rfl (fun i hi => ?_)
            match i, hi with
            | 0, _ => exact hv'
            | 1, _ => exact .v _
    · cases h
  · cases h
theorem evDefer_ok {c : Call} {fo : Operand} {args : Array Operand} (ho : o.op = .defer c) (hc : c.callee = .value fo) (ha : c.args = args) (h : evDefer o fo args st K = some r) : ∃ x st', RunsOp P o st x st' ∧ K x st' = some r := by
  unfold evDefer at h
  split at h
  · rename_i g caps hf hargs hdst
    refine ⟨.normal, _, ?_, h⟩
    rintro G a w next Q ⟨ι, ok, hs⟩ hk
    have hv := hs.opnd hf
    obtain ⟨callee, args', ats⟩ := c
    simp only at hc ha; subst hc; subst ha
    have he : args' = #[] := by apply Array.ext'; simpa using hargs
    subst he
    generalize hav : a.eval fo = vv at hv
    cases hv with
    | fn g1 g2 g3 g4 =>
      rename_i first' caps'
      have hf0 : first' = #[] := Array.eq_empty_of_size_eq_zero g1
      subst hf0
      unfold Oper.wp
      have hrun : (execOp a.eval o).run P w = .ok (.defer { target := .fn (.func g) caps', args := #[] }) w := by
        unfold execOp; rw [ho]
        show (do pure (Next.defer (← resolve a.eval { callee := .value fo, args := #[], argTypes := ats } o.type)) : Sem Next).run P w = _
        have hres : (resolve a.eval { callee := .value fo, args := #[], argTypes := ats } o.type).run P w = .ok { target := .fn (.func g) caps', args := #[] } w := by
          unfold resolve
          simp only [hav, List.map_toArray, List.map_nil]; rfl
        rw [run_ok hres]; rfl
      rw [hrun]
      show next (({ a with defers := { target := .fn (.func g) caps', args := #[] } :: a.defers } : Act).put o.dst undef) w
      rw [hdst]
      refine hk .normal _ _ ⟨rfl, ι, ok, ?_⟩
      exact { hs with
        dfn := by show (a.defers.length + 1) = (st.df.length + 1); rw [hs.dfn]
        dfs := by
          intro i x d hx hd
          have hd : (({ target := .fn (.func g) caps', args := #[] } : Deferred) :: a.defers)[i]? = some d := hd
          cases i with
          | zero =>
            simp only [List.getElem?_cons_zero, Option.some.injEq] at hx hd
            subst hx; subst hd
            exact ⟨.func (.func g) #[] caps', (), .fn rfl g2 (fun i hi => by simp at hi) g4, rfl⟩
          | succ i =>
            simp only [List.getElem?_cons_succ] at hx hd
            exact hs.dfs i x d hx hd }
  · cases h
end
end Go.Ev

namespace Go.Ev
set_option linter.unusedSimpArgs false
set_option linter.unusedVariables false
/-! ### copy -/
def overLst (l : Lst) (off : Nat) (lx : Lst) : Option Lst := match catLst (l.take off) lx with
  | some m => catLst m (l.drop (off + lx.length))
  | none => none
def dstOf (st : St) : AV → Option (Key × Lst × Nat × Nat)
  | .own k => match look st.ar k with
    | some (.row true l) => some (k, l, 0, l.length)
    | _ => none
  | .sl k sz off len => match look st.ar k with
    | some (.row true l) => some (k, l, off, len)
    | _ => none
  | _ => none
def dstG (l : Lst) : AV → Bool
  | .sl _ sz off len => Nat.beq sz l.sz && Nat.ble (off + len) l.length
  | _ => true
def evCopy {R : Type} (P : Program) (o : Oper) (t : TypeId) (x y : Operand) (st : St) (K : X → St → Option R) : Option R :=
  match P.underlying t, opnd st x, opnd st y with
  | some (.slice e), some xv, some yv => match P.info? e, dstOf st xv, sliceLst st yv with
    | some i, some (k, l, off, len), some lx => match overLst l off (lx.take (min lx.length len)) with
      | some l' => bif dstG l xv && (Nat.beq i.size l.sz && (Nat.blt 0 i.size && (flatLst lx && Nat.beq lx.sz l.sz))) then fin o { st with ar := (k, .row true l') :: st.ar } K (.v (.int .i64 (min lx.length len : Nat))) else none
      | none => none
    | _, _, _ => none
  | _, _, _ => none
section
variable {P : Program} {o : Oper} {R : Type} {st : St} {K : X → St → Option R} {r : R}
theorem flat_take {l : Lst} (n : Nat) (h : flatLst l = true) : flatLst (l.take n) = true := by cases l <;> first | rfl | exact h
theorem overLst_ok {w : World} {ok : Nat → Prop} {B : Nat} {l lx l' : Lst} {off : Nat} (h : overLst l off lx = some l') (hle : off + lx.length ≤ l.length) :
    l'.sz = l.sz ∧ l'.length = l.length ∧ (∀ i, i < l.length → ¬ (off ≤ i ∧ i < off + lx.length) → (l'.elem i).cells.length = (l.elem i).cells.length ∧ ∀ j v, Rep w ok B (fun _ => none) ((l.elem i).cell j) v → Rep w ok B (fun _ => none) ((l'.elem i).cell j) v) ∧
      (∀ i, i < lx.length → (l'.elem (off + i)).cells.length = (lx.elem i).cells.length ∧ ∀ j v, Rep w ok B (fun _ => none) ((lx.elem i).cell j) v → Rep w ok B (fun _ => none) ((l'.elem (off + i)).cell j) v) := by
  unfold overLst at h
  split at h
  · rename_i m hm
    obtain ⟨a1, a2, a3, a4, a5, a6⟩ := catLst_ok (w := w) (ok := ok) (B := B) hm
    obtain ⟨b1, b2, b3, b4, b5, b6⟩ := catLst_ok (w := w) (ok := ok) (B := B) h
    rw [Lst.length_take] at a3 a5
    rw [Lst.length_take] at a4
    have e1 : min off l.length = off := Nat.min_eq_left (by omega)
    rw [e1] at a3 a4 a5
    rw [Lst.length_drop] at b3 b5
    refine ⟨by rw [b1, a1, Lst.sz_take], by rw [b3, a3]; omega, fun i hi hn => ?_, fun i hi => ?_⟩
    · by_cases c : i < off
      · rw [b4 i (by omega), a4 i c, Lst.elem_take _ _ _ c]
        exact ⟨rfl, fun _ _ h => h⟩
      · have hge : off + lx.length ≤ i := by omega
        have := b5 (i - (off + lx.length)) (by omega)
        rw [a3, show off + lx.length + (i - (off + lx.length)) = i by omega, Lst.elem_drop, show off + lx.length + (i - (off + lx.length)) = i by omega] at this
        exact this
    · rw [b4 (off + i) (by omega)]
      exact a5 i hi
  · cases h
theorem rowTy_over {l lx l' : Lst} {off : Nat} {t : TypeId} (h : overLst l off lx = some l') (hr : rowTy l t) : rowTy l' t := by
  unfold overLst at h
  split at h
  · rename_i m hm
    exact rowTy_cat h (rowTy_cat hm (rowTy_take hr))
  · cases h
theorem dstOf_ok {G : Base} {ι : Loci} {ok : Nat → Prop} {a : Act} {w : World} (hs : SimI G ι ok st a w) {sv : AV} {v : Value} (hv : Rep w ok G.B ι sv v) {k : Key} {l : Lst} {off len : Nat} (h : dstOf st sv = some (k, l, off, len)) (hg : dstG l sv = true) :
    ∃ p c L, v = .slice p len c ∧ off + len ≤ l.length ∧ look st.ar k = some (.row true l) ∧ ι k = some L ∧ L.n = l.length ∧ L.n ≤ L.cp ∧ (0 < len → p = some ⟨L.b, L.o + off * l.sz, none⟩ ∧ 0 < L.cp) := by
  cases sv with
  | own k' =>
    simp only [dstOf] at h
    split at h
    · rename_i l₁ hk
      injection h with h; injection h with e1 e2; injection e2 with e2 e3; injection e3 with e3 e4
      subst e1; subst e2; subst e3; subst e4
      obtain ⟨L, h1, h2, h3, h4⟩ := hs.objs _ _ hk
      cases hv with
      | own g g1 =>
        rw [h1] at g; injection g with g; subst g
        exact ⟨_, _, L, by rw [h2], by omega, hk, h1, h2, h3, fun _ => ⟨by simp, g1⟩⟩
      | own0 g g1 g2 =>
        rw [h1] at g; injection g with g; subst g
        exact ⟨_, 0, L, by rw [← h2, g2], by omega, hk, h1, h2, h3, fun hl => by omega⟩
    · cases h
  | sl k' sz off' len' =>
    simp only [dstOf] at h
    split at h
    · rename_i l₁ hk
      injection h with hh; injection hh with e1 e2; injection e2 with e2 e3; injection e3 with e3 e4
      subst e1; subst e2; subst e3; subst e4
      have e := hg
      simp only [dstG] at e
      rw [Bool.and_eq_true] at e
      have es := beq_eq e.1; subst es
      have hle : off' + len' ≤ l₁.length := Nat.le_of_ble_eq_true e.2
      obtain ⟨L, h1, h2, h3, h4⟩ := hs.objs _ _ hk
      cases hv with
      | sl g g1 g2 g3 g4 =>
        rw [h1] at g; injection g with g; subst g
        exact ⟨_, _, L, rfl, hle, hk, h1, h2, h3, fun _ => ⟨rfl, by omega⟩⟩
      | sl0 g g1 g2 =>
        rw [h1] at g; injection g with g; subst g
        exact ⟨_, 0, L, rfl, hle, hk, h1, h2, h3, fun hl => by omega⟩
    · cases h
  | _ => cases h
theorem evCopy_ok {t t2 : TypeId} {x y : Operand} (ho : o.op = .call { callee := .builtin .copy, args := #[x, y], argTypes := #[t, t2] }) (h : evCopy P o t x y st K = some r) :
    ∃ x st', RunsOp P o st x st' ∧ K x st' = some r := by
  unfold evCopy at h
  split at h
  · rename_i e xv yv hu hx hy
    split at h
    · rename_i i k l off len lx hi hd hsl
      split at h
      · rename_i l' hl'
        obtain ⟨hc, h⟩ := cond_none h
        obtain ⟨hg, hc⟩ := Bool.and_eq_true _ _ ▸ hc
        simp only [Bool.and_eq_true] at hc
        have c1 : i.size = l.sz := beq_eq hc.1
        have c2 : 0 < i.size := by have := hc.2.1; simpa [Nat.blt_eq] using this
        have c4 : lx.sz = l.sz := beq_eq hc.2.2.2
        refine runs_new h (fun G ι ok a w hs => ?_)
        obtain ⟨p, c, L, d1, d2, d3, d4, d5, d6, d7⟩ := dstOf_ok hs (hs.opnd hx) hd hg
        obtain ⟨p2, cc, s1, s2, s3⟩ := sliceLst_ok hs (hs.opnd hy) hsl
        generalize hn : min lx.length len = n at *
        have hnl : (lx.take n).length = n := by rw [Lst.length_take]; omega
        obtain ⟨o1, o2, o3, o4⟩ := overLst_ok (w := w) (ok := ok) (B := G.B) hl' (by rw [hnl]; omega)
        rw [hnl] at o3 o4
        have run : ∀ (v : Value) (w' : World), (Builtin.copy_ #[t, t2] o.type #[a.eval x, a.eval y]).run P w = .ok v w' → (execOp a.eval o).run P w = .ok (.value v) w' := by
          intro v w' hr
          rw [exec_builtin ho, show (#[x, y].map a.eval) = #[a.eval x, a.eval y] by simp]
          exact exec_v hr
        have hmin : Nat.min lx.length len = n := hn
        by_cases h0 : n = 0
        · -- nothing is copied
          subst h0
          have hw : ∀ ad : Option Addr, (Builtin.firstCells i.size 0 (.slice ad lx.length cc)).run P w = .ok #[] w := by
            intro ad
            cases ad with
            | none => exact run_firstCells_none w i.size 0 lx.length cc
            | some ad => exact run_firstCells_some w i.size 0 ad lx.length cc [] (by simp) (fun j u hj => by simp at hj)
          have hst : ∀ ad : Addr, (storeCells ad []).run P w = .ok () w := fun ad => rfl
          obtain ⟨L', h1, h2, h3, h4⟩ := hs.objs _ _ d3
          rw [d4] at h1; injection h1 with h1; subst h1
          have hN : SimI G ι ok { st with ar := (k, .row true l') :: st.ar } a w := by
            by_cases hcp : 0 < L.cp
            · refine hs.write (o' := .row true l') d3 rfl d4 hcp rfl rfl rfl rfl (fun _ _ => rfl) ⟨L, d4, by rw [o2]; exact d5, d6, fun _ => ?_⟩
              obtain ⟨vs, ty, fr, a1, a2, a3, a4, val, r1, r2, r3⟩ := h4 hcp
              refine ⟨vs, ty, fr, a1, fun ho => ⟨(a2 ho).1, rowTy_over hl' (a2 ho).2⟩, (fun h => by cases h), by rw [o1]; exact a4, val, fun i' j' hi' hj' => by rw [o1]; exact r1 i' j' (by rw [← o2]; exact hi') (by rw [← o1]; exact hj'),
                fun i' j' hi' hj' => ((o3 i' (by rw [← o2]; exact hi') (by omega)).2 j' _ (r2 i' j' (by rw [← o2]; exact hi') (by rw [← o1]; exact hj'))), fun i' hi' => by rw [(o3 i' (by rw [← o2]; exact hi') (by omega)).1, o1]; exact r3 i' (by rw [← o2]; exact hi')⟩
            · have hk0 : L.cp = 0 := by omega
              exact { hs with
                objs := fun k' o' hk' => by
                  rw [look_cons] at hk'
                  split at hk'
                  · rename_i e; subst e; injection hk' with hk'; subst hk'
                    exact ⟨L, d4, by rw [o2]; exact d5, d6, fun hc => by omega⟩
                  · exact hs.objs k' o' hk'
                inj := by
                  intro k₁ k₂ o₁ o₂ L₁ L₂ hk₁ hk₂ ho₁ ho₂ hl₁ hl₂ hc₁ hc₂ hb
                  rw [look_cons] at hk₁ hk₂
                  by_cases e₁ : k = k₁
                  · subst e₁; rw [d4] at hl₁; injection hl₁ with hl₁; subst hl₁; omega
                  · by_cases e₂ : k = k₂
                    · subst e₂; rw [d4] at hl₂; injection hl₂ with hl₂; subst hl₂; omega
                    · rw [if_neg e₁] at hk₁
                      rw [if_neg e₂] at hk₂
                      exact hs.inj k₁ k₂ o₁ o₂ L₁ L₂ hk₁ hk₂ ho₁ ho₂ hl₁ hl₂ hc₁ hc₂ hb
                apart := by
                  intro k' o' L' hk' hown hl hc
                  rw [look_cons] at hk'
                  by_cases e : k = k'
                  · subst e; rw [d4] at hl; injection hl with hl; subst hl; omega
                  · rw [if_neg e] at hk'
                    exact hs.apart k' o' L' hk' hown hl hc }
          refine ⟨_, w, ι, run _ _ ?_, hN, .v _⟩
          rw [d1, s1]
          cases p <;> simp [Builtin.copy_, run_underlying hu, Builtin.lenOf, hmin, sizeOf, typeInfo, hi, hw, hst, goInt]
        · have hlen : 0 < len := by omega
          have hlx : 0 < lx.length := by omega
          obtain ⟨d8, hcp⟩ := d7 hlen
          obtain ⟨b, ob, rfl, hrow⟩ := s3 hlx
          subst d8
          obtain ⟨L', h1, h2, h3, h4⟩ := hs.objs _ _ d3
          rw [d4] at h1; injection h1 with h1; subst h1
          obtain ⟨vs, ty, fr, a1, a2, a3, a4, val, r1, r2, r3⟩ := h4 hcp
          obtain ⟨f, g1, g2⟩ := row_cells hrow (by rw [c4, ← c1]; exact c2)
          obtain ⟨valx, _, _, g3⟩ := hrow
          rw [c4, ← c1] at g1 g2 g3
          rw [← c1] at a4 r1 r2 r3
          have hap := hs.apart k _ L d3 rfl d4 hcp
          let news : List Value := (List.range (n * i.size)).map f
          have hnews : news.length = n * i.size := by simp [news]
          have hget : ∀ q, q < n * i.size → news.getD q undef = f q := by
            intro q hq; simp [news, List.getD_eq_getElem?_getD, List.getElem?_range hq]
          have hsub : ∀ q, q < n * i.size → q < lx.length * i.size := by
            intro q hq
            have : n * i.size ≤ lx.length * i.size := Nat.mul_le_mul_right _ (by omega)
            omega
          have hfc : (Builtin.firstCells i.size n (.slice (some ⟨b, ob, none⟩) lx.length cc)).run P w = .ok news.toArray w := by
            refine run_firstCells_some w i.size n _ lx.length cc news hnews (fun j u hj => ?_)
            have hlt : j < n * i.size := by
              rcases Nat.lt_or_ge j (n * i.size) with h | h
              · exact h
              · rw [List.getElem?_eq_none (by rw [hnews]; exact h)] at hj; cases hj
            simp only [news, List.getElem?_map, List.getElem?_range hlt, Option.map_some, Option.some.injEq] at hj
            subst hj
            rw [addr_add]; exact g1 j (hsub j hlt)
          have hone : ∀ u ∈ news, u.oneCell' = true := by
            intro u hu'
            obtain ⟨q, hq, rfl⟩ := List.mem_map.1 hu'
            have hq : q < n * i.size := List.mem_range.1 hq
            have q1 : q / i.size < lx.length := Nat.div_lt_of_lt_mul (by rw [Nat.mul_comm]; exact hsub q hq)
            have := g2 (q / i.size) (q % i.size) q1 (Nat.mod_lt _ c2)
            rw [show q / i.size * i.size + q % i.size = q by rw [Nat.mul_comm]; exact Nat.div_add_mod q i.size] at this
            exact rep_leafOk this (flat_elem hc.2.2.1 _ (by rw [g3 _ q1]; exact Nat.mod_lt _ c2))
          have hcap : L.o + off * i.size + n * i.size ≤ vs.size := by
            have : (off + n) * i.size ≤ L.cp * i.size := Nat.mul_le_mul_right _ (by omega)
            rw [Nat.add_mul] at this; omega
          have hrun := run_storeCells_cells (P := P) L.b (L.o + off * l.sz) news 0 w (fun q hq => by
            rw [hnews] at hq
            rw [← c1, Nat.add_zero]
            unfold World.cell?
            simp only [a1]
            have : L.o + off * i.size + q < vs.size := by omega
            simp [this]) (fun q hq => by
            rw [hnews] at hq
            rw [← c1, Nat.add_zero]
            exact frozen_free a1 (a2 rfl).1 (by omega)) hone
          rw [Nat.add_zero, ← c1] at hrun
          obtain ⟨c', k1, k2, k3⟩ := setCells_block L.b news (L.o + off * i.size) w vs ty fr a1
          obtain ⟨w1, w2, w3, w4, w5⟩ := setCells_other L.b news (L.o + off * i.size) w
          have hmem : ∀ b, ok b → (w.setCells L.b (L.o + off * i.size) news).heap[b]? = w.heap[b]? := fun b hb => w5 b (fun e => hap.1 (e ▸ hb))
          have hpos : ∀ i' j', i' < l.length → j' < i.size → L.o + (i' * i.size + j') < vs.size := by
            intro i' j' hi' hj'
            have : (i' + 1) * i.size ≤ L.cp * i.size := Nat.mul_le_mul_right _ (by omega)
            rw [Nat.add_mul, Nat.one_mul] at this; omega
          have hN := hs.write (o' := .row true l') d3 rfl d4 hcp w1 w2 w3 w4 w5
            ⟨L, d4, by rw [o2]; exact d5, d6, fun _ => ⟨c', ty, fr, k1, fun _ => ⟨by rw [k2]; exact (a2 rfl).1, rowTy_over hl' (a2 rfl).2⟩, (fun h => by cases h), by rw [k2, o1, ← c1]; exact a4,
              fun i' j' => if off ≤ i' ∧ i' < off + n then f ((i' - off) * i.size + j') else val i' j', fun i' j' hi' hj' => by
                rw [o2] at hi'
                rw [o1, ← c1] at hj' ⊢
                have hlt := hpos i' j' hi' hj'
                show _ = some (if off ≤ i' ∧ i' < off + n then f ((i' - off) * i.size + j') else val i' j')
                have hold := r1 i' j' hi' hj'
                unfold World.cell? at hold ⊢
                simp only [a1] at hold
                simp only [k1]
                simp only [Option.isSome_none, Bool.false_eq_true, if_false] at hold ⊢
                rw [k3 _ hlt, hnews]
                by_cases hin : off ≤ i' ∧ i' < off + n
                · rw [if_pos hin]
                  have e1 : (i' - off) * i.size = i' * i.size - off * i.size := Nat.sub_mul _ _ _
                  have e2 : off * i.size ≤ i' * i.size := Nat.mul_le_mul_right _ hin.1
                  have e3 : (i' - off + 1) * i.size ≤ n * i.size := Nat.mul_le_mul_right _ (by omega)
                  rw [Nat.add_mul, Nat.one_mul] at e3
                  rw [if_pos ⟨by omega, by omega⟩]
                  rw [show L.o + (i' * i.size + j') - (L.o + off * i.size) = (i' - off) * i.size + j' by omega]
                  have e4 : (i' - off) * i.size + j' < n * i.size := by omega
                  simp only [news, List.getElem?_map, List.getElem?_range e4, Option.map_some]
                · rw [if_neg hin]
                  rw [if_neg]
                  · exact hold
                  · intro hcn
                    refine hin ?_
                    rcases Nat.lt_or_ge i' off with g | g
                    · have : (i' + 1) * i.size ≤ off * i.size := Nat.mul_le_mul_right _ g
                      rw [Nat.add_mul, Nat.one_mul] at this; omega
                    · refine ⟨g, ?_⟩
                      rcases Nat.lt_or_ge i' (off + n) with g' | g'
                      · exact g'
                      · have : (off + n) * i.size ≤ i' * i.size := Nat.mul_le_mul_right _ g'
                        rw [Nat.add_mul] at this; omega,
              fun i' j' hi' hj' => by
                rw [o2] at hi'
                rw [o1, ← c1] at hj'
                show Rep _ _ _ _ _ (if off ≤ i' ∧ i' < off + n then f ((i' - off) * i.size + j') else val i' j')
                by_cases hin : off ≤ i' ∧ i' < off + n
                · rw [if_pos hin]
                  have hb2 : i' - off < n := by omega
                  have h7 := g2 (i' - off) j' (by omega) hj'
                  rw [← Lst.elem_take lx n (i' - off) hb2] at h7
                  have h8 := (o4 (i' - off) hb2).2 j' _ h7
                  rw [show off + (i' - off) = i' by omega] at h8
                  exact h8.mono hmem (fun _ h => h) (fun _ _ h => h)
                · rw [if_neg hin]
                  exact ((o3 i' hi' hin).2 j' _ (r2 i' j' hi' hj')).mono hmem (fun _ h => h) (fun _ _ h => h),
              fun i' hi' => by
                rw [o2] at hi'
                by_cases hin : off ≤ i' ∧ i' < off + n
                · have hb2 : i' - off < n := by omega
                  have h8 := (o4 (i' - off) hb2).1
                  rw [show off + (i' - off) = i' by omega, Lst.elem_take lx n (i' - off) hb2, g3 _ (by omega)] at h8
                  rw [h8, o1, c1]
                · rw [(o3 i' hi' hin).1, r3 i' hi', o1, c1]⟩⟩
          refine ⟨_, _, ι, run _ _ ?_, hN, .v _⟩
          rw [d1, s1, ← c1]
          simp [Builtin.copy_, run_underlying hu, Builtin.lenOf, hmin, sizeOf, typeInfo, hi, hfc, hrun, goInt]
      · cases h
    · cases h
  · cases h
end
end Go.Ev

namespace Go.Ev
set_option linter.unusedSimpArgs false
set_option linter.unusedVariables false
/-! ### functions without a body: bytes looked for, bytes counted -/
inductive ExtK where
  | index | count
def ixS (s : ByteArray) (c : Int) : Int := Lib.indexByte s.data.toList c.toNat.toUInt8
def cnS (s : ByteArray) (c : Int) : Int := ((Lib.countByte s.data.toList c.toNat.toUInt8 : Nat) : Int)
def extK (P : Program) (f : FuncId) : Option ExtK :=
  match P.funcs[f]? with
  | some fnc => bif fnc.body.isNone && (fnc.origin == "" || fnc.origin == fnc.name) then
      (bif fnc.name == "internal/bytealg.IndexByte" || fnc.name == "internal/bytealg.IndexByteString" then some .index
       else bif fnc.name == "internal/bytealg.Count" || fnc.name == "internal/bytealg.CountString" then some .count else none)
    else none
  | none => none
def byteStr (st : St) : AV → Option ByteArray
  | .v (.string s) => some s
  | .nils => some ByteArray.empty
  | y => match sliceLst st y with
    | some (.I .u8 l) => some (strOf l)
    | _ => none
def evExt {R : Type} (e : ExtK) (o : Oper) (args : Array Operand) (st : St) (K : X → St → Option R) : Option R :=
  match opnds st args.toList with
  | some [x, .v (.int .u8 c)] => match byteStr st x with
    | some s => match e with
      | .index => fin o st K (.v (.int .i64 (ixS s c)))
      | .count => fin o st K (.v (.int .i64 (cnS s c)))
    | none => none
  | _ => none
def extFn : ExtK → Array Value → Sem Value
  | .index => Extern.BytealgIndexByte.indexByte
  | .count => Extern.BytealgCount.count
theorem look_next (s : String) (h : Extern.allNextRows.lookup s = none) (h' : Extern.allNextRows.lookup "" = none) {fnc : Func} (hn : fnc.name = s) (ho : fnc.origin = "" ∨ fnc.origin = fnc.name) : Extern.findNext fnc = none := by
  unfold Extern.findNext
  rcases ho with ho | ho <;> rw [ho, hn] <;> simp [h, h']
theorem look_find (s : String) {e : Array Value → Sem Value} (h1 : Extern.allGenericRows.lookup s = none) (h2 : Extern.allTypedRows.lookup s = none) (h3 : Extern.allRows.lookup s = some e) {fnc : Func} (hn : fnc.name = s) : Extern.find fnc = some e := by
  unfold Extern.find
  rw [hn]
  simp [h1, h2, h3]
theorem next_empty : Extern.allNextRows.lookup "" = none := by kernel_rfl
theorem extK_ok {P : Program} {f : FuncId} {e : ExtK} (h : extK P f = some e) : ∀ (args : Array Value) (w : World), (callFunc f args).run P w = ((extFn e args).run P w).andThen fun v w' => .ok (.value v) w' := by
  unfold extK at h
  split at h
  · rename_i fnc hf
    obtain ⟨hb, h⟩ := cond_none h
    rw [Bool.and_eq_true, Bool.or_eq_true, beq_iff_eq, beq_iff_eq] at hb
    have mk : ∀ (s : String) (e' : Array Value → Sem Value), fnc.name = s → (s == "runtime.NumGoroutine") = false → Extern.allNextRows.lookup s = none → Extern.allGenericRows.lookup s = none → Extern.allTypedRows.lookup s = none → Extern.allRows.lookup s = some e' →
        ∀ (args : Array Value) (w : World), (callFunc f args).run P w = ((e' args).run P w).andThen fun v w' => .ok (.value v) w' := by
      intro s e' hn h0 h1 h2 h3 h4 args w
      exact run_callFunc_extern hf (by rw [hn]; exact h0) hb.1 (look_next s h1 next_empty hn hb.2) (look_find s h2 h3 h4 hn) args w
    cases c1 : (fnc.name == "internal/bytealg.IndexByte" || fnc.name == "internal/bytealg.IndexByteString") <;> rw [c1] at h <;> simp only [cond_true, cond_false] at h
    · cases c2 : (fnc.name == "internal/bytealg.Count" || fnc.name == "internal/bytealg.CountString") <;> rw [c2] at h <;> simp only [cond_true, cond_false] at h
      · cases h
      · injection h with h; subst h
        rw [Bool.or_eq_true, beq_iff_eq, beq_iff_eq] at c2
        rcases c2 with c2 | c2
        · exact mk _ _ c2 (by kernel_rfl) (by kernel_rfl) (by kernel_rfl) (by kernel_rfl) (by kernel_rfl)
        · exact mk _ _ c2 (by kernel_rfl) (by kernel_rfl) (by kernel_rfl) (by kernel_rfl) (by kernel_rfl)
    · injection h with h; subst h
      rw [Bool.or_eq_true, beq_iff_eq, beq_iff_eq] at c1
      rcases c1 with c1 | c1
      · exact mk _ _ c1 (by kernel_rfl) (by kernel_rfl) (by kernel_rfl) (by kernel_rfl) (by kernel_rfl)
      · exact mk _ _ c1 (by kernel_rfl) (by kernel_rfl) (by kernel_rfl) (by kernel_rfl) (by kernel_rfl)
  · cases h
section
variable {R : Type} {P : Program} {o : Oper} {st : St} {K : X → St → Option R} {r : R}
/-- the bytes of an argument -/
theorem byteStr_ok {G : Base} {ι : Loci} {ok : Nat → Prop} {a : Act} {w : World} (hs : SimI G ι ok st a w) {x : AV} {v : Value} (hx : Rep w ok G.B ι x v) {s : ByteArray} (h : byteStr st x = some s) : (Extern.Bytes.bytesOf v).run P w = .ok s w := by
  unfold byteStr at h
  split at h
  · injection h with h; subst h
    rw [rep_v_inv hx]; rfl
  · injection h with h; subst h
    cases hx; rfl
  · split at h
    · rename_i l hl
      injection h with h; subst h
      obtain ⟨p, c, e1, _, e2⟩ := sliceLst_ok hs hx hl
      subst e1
      by_cases h0 : 0 < l.length
      · obtain ⟨b, ob, rfl, hr⟩ := e2 h0
        obtain ⟨f, g1, g2⟩ := row_cells hr (by simp [Lst.sz])
        have := Lib.run_loadBytesX (P := P) w l ⟨b, ob, none⟩ .empty (fun j x hj => by
          have hjl : j < l.length := (List.getElem?_eq_some_iff.1 hj).1
          have h1 := g1 j (by simp [Lst.length, Lst.sz]; exact hjl)
          have h2 := g2 j 0 hjl (by simp [Lst.sz])
          simp only [Lst.sz, Nat.mul_one, Nat.add_zero] at h2
          have h3 : Rep w ok G.B (fun _ => none) (.v (.int .u8 (l.getD j 0))) (f j) := h2
          rw [addr_add, h1, rep_v_inv h3, List.getD_eq_getElem?_getD, hj]; rfl)
        show (Extern.Bytes.loadBytes ⟨b, ob, none⟩ l.length .empty).run P w = _
        rw [this]
        congr 1
        apply ByteArray.ext
        show (#[] : Array UInt8) ++ (Lib.bytesOf l).toArray = (l.map fun n => UInt8.ofNat n.toNat).toArray
        simp [Lib.bytesOf]
      · have hl0 : l = [] := List.length_eq_zero_iff.1 (by omega)
        subst hl0
        cases p with
        | none => rfl
        | some p => rfl
    · cases h
def extV (e : ExtK) (s : ByteArray) (c : Int) : Int := match e with | .index => ixS s c | .count => cnS s c
theorem ext_run {e : ExtK} {v : Value} {c : Int} {s : ByteArray} {w : World} (h : (Extern.Bytes.bytesOf v).run P w = .ok s w) :
    (extFn e #[v, .int .u8 c]).run P w = .ok (.int .i64 (extV e s c)) w := by
  cases e with
  | index =>
    have hs := Lib.run_indexByteString (P := P) s c w
    change Sem.run P (do
      let b ← Extern.Bytes.bytesOf (.string s)
      let c ← Extern.Bytes.asByte (.int .u8 c)
      match (List.range b.size).find? fun i => b[i]! == c with
      | some i => pure (goInt i)
      | none => pure (goInt (-1))) w = _ at hs
    change Sem.run P (do
      let b ← Extern.Bytes.bytesOf v
      let c ← Extern.Bytes.asByte (.int .u8 c)
      match (List.range b.size).find? fun i => b[i]! == c with
      | some i => pure (goInt i)
      | none => pure (goInt (-1))) w = _
    rw [run_ok h]
    have h' : (Extern.Bytes.bytesOf (.string s)).run P w = .ok s w := rfl
    rw [run_ok h'] at hs
    exact hs
  | count =>
    have hs := Lib.run_countString (P := P) s c w
    change Sem.run P (do
      let b ← Extern.Bytes.bytesOf (.string s)
      let c' ← Extern.Bytes.asByte (.int .u8 c)
      pure (goInt (b.foldl (fun n x => if x == c' then n + 1 else n) (0 : Nat)))) w = _ at hs
    change Sem.run P (do
      let b ← Extern.Bytes.bytesOf v
      let c' ← Extern.Bytes.asByte (.int .u8 c)
      pure (goInt (b.foldl (fun n x => if x == c' then n + 1 else n) (0 : Nat)))) w = _
    rw [run_ok h]
    have h' : (Extern.Bytes.bytesOf (.string s)).run P w = .ok s w := rfl
    rw [run_ok h'] at hs
    exact hs
/-- a call of a function: one without a body does what its entry says -/
def evCallX (P : Program) (O : FuncId → Option (CallF R)) (o : Oper) (fo : Operand) (args : Array Operand) (st : St) (K : X → St → Option R) : Option R :=
  match opnd st fo with
  | some (.fn (.func f) [] []) => match extK P f with
    | some e => evExt e o args st K
    | none => evCall O o fo args st K
  | _ => evCall O o fo args st K
theorem evCallX_ok {O : FuncId → Option (CallF R)} (hO : OOK P O) {fo : Operand} {args : Array Operand} {ats : Array TypeId}
    (ho : o.op = .call { callee := .value fo, args := args, argTypes := ats }) (h : evCallX P O o fo args st K = some r) : ∃ x st', RunsOp P o st x st' ∧ K x st' = some r := by
  unfold evCallX at h
  split at h
  · rename_i f hfo
    split at h
    · rename_i e he
      unfold evExt at h
      split at h
      · rename_i x c hxs
        have ee := extK_ok he
        split at h
        · rename_i s hbs
          have main : ∀ G ι ok a w, SimI G ι ok st a w → (execOp a.eval o).run P w = .ok (.value (.int .i64 (extV e s c))) w := by
            intro G ι ok a w hs
            have hf := hs.opnd hfo
            have hfv : a.eval fo = .func (.func f) #[] #[] := by
              generalize a.eval fo = v at hf
              cases hf with
              | fn h1 h2 _ _ =>
                rename_i first' caps' _ _
                have e1 : first' = #[] := Array.eq_empty_of_size_eq_zero (by simpa using h1)
                have e2 : caps' = #[] := Array.eq_empty_of_size_eq_zero (by simpa using h2)
                rw [e1, e2]
            obtain ⟨g1, g2⟩ := opnds_ok hs _ _ hxs
            have hal : args.toList.length = 2 := by simpa using g1.symm
            obtain ⟨y1, y2, hay⟩ : ∃ y1 y2, args = #[y1, y2] := by
              have : ∃ y1 y2, args.toList = [y1, y2] := by
                match args.toList, hal with
                | [y1, y2], _ => exact ⟨_, _, rfl⟩
              obtain ⟨y1, y2, h⟩ := this
              exact ⟨y1, y2, by apply Array.ext'; simpa using h⟩
            subst hay
            have q1 : Rep w ok G.B ι x (a.eval y1) := g2 0 (by simp)
            have q2 : Rep w ok G.B ι (.v (.int .u8 c)) (a.eval y2) := g2 1 (by simp)
            have q2 := rep_v_inv q2
            unfold execOp
            rw [ho]
            show (do let d ← resolve a.eval { callee := .value fo, args := #[y1, y2], argTypes := ats } o.type; invoke d.target d.args : Sem Next).run P w = _
            have hres : (resolve a.eval { callee := .value fo, args := #[y1, y2], argTypes := ats } o.type).run P w = .ok { target := .fn (.func f) #[], args := #[a.eval y1, a.eval y2] } w := by
              unfold resolve
              simp only [hfv]
              show Sem.run P (pure _) w = _
              have hm : Array.map a.eval #[y1, y2] = #[a.eval y1, a.eval y2] := by simp
              simp only [Deferred.ofValue, Array.empty_append, hm]
              rfl
            rw [run_ok hres]
            show (callFunc f #[a.eval y1, a.eval y2]).run P w = _
            rw [ee, q2, ext_run (byteStr_ok hs q1 hbs)]
            rfl
          cases e with
          | index => exact runs_fin h (fun G ι ok a w hs => ⟨_, main G ι ok a w hs, .v _⟩)
          | count => exact runs_fin h (fun G ι ok a w hs => ⟨_, main G ι ok a w hs, .v _⟩)
        · cases h
      · cases h
    · exact evCall_ok hO ho h
  · exact evCall_ok hO ho h
end
/-! ### rows given up -/
def frzAt (st : St) (i : Nat) : St :=
  match look st.ts i with
  | some x => match frozen st x with
    | some (k, l, l') => { st with ar := (k, .row false l) :: st.ar, ts := (i, .ro false l') :: st.ts }
    | none => st
  | none => st
def frzOpnd (st : St) : Operand → St
  | .tmp i => frzAt st i
  | _ => st
def frzOpnds : St → List Operand → St
  | st, [] => st
  | st, x :: r => frzOpnds (frzOpnd st x) r
theorem frzAt_sim {G : Base} {st : St} {a : Act} {w : World} (i : Nat) (h : Sim G st a w) : Sim G (frzAt st i) a w := by
  obtain ⟨ι, ok, hs⟩ := h
  unfold frzAt
  split
  · rename_i x hl
    split
    · rename_i k l l' hf
      obtain ⟨g1, g2⟩ := hs.slots _ _ hl
      obtain ⟨ok', q1, q2, _⟩ := frozen_ok hs hf g2
      exact ⟨ι, ok', q1.slot (i := i) g1 q2⟩
    · exact ⟨ι, ok, hs⟩
  · exact ⟨ι, ok, hs⟩
theorem frzOpnd_sim {G : Base} {st : St} {a : Act} {w : World} (x : Operand) (h : Sim G st a w) : Sim G (frzOpnd st x) a w := by
  unfold frzOpnd
  split
  · exact frzAt_sim _ h
  · exact h
theorem frzOpnds_sim {G : Base} {a : Act} {w : World} : ∀ (l : List Operand) {st : St}, Sim G st a w → Sim G (frzOpnds st l) a w
  | [], _, h => h
  | x :: r, _, h => frzOpnds_sim r (frzOpnd_sim x h)
/-- what runs from the state that gave rows up, runs from the state itself -/
theorem runs_frz {P : Program} {o : Oper} {st st₁ : St} {x : X} {st' : St} (hf : ∀ {G a w}, Sim G st a w → Sim G st₁ a w) (h : RunsOp P o st₁ x st') : RunsOp P o st x st' :=
  fun G a w next Q hs hq => h G a w next Q (hf hs) hq
/-! ### arguments given up at a call -/
def frzA : List (Nat × Pat) → List AV → St → List AV × St
  | [], args, st => (args, st)
  | (i, .ro _ _) :: r, args, st => match args[i]? with
    | some x => match frozen st x with
      | some (k, l, l') => frzA r (args.set i (.ro false l')) { st with ar := (k, .row false l) :: st.ar }
      | none => frzA r args st
    | none => frzA r args st
  | _ :: r, args, st => frzA r args st
theorem frzA_ok : ∀ (ps : List (Nat × Pat)) (args : List AV) (st : St) {G : Base} {ι : Loci} {ok : Nat → Prop} {a : Act} {w : World} {cargs : Array Value}, SimI G ι ok st a w → (∀ i, i < args.length → Rep w ok G.B ι (args.getD i default) (cargs.getD i undef)) →
    (frzA ps args st).1.length = args.length ∧ ∃ ok', SimI G ι ok' (frzA ps args st).2 a w ∧ ∀ i, i < args.length → Rep w ok' G.B ι ((frzA ps args st).1.getD i default) (cargs.getD i undef)
  | [], args, st, G, ι, ok, a, w, cargs, hs, hr => ⟨rfl, ok, hs, hr⟩
  | (i, p) :: r, args, st, G, ι, ok, a, w, cargs, hs, hr => by
    cases p with
    | ro nw lk =>
      simp only [frzA]
      split
      · rename_i x hx
        split
        · rename_i k l l' hf
          have hi : i < args.length := (List.getElem?_eq_some_iff.1 hx).1
          have hxe : args.getD i default = x := by rw [List.getD_eq_getElem?_getD, hx]; rfl
          have hv := hr i hi
          rw [hxe] at hv
          obtain ⟨ok', q1, q2, q3⟩ := frozen_ok hs hf hv
          have := frzA_ok r (args.set i (.ro false l')) { st with ar := (k, .row false l) :: st.ar } q1 (cargs := cargs) (fun j hj => by
            rw [List.length_set] at hj
            rw [List.getD_eq_getElem?_getD, List.getElem?_set]
            by_cases e : i = j
            · subst e; rw [if_pos rfl, if_pos hi]; exact q2
            · rw [if_neg e, ← List.getD_eq_getElem?_getD]
              exact (hr j hj).mono (fun _ _ => rfl) q3 (fun _ _ h => h))
          rw [List.length_set] at this
          exact this
        · exact frzA_ok r args st hs hr
      · exact frzA_ok r args st hs hr
    | _ => exact frzA_ok r args st hs hr
def crunZ {R : Type} (na : Nat) (tin : Tmpl) (outs : Outs) (fn : tin.T → Option (ESum outs)) : CallF R := fun args st K => crun na tin outs fn (frzA tin.ts args st).1 (frzA tin.ts args st).2 K
theorem crunZ_ok {R : Type} {P : Program} {f : FuncId} {na : Nat} {tin : Tmpl} {outs : Outs} {fn : tin.T → Option (ESum outs)} (h : CallOK P f na tin outs fn) (ht : tagLive tin = true) : CFOK (R := R) P f (crunZ na tin outs fn) := by
  intro args st K r hr
  obtain ⟨xk, v, st', h1, h2⟩ := crun_ok (R := R) h ht _ _ _ _ hr
  refine ⟨xk, v, st', fun G ι ok a w cargs hs hsz hrep => ?_, h2⟩
  obtain ⟨e1, ok', q1, q2⟩ := frzA_ok tin.ts args st hs hrep
  exact h1 G ι ok' a w cargs q1 (by rw [hsz, e1]) (fun i hi => q2 i (by rw [← e1]; exact hi))
end Go.Ev

namespace Go.Ev
set_option linter.unusedSimpArgs false
set_option linter.unusedVariables false
section
variable {R : Type} {P : Program} {o : Oper} {st : St} {K : X → St → Option R} {r : R}
/-! ### a slice that holds something is not nil -/
def evEqSl (P : Program) (o : Oper) (op : BinOp) (t : TypeId) (x y : Operand) (st : St) (K : X → St → Option R) : Option R :=
  match P.underlying t, opnd st x, opnd st y with
  | some (.slice _), some a, some .nils => match sliceLen st a with
    | some n => bif Nat.blt 0 n then (match op with
      | .eql => fin o st K (.v (.bool false))
      | .neq => fin o st K (.v (.bool true))
      | _ => none) else none
    | none => none
  | _, _, _ => none
theorem slice_some {G : Base} {ι : Loci} {ok : Nat → Prop} {a' : Act} {w : World} (hs : SimI G ι ok st a' w) {a : AV} {n : Nat} (hn : sliceLen st a = some n) (hp : 0 < n) {v : Value} (hv : Rep w ok G.B ι a v) : ∃ ad m c, v = .slice (some ad) m c := by
  unfold sliceLen at hn
  split at hn
  · injection hn with hn; omega
  · rename_i k
    split at hn
    · rename_i ow l hk
      injection hn with hn
      obtain ⟨L, h1, h2, h3, h4⟩ := hs.objs _ _ hk
      cases hv with
      | own g g1 => exact ⟨_, _, _, rfl⟩
      | own0 g g1 g2 => rw [h1] at g; injection g with g; subst g; omega
    · cases hn
  · rename_i k sz off len
    injection hn with hn
    cases hv with
    | sl g g1 g2 g3 g4 => exact ⟨_, _, _, rfl⟩
    | sl0 g g1 g2 => omega
  · rename_i nw l
    injection hn with hn
    cases hv with
    | ro val a1 => exact ⟨_, _, _, rfl⟩
    | ro0 a1 a2 => omega
  · cases hn
theorem evEqSl_fin {op : BinOp} {t t' : TypeId} {x y : Operand} (ho : o.op = .binOp op t x y t') (h : evEqSl P o op t x y st K = some r) : Fin P o st K r := by
  unfold evEqSl at h
  split at h
  · rename_i e a hu hx hy
    split at h
    · rename_i n hn
      obtain ⟨hp, h⟩ := cond_none h
      have hp : 0 < n := by simpa [Nat.blt_eq] using hp
      have key : ∀ {G ι ok a'} {w : World}, SimI G ι ok st a' w →
          (eqGuard .eql t x y (a'.eval x) (a'.eval y)).run P w = .ok () w ∧ (eqGuard .neq t x y (a'.eval x) (a'.eval y)).run P w = .ok () w ∧
          (Op.equal t (a'.eval x) (a'.eval y)).run P w = .ok false w ∧ (∀ op' : BinOp, (op' = .eql ∨ op' = .neq) → binOp op' t (a'.eval x) (a'.eval y) = (match op' with
            | .eql => (do pure (Value.bool (← Op.equal t (a'.eval x) (a'.eval y))))
            | _ => (do pure (Value.bool (!(← Op.equal t (a'.eval x) (a'.eval y))))))) := by
        intro G ι ok a' w hs
        obtain ⟨ad, m, c, e1⟩ := slice_some hs hn hp (hs.opnd hx)
        have e2 := hs.opnd hy
        generalize a'.eval x = v1 at e1
        generalize a'.eval y = v2 at e2
        subst e1; cases e2
        refine ⟨guard_other (by simp) (by simp), guard_other (by simp) (by simp), ?_, by rintro _ (rfl | rfl) <;> rfl⟩
        unfold Op.equal Op.maxDepth Op.equalIn
        rw [run_ok (run_under hu)]; rfl
      split at h
      · refine fin_intro h (fun G ι ok a' w hs => ⟨_, ?_, .v _⟩)
        obtain ⟨g1, g2, g3, g4⟩ := key hs
        refine exec_bin ho g1 ?_
        rw [g4 _ (.inl rfl)]
        show (do pure (Value.bool (← Op.equal t (a'.eval x) (a'.eval y))) : Sem Value).run P w = _
        rw [run_ok g3]; rfl
      · refine fin_intro h (fun G ι ok a' w hs => ⟨_, ?_, .v _⟩)
        obtain ⟨g1, g2, g3, g4⟩ := key hs
        refine exec_bin ho g2 ?_
        rw [g4 _ (.inr rfl)]
        show (do pure (Value.bool (!(← Op.equal t (a'.eval x) (a'.eval y)))) : Sem Value).run P w = _
        rw [run_ok g3]; rfl
      · cases h
    · cases h
  · cases h
/-- a row that is nil just if it is empty, compared with nil -/
def evEqN (P : Program) (o : Oper) (op : BinOp) (t : TypeId) (x y : Operand) (st : St) (K : X → St → Option R) : Option R :=
  match P.underlying t, opndR st x, opnd st y with
  | some (.slice _), some (.ownN k), some .nils => match look st.ar k with
    | some (.row _ l) => (match op with
      | .eql => fin o st K (.v (.bool (Nat.beq l.length 0)))
      | .neq => fin o st K (.v (.bool (!(Nat.beq l.length 0))))
      | _ => none)
    | _ => none
  | _, _, _ => none
theorem evEqN_fin {op : BinOp} {t t' : TypeId} {x y : Operand} (ho : o.op = .binOp op t x y t') (h : evEqN P o op t x y st K = some r) : Fin P o st K r := by
  unfold evEqN at h
  split at h
  · rename_i e k hu hx hy
    split at h
    · rename_i ow l hk
      have key : ∀ {G ι ok a'} {w : World}, SimI G ι ok st a' w →
          (eqGuard .eql t x y (a'.eval x) (a'.eval y)).run P w = .ok () w ∧ (eqGuard .neq t x y (a'.eval x) (a'.eval y)).run P w = .ok () w ∧
          (Op.equal t (a'.eval x) (a'.eval y)).run P w = .ok (Nat.beq l.length 0) w ∧ (∀ op' : BinOp, (op' = .eql ∨ op' = .neq) → binOp op' t (a'.eval x) (a'.eval y) = (match op' with
            | .eql => (do pure (Value.bool (← Op.equal t (a'.eval x) (a'.eval y))))
            | _ => (do pure (Value.bool (!(← Op.equal t (a'.eval x) (a'.eval y))))))) := by
        intro G ι ok a' w hs
        have e1 := hs.opndR hx
        have e2 := hs.opnd hy
        obtain ⟨L, h1, h2, h3, h4⟩ := hs.objs _ _ hk
        generalize a'.eval x = v1 at e1
        generalize a'.eval y = v2 at e2
        cases e2
        cases e1 with
        | ownN g g1 g2 =>
          rw [h1] at g; injection g with g; subst g
          refine ⟨guard_other (by simp) (by simp), guard_other (by simp) (by simp), ?_, by rintro _ (rfl | rfl) <;> rfl⟩
          have hb : Nat.beq l.length 0 = false := by
            cases hb : Nat.beq l.length 0 with
            | false => rfl
            | true => have := Nat.eq_of_beq_eq_true hb; omega
          rw [hb]
          unfold Op.equal Op.maxDepth Op.equalIn
          rw [run_ok (run_under hu)]; rfl
        | ownN0 g g1 g2 =>
          rw [h1] at g; injection g with g; subst g
          refine ⟨guard_other (by simp) (by simp), guard_other (by simp) (by simp), ?_, by rintro _ (rfl | rfl) <;> rfl⟩
          have hb : Nat.beq l.length 0 = true := by rw [← h2, g2]; rfl
          rw [hb]
          unfold Op.equal Op.maxDepth Op.equalIn
          rw [run_ok (run_under hu)]; rfl
      split at h
      · refine fin_intro h (fun G ι ok a' w hs => ⟨_, ?_, .v _⟩)
        obtain ⟨g1, g2, g3, g4⟩ := key hs
        refine exec_bin ho g1 ?_
        rw [g4 _ (.inl rfl)]
        show (do pure (Value.bool (← Op.equal t (a'.eval x) (a'.eval y))) : Sem Value).run P w = _
        rw [run_ok g3]; rfl
      · refine fin_intro h (fun G ι ok a' w hs => ⟨_, ?_, .v _⟩)
        obtain ⟨g1, g2, g3, g4⟩ := key hs
        refine exec_bin ho g2 ?_
        rw [g4 _ (.inr rfl)]
        show (do pure (Value.bool (!(← Op.equal t (a'.eval x) (a'.eval y)))) : Sem Value).run P w = _
        rw [run_ok g3]; rfl
      · cases h
    · cases h
  · cases h
def isOwnN : Option AV → Bool
  | some (.ownN _) => true
  | _ => false
def isNilsA : Option AV → Bool
  | some .nils => true
  | _ => false
def isRowA : Option AV → Bool
  | some (.own _) => true
  | some (.sl ..) => true
  | some (.ro ..) => true
  | _ => false
end
end Go.Ev

namespace Go.Ev
set_option linter.unusedSimpArgs false
set_option linter.unusedVariables false
/-! ### arguments made to fit at a call: nil slices as rows of the call's own -/
def fitA (t : Tmpl) : List (Nat × Pat) → List AV → St → List AV × St
  | [], args, st => (args, st)
  | (i, .own j) :: r, args, st => match args[i]? with
    | some .nils => match rowAt t.objs j with
      | some lk => fitA t r (args.set i (.own st.nk)) { st with nk := st.nk + 1, ar := (st.nk, .row true lk.nil) :: st.ar }
      | none => fitA t r args st
    | _ => fitA t r args st
  | _ :: r, args, st => fitA t r args st
def argPairs (args : List AV) : List (Nat × Pat) → List (Nat × Key)
  | [] => []
  | (i, p) :: r => (match args[i]? with | some x => pairsP p x | none => []) ++ argPairs args r
def fitN (t : Tmpl) (args : List AV) (st : St) : List AV × St :=
  ((fitA t t.ts args st).1, refit t (pairsN t (fitA t t.ts args st).2 2 (argPairs (fitA t t.ts args st).1 t.ts)) (fitA t t.ts args st).2)
theorem fitA_ok (t : Tmpl) : ∀ (ps : List (Nat × Pat)) (args : List AV) (st : St) {G : Base} {ι : Loci} {ok : Nat → Prop} {a : Act} {w : World} {cargs : Array Value}, SimI G ι ok st a w → (∀ i, i < args.length → Rep w ok G.B ι (args.getD i default) (cargs.getD i undef)) →
    (fitA t ps args st).1.length = args.length ∧ ∃ ι', SimI G ι' ok (fitA t ps args st).2 a w ∧ ∀ i, i < args.length → Rep w ok G.B ι' ((fitA t ps args st).1.getD i default) (cargs.getD i undef)
  | [], args, st, G, ι, ok, a, w, cargs, hs, hr => ⟨rfl, ι, hs, hr⟩
  | (i, p) :: r, args, st, G, ι, ok, a, w, cargs, hs, hr => by
    cases p with
    | own j =>
      simp only [fitA]
      split
      · rename_i hx
        split
        · rename_i lk hlk
          have hi : i < args.length := (List.getElem?_eq_some_iff.1 hx).1
          have hxe : args.getD i default = .nils := by rw [List.getD_eq_getElem?_getD, hx]; rfl
          have hv := hr i hi
          rw [hxe] at hv
          have h1 := hs.nilRow lk
          have hf := hs.fresh st.nk (Nat.le_refl _)
          have hle : ∀ i L', ι i = some L' → (fun i => if i = st.nk then some (⟨0, 0, 0, 0⟩ : Loc) else ι i) i = some L' := by
            intro i L' hl
            by_cases e : i = st.nk
            · subst e; rw [hf] at hl; cases hl
            · simp only [e, if_false]; exact hl
          have := fitA_ok t r (args.set i (.own st.nk)) { st with nk := st.nk + 1, ar := (st.nk, .row true lk.nil) :: st.ar } h1 (cargs := cargs) (fun q hq => by
            rw [List.length_set] at hq
            rw [List.getD_eq_getElem?_getD, List.getElem?_set]
            by_cases e : i = q
            · subst e
              rw [if_pos rfl, if_pos hi]
              generalize cargs.getD i undef = v at hv
              cases hv
              exact .own0 (L := ⟨0, 0, 0, 0⟩) (by simp) rfl rfl
            · rw [if_neg e, ← List.getD_eq_getElem?_getD]
              exact (hr q hq).mono (fun _ _ => rfl) (fun _ h => h) hle)
          rw [List.length_set] at this
          exact this
        · exact fitA_ok t r args st hs hr
      · exact fitA_ok t r args st hs hr
    | _ => exact fitA_ok t r args st hs hr
theorem fitN_ok (t : Tmpl) (args : List AV) (st : St) {G : Base} {ι : Loci} {ok : Nat → Prop} {a : Act} {w : World} {cargs : Array Value} (hs : SimI G ι ok st a w) (hr : ∀ i, i < args.length → Rep w ok G.B ι (args.getD i default) (cargs.getD i undef)) :
    (fitN t args st).1.length = args.length ∧ ∃ ι', SimI G ι' ok (fitN t args st).2 a w ∧ ∀ i, i < args.length → Rep w ok G.B ι' ((fitN t args st).1.getD i default) (cargs.getD i undef) := by
  obtain ⟨e, ι1, h1, h2⟩ := fitA_ok t t.ts args st hs hr
  obtain ⟨ι2, h3, h4⟩ := refit_ext t (pairsN t (fitA t t.ts args st).2 2 (argPairs (fitA t t.ts args st).1 t.ts)) h1
  exact ⟨e, ι2, h3, fun i hi => (h2 i hi).mono (fun _ _ => rfl) (fun _ h => h) h4⟩
def crunN {R : Type} (na : Nat) (tin : Tmpl) (outs : Outs) (fn : tin.T → Option (ESum outs)) : CallF R := fun args st K => crun na tin outs fn (fitN tin args st).1 (fitN tin args st).2 K
theorem crunN_ok {R : Type} {P : Program} {f : FuncId} {na : Nat} {tin : Tmpl} {outs : Outs} {fn : tin.T → Option (ESum outs)} (h : CallOK P f na tin outs fn) (ht : tagLive tin = true) : CFOK (R := R) P f (crunN na tin outs fn) := by
  intro args st K r hr
  obtain ⟨xk, v, st', h1, h2⟩ := crun_ok (R := R) h ht _ _ _ _ hr
  refine ⟨xk, v, st', fun G ι ok a w cargs hs hsz hrep => ?_, h2⟩
  obtain ⟨e1, ι', q1, q2⟩ := fitN_ok tin args st hs hrep
  exact h1 G ι' ok a w cargs q1 (by rw [hsz, e1]) (fun i hi => q2 i (by rw [← e1]; exact hi))
/-- the first where its form fits the arguments, else the second -/
def cfOrN {R : Type} (na : Nat) (tin : Tmpl) (cf cf' : CallF R) : CallF R := fun args st K =>
  bif Nat.beq args.length na && (tin.free.dec ⟨na, (fitN tin args st).2.nk, numbered (fitN tin args st).1 0, (fitN tin args st).2.ar, [], []⟩).isSome then cf args st K else cf' args st K
theorem cfOrN_ok {R : Type} {P : Program} {f : FuncId} {na : Nat} {tin : Tmpl} {cf cf' : CallF R} (h : CFOK P f cf) (h' : CFOK P f cf') : CFOK P f (cfOrN na tin cf cf') := by
  intro args st K r hr
  unfold cfOrN at hr
  cases hb : (Nat.beq args.length na && (tin.free.dec ⟨na, (fitN tin args st).2.nk, numbered (fitN tin args st).1 0, (fitN tin args st).2.ar, [], []⟩).isSome) <;> rw [hb] at hr
  · exact h' _ _ _ _ hr
  · exact h _ _ _ _ hr
end Go.Ev

namespace Go.Ev
set_option linter.unusedSimpArgs false
set_option linter.unusedVariables false
open Go.MapKept
/-! ### maps from strings to structs of one string -/
abbrev MapL := List (ByteArray × ByteArray)
def mhas : MapL → ByteArray → Bool
  | [], _ => false
  | (a, _) :: r, s => a == s || mhas r s
def mget : MapL → ByteArray → ByteArray
  | [], _ => ByteArray.empty
  | (a, b) :: r, s => if a == s then b else mget r s
def mset : MapL → ByteArray → ByteArray → MapL
  | [], s, v => [(s, v)]
  | (a, b) :: r, s, v => if a == s then (s, v) :: r else (a, b) :: mset r s v
def mdel : MapL → ByteArray → MapL
  | [], _ => []
  | (a, b) :: r, s => if a == s then r else (a, b) :: mdel r s
def encM (p : ByteArray × ByteArray) : Value × Value := (.string p.1, .agg #[.string p.2])
def isStrMap (P : Program) (t : TypeId) : Bool :=
  match P.underlying t with
  | some (.map k e) => (match P.underlying k, P.info? e with
    | some .string, some i => (match i.zero with
      | some (.agg cs) => (match cs.toList with
        | [.string s] => Nat.beq s.size 0
        | _ => false)
      | _ => false)
    | _, _ => false)
  | _ => false
def mapOfA (st : St) : AV → Option MapL
  | .mp k => match look st.ar k with
    | some (.mapS es) => some es
    | _ => none
  | .v (.map none) => some []
  | _ => none
section
variable {R : Type}
def evMakeMap (o : Oper) (res : Option Operand) (st : St) (K : X → St → Option R) : Option R :=
  match res with
  | none => fin o { st with nk := st.nk + 1, ar := (st.nk, .mapS []) :: st.ar } K (.mp st.nk)
  | some _ => none
def evLookup (P : Program) (o : Oper) (t : TypeId) (x i : Operand) (commaOk : Bool) (st : St) (K : X → St → Option R) : Option R :=
  bif isStrMap P t then (match opnd st x, opnd st i with
    | some m, some (.v (.string s)) => match mapOfA st m with
      | some es => fin o st K (bif commaOk then .tuple [.agg [.v (.string (mget es s))], .v (.bool (mhas es s))] else .agg [.v (.string (mget es s))])
      | none => none
    | _, _ => none) else none
def oneStr : AV → Option ByteArray
  | .agg [.v (.string s)] => some s
  | _ => none
def evMapUpdate (P : Program) (o : Oper) (t : TypeId) (x i v : Operand) (st : St) (K : X → St → Option R) : Option R :=
  bif isStrMap P t then (match opnd st x, opnd st i, opnd st v with
    | some (.mp k), some (.v (.string s)), some y => match look st.ar k, oneStr y with
      | some (.mapS es), some z => bif dstOk st.n o.dst then K .normal ({ st with ar := (k, .mapS (mset es s z)) :: st.ar }.put o.dst (.v undef)) else none
      | _, _ => none
    | _, _, _ => none) else none
def evDelete (P : Program) (o : Oper) (t : TypeId) (x i : Operand) (st : St) (K : X → St → Option R) : Option R :=
  bif isStrMap P t then (match opnd st x, opnd st i with
    | some (.mp k), some (.v (.string s)) => match look st.ar k with
      | some (.mapS es) => fin o { st with ar := (k, .mapS (mdel es s)) :: st.ar } K (.tuple [])
      | _ => none
    | _, _ => none) else none
end
theorem isStrMap_spec {P : Program} {t : TypeId} (h : isStrMap P t = true) : ∃ k e i, P.underlying t = some (.map k e) ∧ P.underlying k = some .string ∧ P.info? e = some i ∧ i.zero = some (.agg #[.string ByteArray.empty]) := by
  unfold isStrMap at h
  split at h
  · rename_i k e ht
    split at h
    · rename_i i hk he
      split at h
      · rename_i cs hz
        split at h
        · rename_i s hcs
          have hs := Nat.eq_of_beq_eq_true h
          refine ⟨k, e, i, ht, hk, he, ?_⟩
          rw [hz]
          have h1 : s = ByteArray.empty := by
            apply ByteArray.ext
            exact Array.eq_empty_of_size_eq_zero hs
          have h2 : cs = #[.string s] := by apply Array.ext'; rw [hcs]
          rw [h2, h1]
        · cases h
      · cases h
    · cases h
  · cases h
/-- what the search for a key finds -/
theorem findNow_map : ∀ (l : List MapEntry) (es : MapL) (s : ByteArray) (i : Nat), l.map (fun e => (e.key, e.val)) = es.map encM →
    (Instr.findNow .string (.string s) l i = some none ∧ mhas es s = false ∧ mget es s = ByteArray.empty ∧ (∀ v, mset es s v = es ++ [(s, v)]) ∧ mdel es s = es) ∨
    ∃ j e v0, Instr.findNow .string (.string s) l i = some (some (i + j, .agg #[.string v0])) ∧ l[j]? = some e ∧ e.key = .string s ∧ mhas es s = true ∧ mget es s = v0 ∧
      (∀ v, mset es s v = es.set j (s, v)) ∧ mdel es s = es.eraseIdx j := by
  intro l
  induction l with
  | nil =>
    intro es s i h
    cases es with
    | nil => exact .inl ⟨rfl, rfl, rfl, fun _ => rfl, rfl⟩
    | cons p r => cases h
  | cons e l ih =>
    intro es s i h
    cases es with
    | nil => cases h
    | cons p r =>
      obtain ⟨a, b⟩ := p
      rw [List.map_cons, List.map_cons] at h
      injection h with h1 h2
      injection h1 with hk hv
      have hk : e.key = .string a := hk
      have hv : e.val = .agg #[.string b] := hv
      have hsn : Instr.sameNow .string (.string s) e.key = some (s == a) := by rw [hk]; rfl
      by_cases hsa : a = s
      · subst hsa
        have hb : (a == a) = true := (bytes_beq a a).2 rfl
        refine .inr ⟨0, e, b, ?_, rfl, hk, by simp [mhas, hb], by simp [mget, hb], fun v => by simp [mset, hb], by simp [mdel, hb]⟩
        unfold Instr.findNow
        rw [hsn, hb, hv]; rfl
      · have hb : (a == s) = false := by
          cases hc : (a == s) with
          | false => rfl
          | true => exact absurd ((bytes_beq a s).1 hc) hsa
        have hb2 : (s == a) = false := by
          cases hc : (s == a) with
          | false => rfl
          | true => exact absurd ((bytes_beq s a).1 hc).symm hsa
        rcases ih r s (i + 1) h2 with ⟨g1, g2, g3, g4, g5⟩ | ⟨j, e', v0, g1, g2, g3, g4, g5, g6, g7⟩
        · refine .inl ⟨?_, by simp [mhas, hb, g2], by simp [mget, hb, g3], fun v => by simp [mset, hb, g4], by simp [mdel, hb, g5]⟩
          unfold Instr.findNow
          rw [hsn, hb2]; exact g1
        · refine .inr ⟨j + 1, e', v0, ?_, by simpa using g2, g3, by simp [mhas, hb, g4], by simp [mget, hb, g5], fun v => by simp [mset, hb, g6], by simp [mdel, hb, g7]⟩
          unfold Instr.findNow
          rw [hsn, hb2]
          show Instr.findNow _ _ _ _ = _
          rw [g1]
          congr 3; omega
theorem modify_set {α : Type} (f : α → α) : ∀ (l : List α) (j : Nat) (e : α), l[j]? = some e → l.modify j f = l.set j (f e)
  | [], j, e, h => by simp at h
  | b :: r, 0, e, h => by simp at h; subst h; rfl
  | b :: r, j + 1, e, h => by
    simp at h
    have := modify_set f r j e h
    simp [List.modify_succ_cons, this]
theorem map_eraseIdx' {α β : Type} (f : α → β) : ∀ (l : List α) (j : Nat), (l.eraseIdx j).map f = (l.map f).eraseIdx j
  | [], j => by simp
  | b :: r, 0 => by simp
  | b :: r, j + 1 => by simp [map_eraseIdx' f r j]
section
variable {P : Program} {o : Oper} {R : Type} {st : St} {K : X → St → Option R} {r : R}
theorem evMakeMap_ok {t : TypeId} {res : Option Operand} (ho : o.op = .makeMap t res) (h : evMakeMap o res st K = some r) : ∃ x st', RunsOp P o st x st' ∧ K x st' = some r := by
  unfold evMakeMap at h
  split at h
  · refine runs_new h (fun G ι ok a w hs => ⟨.map (some w.heap.size), w.alloc (.map #[] 0), ι.set st.nk ⟨w.heap.size, 0, 0, 1⟩, ?_, ?_, ?_⟩)
    · unfold execOp; rw [ho]
      exact exec_v (by rfl)
    · exact hs.alloc rfl ⟨⟨w.heap.size, 0, 0, 1⟩, #[], 0, Loci.set_same _ _ _, rfl, heap_alloc_new', rfl⟩
    · exact .mp (L := ⟨w.heap.size, 0, 0, 1⟩) (Loci.set_same _ _ _) rfl
  · cases h
theorem mapOfA_ok {G : Base} {ι : Loci} {ok : Nat → Prop} {a : Act} {w : World} (hs : SimI G ι ok st a w) {m : AV} {v : Value} (hm : Rep w ok G.B ι m v) {es : MapL} (h : mapOfA st m = some es) :
    (v = .map none ∧ es = []) ∨ ∃ b vs c, v = .map (some b) ∧ w.heap[b]? = some (.map vs c) ∧ vs.toList.map (fun e => (e.key, e.val)) = es.map encM := by
  unfold mapOfA at h
  split at h
  · rename_i k
    split at h
    · rename_i es' hk
      injection h with h; subst h
      obtain ⟨L, vs, c, h1, h2, h3, h4⟩ := hs.objs _ _ hk
      cases hm with
      | mp g g1 =>
        rw [h1] at g; injection g with g; subst g
        exact .inr ⟨_, vs, c, rfl, h3, h4⟩
    · cases h
  · injection h with h; subst h
    exact .inl ⟨rep_v_inv hm, rfl⟩
  · cases h
theorem evLookup_fin {t : TypeId} {x i : Operand} {commaOk : Bool} (ho : o.op = .lookup t x i commaOk) (h : evLookup P o t x i commaOk st K = some r) : Fin P o st K r := by
  unfold evLookup at h
  obtain ⟨hm, h⟩ := cond_none h
  obtain ⟨kt, et, inf, ht, hk, he, hz⟩ := isStrMap_spec hm
  split at h
  · rename_i m s hx hi
    split at h
    · rename_i es hes
      have key : ∀ {G ι ok a w}, SimI G ι ok st a w → (Instr.lookup t (a.eval x) (a.eval i) commaOk).run P w = .ok (if commaOk then .tuple #[.agg #[.string (mget es s)], .bool (mhas es s)] else .agg #[.string (mget es s)]) w := by
        intro G ι ok a w hs
        have hv := rep_v_inv (hs.opnd hi)
        rw [hv]
        have fin : ∀ (l : List MapEntry), l.map (fun e => (e.key, e.val)) = es.map encM → (do
            let (v, ok) ← match ← Instr.findKey kt (.string s) l with
              | some (_, v) => pure (v, true)
              | none => pure (← zeroValue et, false)
            pure (if commaOk then .tuple #[v, .bool ok] else v) : Sem Value).run P w = .ok (if commaOk then .tuple #[.agg #[.string (mget es s)], .bool (mhas es s)] else .agg #[.string (mget es s)]) w := by
          intro l hl
          rcases findNow_map l es s 0 hl with ⟨g1, g2, g3, _, _⟩ | ⟨j, e', v0, g1, _, _, g4, g5, _, _⟩
          · rw [run_ok (run_findKey hk g1)]
            have hzero : (zeroValue et).run P w = .ok (.agg #[.string ByteArray.empty]) w := by
              unfold zeroValue
              rw [run_ok (run_info he), hz]; rfl
            rw [g2, g3]
            show (do let z ← zeroValue et; pure (if commaOk then .tuple #[z, .bool false] else z) : Sem Value).run P w = _
            rw [run_ok hzero]; rfl
          · rw [run_ok (run_findKey hk g1), g4, g5]; rfl
        unfold Instr.lookup
        rw [run_ok (run_under ht)]
        rcases mapOfA_ok hs (hs.opnd hx) hes with ⟨e1, e2⟩ | ⟨b, vs, c, e1, e2, e3⟩
        · rw [e1]
          show (do
            Instr.checkKey (#[] : Array MapEntry).isEmpty 10000 kt (.string s)
            let (v, ok) ← match ← Instr.findKey kt (.string s) (#[] : Array MapEntry).toList with
              | some (_, v) => pure (v, true)
              | none => pure (← zeroValue et, false)
            pure (if commaOk then .tuple #[v, .bool ok] else v) : Sem Value).run P w = _
          rw [run_ok (run_checkKey hk (by simp [IsKey]) _ 9999)]
          exact fin _ (by rw [e2]; rfl)
        · rw [e1]
          show (do
            let .map es _ ← getObj b | stuck "Lookup: map expected"
            Instr.checkKey es.isEmpty 10000 kt (.string s)
            let (v, ok) ← match ← Instr.findKey kt (.string s) es.toList with
              | some (_, v) => pure (v, true)
              | none => pure (← zeroValue et, false)
            pure (if commaOk then .tuple #[v, .bool ok] else v) : Sem Value).run P w = _
          rw [run_ok (MapKept.run_getObj_map e2)]
          show (do
            Instr.checkKey vs.isEmpty 10000 kt (.string s)
            let (v, ok) ← match ← Instr.findKey kt (.string s) vs.toList with
              | some (_, v) => pure (v, true)
              | none => pure (← zeroValue et, false)
            pure (if commaOk then .tuple #[v, .bool ok] else v) : Sem Value).run P w = _
          rw [run_ok (run_checkKey hk (by simp [IsKey]) _ 9999)]
          exact fin _ e3
      refine fin_intro h (fun G ι ok a w hs => ⟨if commaOk then .tuple #[.agg #[.string (mget es s)], .bool (mhas es s)] else .agg #[.string (mget es s)], ?_, ?_⟩)
      · unfold execOp; rw [ho]
        exact exec_v (key hs)
      · have ha : Rep w ok G.B ι (.agg [.v (.string (mget es s))]) (.agg #[.string (mget es s)]) := .agg rfl (fun i hi => by
          have : i = 0 := by simp at hi; exact hi
          subst this; exact .v _)
        cases commaOk with
        | false => exact ha
        | true =>
          exact .tuple rfl (fun i hi => by
            have hi : i < 2 := hi
            match i, hi with
            | 0, _ => exact ha
            | 1, _ => exact .v _)
    · cases h
  · cases h
theorem evLookup_ok {t : TypeId} {x i : Operand} {commaOk : Bool} (ho : o.op = .lookup t x i commaOk) (h : evLookup P o t x i commaOk st K = some r) : ∃ x st', RunsOp P o st x st' ∧ K x st' = some r := (evLookup_fin ho h).ok
/-- one map is written -/
theorem writeMap {G : Base} {ι : Loci} {ok : Nat → Prop} {a : Act} {w : World} (hs : SimI G ι ok st a w) {k : Key} {es es' : MapL} (hk : look st.ar k = some (.mapS es)) {L : Loc} (hl : ι k = some L) (hc : L.cp = 1) {vs vs' : Array MapEntry} {c c' : Nat}
    (hb : w.heap[L.b]? = some (.map vs c)) (he : vs'.toList.map (fun e => (e.key, e.val)) = es'.map encM) :
    SimI G ι ok { st with ar := (k, .mapS es') :: st.ar } a { w with heap := w.heap.setIfInBounds L.b (.map vs' c') } := by
  obtain ⟨h1, h2⟩ := MapKept.heap_set (w := w) (o' := .map vs' c') hb
  exact hs.write (o' := .mapS es') hk rfl hl (by omega) rfl rfl rfl (by simp) (fun b hb' => h2 b hb') ⟨L, vs', c', hl, hc, h1, he⟩
theorem map_at {G : Base} {ι : Loci} {ok : Nat → Prop} {a : Act} {w : World} (hs : SimI G ι ok st a w) {k : Key} {es : MapL} (hk : look st.ar k = some (.mapS es)) {v : Value} (hv : Rep w ok G.B ι (.mp k) v) :
    ∃ L vs c, ι k = some L ∧ L.cp = 1 ∧ v = .map (some L.b) ∧ w.heap[L.b]? = some (.map vs c) ∧ vs.toList.map (fun e => (e.key, e.val)) = es.map encM := by
  obtain ⟨L, vs, c, h1, h2, h3, h4⟩ := hs.objs _ _ hk
  cases hv with
  | mp g g1 =>
    rw [h1] at g; injection g with g; subst g
    exact ⟨_, vs, c, h1, h2, rfl, h3, h4⟩
theorem evMapUpdate_ok {t : TypeId} {x i v : Operand} (ho : o.op = .mapUpdate t x i v ∨ o.op = .insert t x i v) (h : evMapUpdate P o t x i v st K = some r) : ∃ x st', RunsOp P o st x st' ∧ K x st' = some r := by
  unfold evMapUpdate at h
  obtain ⟨hm, h⟩ := cond_none h
  obtain ⟨kt, et, inf, ht, hk, he, hz⟩ := isStrMap_spec hm
  split at h
  · rename_i k s y hx hi hv
    split at h
    · rename_i es z hes hone
      obtain ⟨hd, h⟩ := cond_none h
      refine ⟨.normal, _, ?_, h⟩
      rintro G a w next Q ⟨ι, ok, hs⟩ hq
      obtain ⟨L, vs, c, l1, l2, l3, l4, l5⟩ := map_at hs hes (hs.opnd hx)
      have hiv := rep_v_inv (hs.opnd hi)
      have hvv : a.eval v = .agg #[.string z] := by
        have hr := hs.opnd hv
        unfold oneStr at hone
        split at hone
        · injection hone with hone; subst hone
          obtain ⟨us, e1, e2, e3⟩ := rep_agg_inv hr
          rw [e1]
          have h0 := rep_v_inv (e3 0 (by simp))
          have hsz : us.size = 1 := e2
          congr 1
          apply Array.ext
          · simp [hsz]
          · intro q q1 q2
            have : q = 0 := by omega
            subst this
            simpa [Array.getD_eq_getD_getElem?, q1] using h0
        · cases hone
      have hrun : ∃ vs' c', (Instr.mapUpdate t (a.eval x) (a.eval i) (a.eval v)).run P w = .ok () { w with heap := w.heap.setIfInBounds L.b (.map vs' c') } ∧ vs'.toList.map (fun e => (e.key, e.val)) = (mset es s z).map encM := by
        rw [l3, hiv, hvv]
        have hck := run_checkKey (P := P) (w := w) hk (k := .string s) (by simp [IsKey]) false 9999
        rcases findNow_map vs.toList es s 0 l5 with ⟨g1, g2, g3, g4, _⟩ | ⟨j, e', v0, g1, gj, gk, g4, g5, g6, _⟩
        · refine ⟨vs.push { key := .string s, val := .agg #[.string z], born := c }, c + 1, ?_, ?_⟩
          · unfold Instr.mapUpdate
            rw [run_ok (run_under ht)]
            show (do
              let .map es clock ← getObj L.b | stuck "MapUpdate: map expected"
              Instr.checkKey false 10000 kt (.string s)
              match ← Instr.findKey kt (.string s) es.toList with
              | some (i, _) => do
                let key ← Instr.keyThatStays (((es[i]?).map (·.key)).getD (.string s)) (.string s)
                setObj L.b (.map (es.modify i fun e => { e with key, val := .agg #[.string z] }) clock)
              | none => setObj L.b (.map (es.push { key := .string s, val := .agg #[.string z], born := clock }) (clock + 1)) : Sem Unit).run P w = _
            rw [run_ok (MapKept.run_getObj_map l4)]
            show (do
              Instr.checkKey false 10000 kt (.string s)
              match ← Instr.findKey kt (.string s) vs.toList with
              | some (i, _) => do
                let key ← Instr.keyThatStays (((vs[i]?).map (·.key)).getD (.string s)) (.string s)
                setObj L.b (.map (vs.modify i fun e => { e with key, val := .agg #[.string z] }) c)
              | none => setObj L.b (.map (vs.push { key := .string s, val := .agg #[.string z], born := c }) (c + 1)) : Sem Unit).run P w = _
            rw [run_ok hck, run_ok (run_findKey hk g1)]
            exact MapKept.run_setObj_map _ l4
          · rw [g4]
            simp [l5, encM]
        · have hjlt : j < vs.size := by have := (List.getElem?_eq_some_iff.1 gj).1; simpa using this
          refine ⟨vs.modify j fun e => { e with key := .string s, val := .agg #[.string z] }, c, ?_, ?_⟩
          · unfold Instr.mapUpdate
            rw [run_ok (run_under ht)]
            show (do
              let .map es clock ← getObj L.b | stuck "MapUpdate: map expected"
              Instr.checkKey false 10000 kt (.string s)
              match ← Instr.findKey kt (.string s) es.toList with
              | some (i, _) => do
                let key ← Instr.keyThatStays (((es[i]?).map (·.key)).getD (.string s)) (.string s)
                setObj L.b (.map (es.modify i fun e => { e with key, val := .agg #[.string z] }) clock)
              | none => setObj L.b (.map (es.push { key := .string s, val := .agg #[.string z], born := clock }) (clock + 1)) : Sem Unit).run P w = _
            rw [run_ok (MapKept.run_getObj_map l4)]
            show (do
              Instr.checkKey false 10000 kt (.string s)
              match ← Instr.findKey kt (.string s) vs.toList with
              | some (i, _) => do
                let key ← Instr.keyThatStays (((vs[i]?).map (·.key)).getD (.string s)) (.string s)
                setObj L.b (.map (vs.modify i fun e => { e with key, val := .agg #[.string z] }) c)
              | none => setObj L.b (.map (vs.push { key := .string s, val := .agg #[.string z], born := c }) (c + 1)) : Sem Unit).run P w = _
            rw [run_ok hck, run_ok (run_findKey hk g1)]
            have hkey : ((vs[0 + j]?).map (·.key)).getD (.string s) = .string s := by
              have : vs[j]? = some e' := by rw [← Array.getElem?_toList]; exact gj
              rw [Nat.zero_add, this]; simpa using gk
            have hst : (Instr.keyThatStays (.string s) (.string s)).run P w = .ok (.string s) w := by
              unfold Instr.keyThatStays
              have : Instr.sameBits 10000 (.string s) (.string s) = true := (bytes_beq s s).2 rfl
              rw [if_pos this]; rfl
            show (do
                let key ← Instr.keyThatStays (((vs[0 + j]?).map (·.key)).getD (.string s)) (.string s)
                setObj L.b (.map (vs.modify (0 + j) fun e => { e with key, val := .agg #[.string z] }) c) : Sem Unit).run P w = _
            rw [hkey, run_ok hst, Nat.zero_add]
            exact MapKept.run_setObj_map _ l4
          · rw [g6]
            rw [List.map_set, ← l5]
            rw [Array.toList_modify, modify_set _ _ _ _ gj, List.map_set]
            rfl
      obtain ⟨vs', c', hr, hl⟩ := hrun
      have hs' := writeMap hs hes l1 l2 (c' := c') l4 hl
      unfold Oper.wp execOp
      rcases ho with ho | ho
      · rw [ho]
        show o.upon P a next Q ((do Instr.mapUpdate t (a.eval x) (a.eval i) (a.eval v); pure Next.skip : Sem Next).run P w)
        rw [run_ok hr]
        exact hq .normal _ _ ⟨rfl, ι, ok, hs'.put hd (.v undef)⟩
      · rw [ho]
        show o.upon P a next Q ((do Instr.mapUpdate t (a.eval x) (a.eval i) (a.eval v); pure Next.skip : Sem Next).run P w)
        rw [run_ok hr]
        exact hq .normal _ _ ⟨rfl, ι, ok, hs'.put hd (.v undef)⟩
    · cases h
  · cases h
theorem evDelete_ok {t t2 : TypeId} {x i : Operand} (ho : o.op = .call { callee := .builtin .delete, args := #[x, i], argTypes := #[t, t2] }) (h : evDelete P o t x i st K = some r) : ∃ x st', RunsOp P o st x st' ∧ K x st' = some r := by
  unfold evDelete at h
  obtain ⟨hm, h⟩ := cond_none h
  obtain ⟨kt, et, inf, ht, hk, he, hz⟩ := isStrMap_spec hm
  split at h
  · rename_i k s hx hi
    split at h
    · rename_i es hes
      refine runs_new h (fun G ι ok a w hs => ?_)
      obtain ⟨L, vs, c, l1, l2, l3, l4, l5⟩ := map_at hs hes (hs.opnd hx)
      have hiv := rep_v_inv (hs.opnd hi)
      have hck := run_checkKey (P := P) (w := w) hk (k := .string s) (by simp [IsKey]) vs.isEmpty 9999
      have hrun : ∃ vs' c', (Builtin.delete_ #[t, t2] o.type #[a.eval x, a.eval i]).run P w = .ok (.tuple #[]) { w with heap := w.heap.setIfInBounds L.b (.map vs' c') } ∧ vs'.toList.map (fun e => (e.key, e.val)) = (mdel es s).map encM := by
        rw [l3, hiv]
        rcases findNow_map vs.toList es s 0 l5 with ⟨g1, g2, g3, _, g5⟩ | ⟨j, e', v0, g1, gj, gk, g4, _, _, g7⟩
        · refine ⟨vs, c, ?_, by rw [g5]; exact l5⟩
          unfold Builtin.delete_
          show (do
            let .map keyType _ ← underlying t | stuck "delete: map type expected"
            let .map es clock ← getObj L.b | stuck "delete: map expected"
            Instr.checkKey es.isEmpty 10000 keyType (.string s)
            match ← Instr.findKey keyType (.string s) es.toList with
            | some (i, _) => setObj L.b (.map (es.eraseIdxIfInBounds i) clock)
            | none => setObj L.b (.map es clock)
            pure (.tuple #[]) : Sem Value).run P w = _
          rw [run_ok (run_under ht)]
          show (do
            let .map es clock ← getObj L.b | stuck "delete: map expected"
            Instr.checkKey es.isEmpty 10000 kt (.string s)
            match ← Instr.findKey kt (.string s) es.toList with
            | some (i, _) => setObj L.b (.map (es.eraseIdxIfInBounds i) clock)
            | none => setObj L.b (.map es clock)
            pure (.tuple #[]) : Sem Value).run P w = _
          rw [run_ok (MapKept.run_getObj_map l4)]
          show (do
            Instr.checkKey vs.isEmpty 10000 kt (.string s)
            match ← Instr.findKey kt (.string s) vs.toList with
            | some (i, _) => setObj L.b (.map (vs.eraseIdxIfInBounds i) c)
            | none => setObj L.b (.map vs c)
            pure (.tuple #[]) : Sem Value).run P w = _
          rw [run_ok hck, run_ok (run_findKey hk g1)]
          show (do
            setObj L.b (.map vs c)
            pure (.tuple #[]) : Sem Value).run P w = _
          rw [run_ok (MapKept.run_setObj_map _ l4)]; rfl
        · have hjlt : j < vs.size := by have := (List.getElem?_eq_some_iff.1 gj).1; simpa using this
          refine ⟨vs.eraseIdxIfInBounds j, c, ?_, ?_⟩
          · unfold Builtin.delete_
            show (do
              let .map keyType _ ← underlying t | stuck "delete: map type expected"
              let .map es clock ← getObj L.b | stuck "delete: map expected"
              Instr.checkKey es.isEmpty 10000 keyType (.string s)
              match ← Instr.findKey keyType (.string s) es.toList with
              | some (i, _) => setObj L.b (.map (es.eraseIdxIfInBounds i) clock)
              | none => setObj L.b (.map es clock)
              pure (.tuple #[]) : Sem Value).run P w = _
            rw [run_ok (run_under ht)]
            show (do
              let .map es clock ← getObj L.b | stuck "delete: map expected"
              Instr.checkKey es.isEmpty 10000 kt (.string s)
              match ← Instr.findKey kt (.string s) es.toList with
              | some (i, _) => setObj L.b (.map (es.eraseIdxIfInBounds i) clock)
              | none => setObj L.b (.map es clock)
              pure (.tuple #[]) : Sem Value).run P w = _
            rw [run_ok (MapKept.run_getObj_map l4)]
            show (do
              Instr.checkKey vs.isEmpty 10000 kt (.string s)
              match ← Instr.findKey kt (.string s) vs.toList with
              | some (i, _) => setObj L.b (.map (vs.eraseIdxIfInBounds i) c)
              | none => setObj L.b (.map vs c)
              pure (.tuple #[]) : Sem Value).run P w = _
            rw [run_ok hck, run_ok (run_findKey hk g1)]
            show (do
              setObj L.b (.map (vs.eraseIdxIfInBounds (0 + j)) c)
              pure (.tuple #[]) : Sem Value).run P w = _
            rw [Nat.zero_add, run_ok (MapKept.run_setObj_map _ l4)]; rfl
          · rw [g7, map_eraseIdx', ← l5, ← map_eraseIdx']
            congr 1
            rw [Array.eraseIdxIfInBounds_eq]
            rw [dif_pos hjlt]
            simp
      obtain ⟨vs', c', hr, hl⟩ := hrun
      have hs' := writeMap hs hes l1 l2 (c' := c') l4 hl
      refine ⟨.tuple #[], _, ι, ?_, hs', .tuple rfl (fun i hi => by simp at hi)⟩
      rw [exec_builtin ho, show (#[x, i].map a.eval) = #[a.eval x, a.eval i] by simp]
      exact exec_v hr
    · cases h
  · cases h
end
end Go.Ev

namespace Go.Ev
set_option linter.unusedSimpArgs false
set_option linter.unusedVariables false
/-! ### equality of structs whose fields are numbers, yes or no, texts -/
def scalEq : Option TypeDesc → Option AV → Option AV → Option Bool
  | some (.int _), some (.v (.int k a)), some (.v (.int k' b)) => bif k == k' then some (a == b) else none
  | some .bool, some (.v (.bool a)), some (.v (.bool b)) => some (a == b)
  | some .string, some (.v (.string a)), some (.v (.string b)) => some (a == b)
  | _, _, _ => none
def eqFlds (P : Program) (cs ds : List AV) : List Field → Option Bool
  | [] => some true
  | f :: r => bif decide (f.name ≠ "_") then (match scalEq (P.underlying f.type) cs[f.offset]? ds[f.offset]?, eqFlds P cs ds r with
    | some a, some b => some (a && b)
    | _, _ => none) else eqFlds P cs ds r
def evEqAgg {R : Type} (P : Program) (o : Oper) (op : BinOp) (t : TypeId) (x y : Operand) (st : St) (K : X → St → Option R) : Option R :=
  match P.underlying t, opnd st x, opnd st y with
  | some (.struct fs), some (.agg cs), some (.agg ds) => bif !(P.stoodInHeld t) && !(P.eqGuardType P.depth t) then (match eqFlds P cs ds fs.toList, op with
    | some r, .eql => fin o st K (.v (.bool r))
    | some r, .neq => fin o st K (.v (.bool !r))
    | _, _ => none) else none
  | _, _, _ => none
def bothAgg : Option AV → Option AV → Bool
  | some (.agg _), some (.agg _) => true
  | _, _ => false
theorem scalEq_ok {P : Program} {w : World} {f : Field} {cs ds : List AV} {r : Bool} (h : scalEq (P.underlying f.type) cs[f.offset]? ds[f.offset]? = some r) {xs ys : Array Value} {ok : Nat → Prop} {B : Nat} {ι : Loci}
    (hx : xs.size = cs.length ∧ ∀ i, i < cs.length → Rep w ok B ι (cs.getD i default) (xs.getD i undef)) (hy : ys.size = ds.length ∧ ∀ i, i < ds.length → Rep w ok B ι (ds.getD i default) (ys.getD i undef)) (d : Nat) :
    ∃ a b, (part f.type xs f.offset).run P w = .ok a w ∧ (part f.type ys f.offset).run P w = .ok b w ∧ (Op.equalIn (d + 1) f.type a b).run P w = .ok r w := by
  have get : ∀ {cs : List AV} {xs : Array Value} {v : Value}, (xs.size = cs.length ∧ ∀ i, i < cs.length → Rep w ok B ι (cs.getD i default) (xs.getD i undef)) → cs[f.offset]? = some (.v v) → isAggT P f.type = false → (∃ dd, P.underlying f.type = some dd) →
      (part f.type xs f.offset).run P w = .ok v w := by
    intro cs xs v hx hc hag hu
    obtain ⟨dd, hu⟩ := hu
    obtain ⟨hlt, he⟩ := List.getElem?_eq_some_iff.1 hc
    have hr := hx.2 _ hlt
    rw [List.getD_eq_getElem?_getD, hc] at hr
    have hv := rep_v_inv hr
    have hlt' : f.offset < xs.size := by rw [hx.1]; exact hlt
    unfold part
    rw [run_ok (run_isAgg hu), hag]
    have e : xs[f.offset]? = some v := by
      rw [Array.getElem?_eq_getElem hlt']
      rw [Array.getD_eq_getD_getElem?, Array.getElem?_eq_getElem hlt'] at hv
      exact congrArg some hv
    simp only [Bool.false_eq_true, if_false, e]
    rfl
  unfold scalEq at h
  split at h
  · rename_i kk k a k' b hu hc hd
    obtain ⟨hk, h⟩ := cond_none h
    injection h with h; subst h
    have hk : k = k' := by simpa using hk
    subst hk
    have hag : isAggT P f.type = false := by unfold isAggT; rw [hu]
    exact ⟨_, _, get hx hc hag ⟨_, hu⟩, get hy hd hag ⟨_, hu⟩, run_equalIn_int w d f.type k kk a b hu⟩
  · rename_i a b hu hc hd
    injection h with h; subst h
    have hag : isAggT P f.type = false := by unfold isAggT; rw [hu]
    exact ⟨_, _, get hx hc hag ⟨_, hu⟩, get hy hd hag ⟨_, hu⟩, run_equalIn_bool' w d f.type a b hu⟩
  · rename_i a b hu hc hd
    injection h with h; subst h
    have hag : isAggT P f.type = false := by unfold isAggT; rw [hu]
    refine ⟨_, _, get hx hc hag ⟨_, hu⟩, get hy hd hag ⟨_, hu⟩, ?_⟩
    rw [beq_toListBytes]
    exact run_equalIn_string w d f.type a b hu
  · cases h
theorem eqFlds_ok {P : Program} {w : World} {cs ds : List AV} {xs ys : Array Value} {ok : Nat → Prop} {B : Nat} {ι : Loci}
    (hx : xs.size = cs.length ∧ ∀ i, i < cs.length → Rep w ok B ι (cs.getD i default) (xs.getD i undef)) (hy : ys.size = ds.length ∧ ∀ i, i < ds.length → Rep w ok B ι (ds.getD i default) (ys.getD i undef)) (d : Nat) :
    ∀ (fs : List Field) (r : Bool), eqFlds P cs ds fs = some r → (Op.eqFields (d + 1) xs ys fs).run P w = .ok r w
  | [], r, h => by injection h with h; subst h; rfl
  | f :: fs, r, h => by
    unfold eqFlds at h
    unfold Op.eqFields
    by_cases hn : f.name ≠ "_"
    · rw [if_pos hn]
      rw [decide_eq_true hn] at h
      have h : (match scalEq (P.underlying f.type) cs[f.offset]? ds[f.offset]?, eqFlds P cs ds fs with
        | some a, some b => some (a && b)
        | _, _ => none) = some r := h
      split at h
      · rename_i a b h1 h2
        injection h with h; subst h
        obtain ⟨p, q, g1, g2, g3⟩ := scalEq_ok h1 hx hy d
        rw [run_ok g1, run_ok g2, run_ok g3]
        cases a
        · rfl
        · have := eqFlds_ok hx hy d fs b h2
          simpa using this
      · cases h
    · rw [if_neg hn]
      rw [decide_eq_false hn] at h
      exact eqFlds_ok hx hy d fs r h
theorem evEqAgg_fin {R : Type} {P : Program} {o : Oper} {st : St} {K : X → St → Option R} {r : R} {op : BinOp} {t t' : TypeId} {x y : Operand} (ho : o.op = .binOp op t x y t') (h : evEqAgg P o op t x y st K = some r) : Fin P o st K r := by
  unfold evEqAgg at h
  split at h
  · rename_i fs cs ds hu hx hy
    obtain ⟨hg, h⟩ := cond_none h
    rw [Bool.and_eq_true] at hg
    have hst : P.stoodInHeld t = false := by simpa using hg.1
    have hgt : P.eqGuardType P.depth t = false := by simpa using hg.2
    have key : ∀ {r' : Bool}, eqFlds P cs ds fs.toList = some r' → ∀ {G ι ok a'} {w : World}, SimI G ι ok st a' w → ∃ xs ys, a'.eval x = .agg xs ∧ a'.eval y = .agg ys ∧ (Op.equalIn 10000 t (.agg xs) (.agg ys)).run P w = .ok r' w := by
      intro r' hr G ι ok a' w hs
      obtain ⟨xs, e1, x1, x2⟩ := rep_agg_inv (hs.opnd hx)
      obtain ⟨ys, e2, y1, y2⟩ := rep_agg_inv (hs.opnd hy)
      refine ⟨xs, ys, e1, e2, ?_⟩
      have hf : P.fieldsOf t = fs := by unfold Program.fieldsOf; rw [hu]
      rw [run_equalIn_struct w 9999 t xs ys (by rw [hf]; exact hu) hst, hf]
      exact eqFlds_ok ⟨x1, x2⟩ ⟨y1, y2⟩ 9998 _ _ hr
    cases hr : eqFlds P cs ds fs.toList with
    | none => rw [hr] at h; cases op <;> cases h
    | some r' =>
    rw [hr] at h
    cases op with
    | eql =>
      refine fin_intro h (fun G ι ok a' w hs => ?_)
      obtain ⟨xs, ys, e1, e2, e3⟩ := key hr hs
      refine ⟨.bool r', ?_, .v _⟩
      refine exec_bin ho (by rw [e1, e2]; exact run_eqGuard_agg w _ _ _ _ _ _ hgt) ?_
      rw [e1, e2, run_eql_struct, e3]; rfl
    | neq =>
      refine fin_intro h (fun G ι ok a' w hs => ?_)
      obtain ⟨xs, ys, e1, e2, e3⟩ := key hr hs
      refine ⟨.bool (!r'), ?_, .v _⟩
      refine exec_bin ho (by rw [e1, e2]; exact run_eqGuard_agg w _ _ _ _ _ _ hgt) ?_
      rw [e1, e2, run_neq_struct, e3]; rfl
    | _ => cases h
  · cases h
end Go.Ev

namespace Go.Ev
set_option linter.unusedSimpArgs false
set_option linter.unusedVariables false
/-! ### a literal slice whose elements are pointers (or other single cells): a slice over a block of cells -/
def isCsl : Option AV → Bool
  | some (.csl _ _) => true
  | _ => false
/-- does a literal's part point to an object? -/
def ptrish : Option AV → Bool
  | some (.ptr _ _) => true
  | some (.v (.pointer _)) => true
  | _ => false
section
variable {R : Type}
def evBuildCsl (P : Program) (o : Oper) (t : TypeId) (len : Nat) (parts : Array (Nat × Operand)) (st : St) (K : X → St → Option R) : Option R :=
  match P.underlying t, partsOf st parts.toList with
  | some (.slice e), some ps => match P.info? e with
    | some i => match i.zero with
      | some z => bif Nat.ble len 16777216 && (Nat.beq i.size 1 && (Nat.beq (ofVal z).cells.length 1 && (Nat.blt 0 len && (ofVal z).cells.all leafOk))) then (match fillA (fun j => some (j * i.size, i.size)) (zeroFlat (ofVal z).cells len) ps with
        | some flat => fin o (newCells st flat) K (.csl st.nk len)
        | none => none) else none
      | none => none
    | none => none
  | _, _ => none
def evIxCsl (P : Program) (o : Oper) (t : TypeId) (x i : Operand) (st : St) (K : X → St → Option R) : Option R :=
  match P.underlying t, opnd st x, opnd st i with
  | some (.slice e), some (.csl k m), some (.v (.int _ n)) => match P.info? e with
    | some inf => bif Nat.beq inf.size 1 then (bif decide (0 ≤ n) && decide (n < (m : Int)) then fin o st K (.ptr k n.toNat) else none) else none
    | none => none
  | _, _, _ => none
def evLenCsl (P : Program) (o : Oper) (t : TypeId) (x : Operand) (st : St) (K : X → St → Option R) : Option R :=
  match P.underlying t, opnd st x with
  | some (.slice _), some (.csl _ m) => fin o st K (.v (.int .i64 (m : Int)))
  | _, _ => none
end
section
variable {R : Type} {P : Program} {o : Oper} {st : St} {K : X → St → Option R} {r : R}
theorem evBuildCsl_ok {t : TypeId} {len : Nat} {parts : Array (Nat × Operand)} (ho : o.op = .buildSlice t len parts) (h : evBuildCsl P o t len parts st K = some r) : ∃ x st', RunsOp P o st x st' ∧ K x st' = some r := by
  unfold evBuildCsl at h
  split at h
  · rename_i e ps hu hps
    split at h
    · rename_i i hi
      split at h
      · rename_i z hz
        obtain ⟨hc, h⟩ := cond_none h
        simp only [Bool.and_eq_true] at hc
        have hle0 : len ≤ 16777216 := Nat.le_of_ble_eq_true hc.1
        have es := beq_eq hc.2.1
        have e1' := beq_eq hc.2.2.1
        have hle : len * i.size ≤ 16777216 := by rw [es, Nat.mul_one]; exact hle0
        have e1 : (ofVal z).cells.length = i.size := e1'.trans es.symm
        have hpos : 0 < i.size := by omega
        have hlen : 0 < len := by have := hc.2.2.2.1; simpa [Nat.blt_eq] using this
        split at h
        · rename_i flat hflat
          refine runs_new h (fun G ι ok a w hs => ?_)
          obtain ⟨c1, c2, _⟩ := rep_cells (rep_ofVal (w := w) (ok := ok) (B := G.B) (ι := ι) z) hc.2.2.2.2
          obtain ⟨p1, p2⟩ := partsOf_ok hs _ _ hps
          have hzc : 0 < (ofVal z).cells.length := by omega
          obtain ⟨vs', k1, k2, k3, k4⟩ := fillA_ok (w := w) (ok := ok) (B := G.B) (ι := ι) (vs := (Array.range (len * i.size)).map (fun q => z.cells[q % z.cells.size]!)) (vparts := parts.toList.map fun p => (p.1, a.eval p.2)) hflat
            (by simp [zeroFlat_length, e1]) (fun q hq => by
              rw [zeroFlat_length] at hq
              rw [zeroFlat_getD _ hzc _ _ hq]
              have hq2 : q < len * i.size := by rw [← e1]; exact hq
              have hm : q % (ofVal z).cells.length < (ofVal z).cells.length := Nat.mod_lt _ hzc
              have := c2 _ hm
              have e2 : ((Array.range (len * i.size)).map (fun q => z.cells[q % z.cells.size]!)).getD q undef = z.cells.getD (q % (ofVal z).cells.length) undef := by
                have hm2 : q % z.cells.size < z.cells.size := by rw [c1]; exact hm
                simp only [Array.getD_eq_getD_getElem?, Array.getElem?_map, Array.getElem?_range]
                rw [← c1]
                simp [hq2, getElem!_pos, hm2]
              rw [e2]; exact this) p1 p2
          refine ⟨.slice (some ⟨w.heap.size, 0, none⟩) len len, _, _, ?_, newCells_ok hs e k2 k4, .csl (L := ⟨w.heap.size, 0, e, 1⟩) (Loci.set_same _ _ _)⟩
          unfold execOp; rw [ho]
          refine exec_v ?_
          have epl : (parts.map fun (i, x) => (i, a.eval x)).toList = parts.toList.map fun p => (p.1, a.eval p.2) := by simp
          unfold Instr.buildSlice
          rw [run_ok (run_under hu)]
          simp only
          rw [run_ok (run_size hi), if_neg (by omega)]
          have h0 : ¬ len * i.size = 0 := by rw [es, Nat.mul_one]; omega
          rw [if_neg h0, run_ok (run_zero hi hz)]
          have hp : (pure z.cells : Sem (Array Value)).run P w = .ok z.cells w := rfl
          first | rw [run_ok hp] | skip
          rw [epl, k1]; rfl
        · cases h
      · cases h
    · cases h
  · cases h
theorem evIxCsl_any {t : TypeId} {x i : Operand} (ho : o.op = .indexAddr t x i) (h : evIxCsl P o t x i st K = some r) : FinAny P o st K r := by
  unfold evIxCsl at h
  split at h
  · rename_i e k m kk n hu hy hi
    split at h
    · rename_i inf hinf
      obtain ⟨e1, h⟩ := cond_none h
      obtain ⟨e2, h⟩ := cond_none h
      have e1 := beq_eq e1
      have e2 : 0 ≤ n ∧ n < (m : Int) := by simpa using e2
      refine finAny_intro h (fun G ι ok a w hs => ?_)
      have hv := hs.opnd hy
      generalize hav : a.eval x = v at hv
      cases hv with
      | csl g =>
        rename_i L
        refine ⟨.pointer (some ⟨L.b, n.toNat, none⟩), fun w' => ?_, .ptr g⟩
        unfold execOp; rw [ho]
        refine exec_v ?_
        rw [hav, rep_v_inv (hs.opnd hi)]
        unfold Instr.indexAt
        have hk : (asIntOf (.int kk n)).run P w' = .ok (kk, n) w' := rfl
        rw [run_ok hk, run_ok (run_under hu)]
        have hp : (pure (some ⟨L.b, 0, none⟩, m, e) : Sem (Option Addr × Nat × TypeId)).run P w' = .ok (some ⟨L.b, 0, none⟩, m, e) w' := rfl
        simp only
        first | rw [run_ok hp] | skip
        rw [run_ok (run_under hu)]
        simp only
        rw [if_pos ⟨e2.1, e2.2⟩, run_ok (run_size hinf), addr_add, e1, Nat.mul_one, Nat.zero_add]; rfl
    · cases h
  · cases h
theorem evLenCsl_fin {t : TypeId} {x : Operand} {ats : Array TypeId} (ho : o.op = .call { callee := .builtin .len, args := #[x], argTypes := ats }) (hat : ats[0]? = some t) (h : evLenCsl P o t x st K = some r) :
    Fin P o st K r := by
  unfold evLenCsl at h
  split at h
  · rename_i e k m hu hy
    refine fin_intro h (fun G ι ok a w hs => ⟨_, ?_, .v _⟩)
    rw [exec_builtin ho, show (#[x].map a.eval) = #[a.eval x] by simp]
    refine exec_v ?_
    have hv := hs.opnd hy
    generalize hav : a.eval x = v at hv
    cases hv with
    | csl g =>
      rename_i L
      unfold Builtin.len_
      rw [hat]
      show (do match ← underlying t, Value.slice (some ⟨L.b, 0, none⟩) m m with | _, _ => _ : Sem Value).run P w = _
      rw [run_ok (run_under hu)]; rfl
  · cases h
end
end Go.Ev

namespace Go.Ev
set_option linter.unusedSimpArgs false
set_option linter.unusedVariables false
/-- one operation -/
def orElse {R : Type} (a b : Option R) : Option R := match a with | some r => some r | none => b
def isStrOrInt (P : Program) (t : TypeId) : Bool :=
  match P.underlying t with
  | some (.slice _) => false
  | _ => true
def isArr (P : Program) (t : TypeId) : Bool :=
  match P.underlying t with
  | some (.array _ _) => true
  | _ => false
def isEptr : Option AV → Bool
  | some (.eptr ..) => true
  | _ => false
def nilish : Option AV → Bool
  | some (.v .nilIface) => true
  | some (.v (.pointer none)) => true
  | some .nils => true
  | some (.iface _ _) => true
  | some (.ptr _ _) => true
  | some (.mp _) => true
  | some (.v (.map none)) => true
  | _ => false
def evOp {R : Type} (P : Program) (O : FuncId → Option (CallF R)) : EvO R := fun o st K =>
  match o.op with
  | .move x => evMove o x st K
  | .assign x => evMove o x st K
  | .pick c a b => evPick o c a b st K
  | .alloc t => evAlloc P o t st K
  | .box t x => evBox o t x st K
  | .build t ps => evBuild P o t ps st K
  | .buildSlice t n ps => bif ps.toList.any (fun p => ptrish (opnd st p.2)) then evBuildCsl P o t n ps st K else evBuildSlice P o t n ps (frzOpnds st (ps.toList.map (·.2))) K
  | .load t x => evLoad P o t x st K
  | .store t x y => bif isEptr (opnd st x) then evStore2 P o t x y (frzOpnd st y) K else evStore P o t x y st K
  | .nilCheck x => evNilCheck o x st K
  | .binOp op t x y _ => bif bothAgg (opnd st x) (opnd st y) then evEqAgg P o op t x y st K else bif isOwnN (opndR st x) && isNilsA (opnd st y) then evEqN P o op t x y st K else bif nilish (opnd st x) && nilish (opnd st y) then evEqNil P o op t x y st K else bif isRowA (opnd st x) && isNilsA (opnd st y) then evEqSl P o op t x y st K else evBin P o op t x y st K
  | .typeAssert x _ t c => evAssert P o x t c st K
  | .defer c => match c.callee with
    | .value f => evDefer o f c.args st K
    | _ => none
  | .unOp op _ x => evUn o op x st K
  | .convert s d x => bif isStrOrInt P s && isStrOrInt P d then evConv P o s d x st K else bif isStrOrInt P s || isStrOrInt P d then evConv2 P o s d x st K else evConvId P o s d x st K
  | .makeSlice t x y => evMake P o t x y st K
  | .makeMap _ res => evMakeMap o res st K
  | .lookup t x i c => evLookup P o t x i c st K
  | .mapUpdate t m i v => evMapUpdate P o t m i v st K
  | .insert t m i v => evMapUpdate P o t m i v st K
  | .makeInterface t x => evIface P o t x st K
  | .makeFunc f a b => evFunc o f a b st K
  | .slice t x lo hi mx => match mx with
    | none => evSlice P o t x lo hi st K
    | some m => evSlice3 P o t x lo hi (some m) st K
  | .fieldAddr s x f => evFieldAddr P o s x f st K
  | .field s x f => evField P o s x f st K
  | .indexAddr t x i => bif isCsl (opnd st x) then evIxCsl P o t x i st K else evIndexAddr P o t x i st K
  | .index t x i => bif isArr P t then evIndexArr P o t x i st K else evIndex P o t x i st K
  | .range t x => evRange P o t x st K
  | .next x b => evNext o x b st K
  | .extract x i => evExtract o x i st K
  | .panic x => evPanic x st K
  | .call c => match c.callee with
    | .value f => evCallX P O o f c.args st K
    | .builtin b => match b, c.args.toList, c.argTypes.toList with
      | .len, [x], t :: _ => bif isCsl (opnd st x) then evLenCsl P o t x st K else evLen P o t x st K
      | .cap, [x], t :: _ => evCap P o t x st K
      | .append, [s, x], [t1, t2] => evAppend P o t1 t2 s x st K
      | .copy, [x, y], [t, _] => evCopy P o t x y st K
      | .delete, [x, y], [t, _] => evDelete P o t x y st K
      | .min, [x, y], _ => evMin o x y st K
      | .max, [x, y], _ => evMax o x y st K
      | _, _, _ => none
    | _ => none
  | _ => none
theorem evIndexAddr_any {R : Type} {P : Program} {o : Oper} {st : St} {K : X → St → Option R} {r : R} {t : TypeId} {x i : Operand} (ho : o.op = .indexAddr t x i) (h : evIndexAddr P o t x i st K = some r) :
    FinAny P o st K r := by
  unfold evIndexAddr at h
  split at h
  · rename_i e y k n hu hy hi
    split at h
    · rename_i inf hinf
      -- an index within a slice
      have run : ∀ {G ι ok a w}, SimI G ι ok st a w → ∀ (b q len c : Nat), a.eval x = .slice (some ⟨b, q, none⟩) len c → 0 ≤ n → n < (len : Int) → ∀ w', (execOp a.eval o).run P w' = .ok (.value (.pointer (some ⟨b, q + n.toNat * inf.size, none⟩))) w' := by
        intro G ι ok a w hs b q len c hv h0 h1 w'
        unfold execOp; rw [ho]
        refine exec_v ?_
        rw [hv, rep_v_inv (hs.opnd hi)]
        unfold Instr.indexAt
        have hk : (asIntOf (.int k n)).run P w' = .ok (k, n) w' := rfl
        rw [run_ok hk, run_ok (run_under hu)]
        have hp : (pure (some ⟨b, q, none⟩, len, e) : Sem (Option Addr × Nat × TypeId)).run P w' = .ok (some ⟨b, q, none⟩, len, e) w' := rfl
        simp only
        first | rw [run_ok hp] | skip
        rw [run_ok (run_under hu)]
        simp only
        rw [if_pos ⟨h0, h1⟩, run_ok (run_size hinf), addr_add]; rfl
      split at h
      · rename_i kk
        split at h
        · rename_i ow l hk
          obtain ⟨e1, h⟩ := cond_none h
          obtain ⟨e2, h⟩ := cond_none h
          have e1 := beq_eq e1
          have e2 : 0 ≤ n ∧ n < (l.length : Int) := by simpa using e2
          refine finAny_intro h (fun G ι ok a w hs => ?_)
          obtain ⟨L, h1, h2, h3, h4⟩ := hs.objs _ _ hk
          have hv := hs.opnd hy
          generalize hav : a.eval x = v at hv
          cases hv with
          | own g g1 =>
            rw [h1] at g; injection g with g; subst g
            refine ⟨_, run hs _ _ _ _ hav e2.1 (by rw [h2]; exact e2.2), ?_⟩
            have := Rep.eptr (w := w) (ok := ok) (B := G.B) (ι := ι) (k := kk) (sz := l.sz) (i := n.toNat) (j := 0) h1 (by omega) g1
            rw [Nat.add_zero] at this
            rw [e1]; exact this
          | own0 g g1 g2 =>
            rw [h1] at g; injection g with g; subst g
            omega
        · cases h
      · rename_i kk sz off len
        obtain ⟨e1, h⟩ := cond_none h
        obtain ⟨e2, h⟩ := cond_none h
        have e1 := beq_eq e1
        have e2 : 0 ≤ n ∧ n < (len : Int) := by simpa using e2
        refine finAny_intro h (fun G ι ok a w hs => ?_)
        have hv := hs.opnd hy
        generalize hav : a.eval x = v at hv
        cases hv with
        | sl g g1 g2 g3 g4 =>
          rename_i c L
          refine ⟨_, run hs _ _ _ _ hav e2.1 e2.2, ?_⟩
          have := Rep.eptr (w := w) (ok := ok) (B := G.B) (ι := ι) (k := kk) (sz := sz) (i := off + n.toNat) (j := 0) g (by omega) (by omega)
          rw [Nat.add_zero, Nat.add_mul, ← Nat.add_assoc] at this
          rw [e1]; exact this
        | sl0 g g1 g2 => omega
      · rename_i nw l
        obtain ⟨e1, h⟩ := cond_none h
        obtain ⟨e2, h⟩ := cond_none h
        have e1 := beq_eq e1
        have e2 : 0 ≤ n ∧ n < (l.length : Int) := by simpa using e2
        refine finAny_intro h (fun G ι ok a w hs => ?_)
        have hv := hs.opnd hy
        generalize hav : a.eval x = v at hv
        cases hv with
        | ro val a1 a2 a3 a4 a5 a6 a7 a8 a9 =>
          rename_i ad nn c
          obtain ⟨b, ob, s⟩ := ad
          simp only at a6; subst a6
          have hn : n.toNat < nn := by omega
          refine ⟨_, run hs _ _ _ _ hav e2.1 (by omega), ?_⟩
          have := Rep.rp (w := w) (ok := ok) (B := G.B) (ι := ι) (x := l.elem n.toNat) (j := 0) (b := b) (o := ob + n.toNat * l.sz) (fun q => val n.toNat q) a4
            (fun q hq => by rw [a9 _ hn] at hq; rw [Nat.add_assoc]; exact a7 n.toNat q hn hq) (fun q hq => by rw [a9 _ hn] at hq; exact a8 n.toNat q hn hq)
          rw [Nat.add_zero] at this
          rw [e1]; exact this
        | ro0 a1 a2 => omega
      · cases h
    · cases h
  · cases h
theorem evIndexAddr_fin {R : Type} {P : Program} {o : Oper} {st : St} {K : X → St → Option R} {r : R} {t : TypeId} {x i : Operand} (ho : o.op = .indexAddr t x i) (h : evIndexAddr P o t x i st K = some r) :
    Fin P o st K r := (evIndexAddr_any ho h).fin
theorem evIndexAddr_ok {R : Type} {P : Program} {o : Oper} {st : St} {K : X → St → Option R} {r : R} {t : TypeId} {x i : Operand} (ho : o.op = .indexAddr t x i) (h : evIndexAddr P o t x i st K = some r) :
    ∃ x st', RunsOp P o st x st' ∧ K x st' = some r := (evIndexAddr_fin ho h).ok
theorem evOp_ok {R : Type} {P : Program} {O : FuncId → Option (CallF R)} (hO : OOK P O) : EOK P (evOp P O) := by
  intro o st K r h
  unfold evOp at h
  split at h
  · exact evMove_ok (.inl ‹_›) h
  · exact evMove_ok (.inr ‹_›) h
  · exact evPick_ok ‹_› h
  · exact evAlloc_ok ‹_› h
  · exact evBox_ok ‹_› h
  · exact evBuild_ok ‹_› h
  · rename_i t n ps ho
    cases hb : ps.toList.any (fun p => ptrish (opnd st p.2)) <;> rw [hb] at h <;> simp only [cond_true, cond_false] at h
    · obtain ⟨x, st', h1, h2⟩ := evBuildSlice_ok ho h
      exact ⟨x, st', runs_frz (frzOpnds_sim _) h1, h2⟩
    · exact evBuildCsl_ok ho h
  · exact evLoad_ok ‹_› h
  · rename_i t x y ho
    cases hb : isEptr (opnd st x) <;> rw [hb] at h <;> simp only [cond_true, cond_false] at h
    · exact evStore_ok ho h
    · obtain ⟨x, st', h1, h2⟩ := evStore2_ok ho h
      exact ⟨x, st', runs_frz (frzOpnd_sim _) h1, h2⟩
  · exact evNilCheck_ok ‹_› h
  · rename_i op t x y t' ho
    cases hba : bothAgg (opnd st x) (opnd st y) <;> rw [hba] at h <;> simp only [cond_true, cond_false] at h
    case true => exact (evEqAgg_fin ho h).ok
    cases hb0 : (isOwnN (opndR st x) && isNilsA (opnd st y)) <;> rw [hb0] at h <;> simp only [cond_true, cond_false] at h
    · cases hb : (nilish (opnd st x) && nilish (opnd st y)) <;> rw [hb] at h <;> simp only [cond_true, cond_false] at h
      · cases hb2 : (isRowA (opnd st x) && isNilsA (opnd st y)) <;> rw [hb2] at h <;> simp only [cond_true, cond_false] at h
        · exact evBin_ok ho h
        · exact (evEqSl_fin ho h).ok
      · exact evEqNil_ok ho h
    · exact (evEqN_fin ho h).ok
  · exact evAssert_ok ‹_› h
  · rename_i c ho
    split at h
    · exact evDefer_ok ho ‹_› rfl h
    · cases h
  · exact evUn_ok ‹_› h
  · rename_i s d x ho
    cases hb : (isStrOrInt P s && isStrOrInt P d) <;> rw [hb] at h <;> simp only [cond_true, cond_false] at h
    · cases hb2 : (isStrOrInt P s || isStrOrInt P d) <;> rw [hb2] at h <;> simp only [cond_true, cond_false] at h
      · exact evConvId_ok ho h
      · exact evConv2_ok ho h
    · exact evConv_ok ho h
  · exact evMake_ok ‹_› h
  · exact evMakeMap_ok ‹_› h
  · exact evLookup_ok ‹_› h
  · exact evMapUpdate_ok (.inl ‹_›) h
  · exact evMapUpdate_ok (.inr ‹_›) h
  · exact evIface_ok ‹_› h
  · exact evFunc_ok ‹_› h
  · rename_i t x lo hi mx ho
    split at h
    · exact evSlice_ok ho h
    · exact (evSlice3_fin ho h).ok
  · exact evFieldAddr_ok ‹_› h
  · exact evField_ok ‹_› h
  · rename_i t x i ho
    cases hb : isCsl (opnd st x) <;> rw [hb] at h <;> simp only [cond_true, cond_false] at h
    · exact evIndexAddr_ok ho h
    · exact (evIxCsl_any ho h).fin.ok
  · rename_i t x i ho
    cases hb : isArr P t <;> rw [hb] at h <;> simp only [cond_true, cond_false] at h
    · exact evIndex_ok ho h
    · exact evIndexArr_ok ho h
  · exact evRange_ok ‹_› h
  · exact evNext_ok ‹_› h
  · exact evExtract_ok ‹_› h
  · exact evPanic_ok ‹_› h
  · rename_i c ho
    obtain ⟨cal, args, ats⟩ := c
    simp only at h
    split at h
    · exact evCallX_ok hO ho h
    · split at h
      · rename_i x t rest h1 h2
        have e1 : args = #[x] := by
          apply Array.ext'; simpa using h1
        subst e1
        have e2 : ats[0]? = some t := by
          rw [← Array.getElem?_toList, h2]; rfl
        cases hb : isCsl (opnd st x) <;> rw [hb] at h <;> simp only [cond_true, cond_false] at h
        · exact evLen_ok ho e2 h
        · exact (evLenCsl_fin ho e2 h).ok
      · rename_i x t rest h1 h2
        have e1 : args = #[x] := by
          apply Array.ext'; simpa using h1
        subst e1
        have e2 : ats[0]? = some t := by
          rw [← Array.getElem?_toList, h2]; rfl
        exact evCap_ok ho e2 h
      · rename_i s x t1 t2 h1 h2
        have e1 : args = #[s, x] := by
          apply Array.ext'; simpa using h1
        subst e1
        have e2 : ats = #[t1, t2] := by
          apply Array.ext'; simpa using h2
        exact evAppend_ok e2 ho h
      · rename_i x y t t2 h1 h2
        have e1 : args = #[x, y] := by
          apply Array.ext'; simpa using h1
        subst e1
        have e2 : ats = #[t, t2] := by
          apply Array.ext'; simpa using h2
        subst e2
        exact evCopy_ok ho h
      · rename_i x y t t2 h1 h2
        have e1 : args = #[x, y] := by
          apply Array.ext'; simpa using h1
        subst e1
        have e2 : ats = #[t, t2] := by
          apply Array.ext'; simpa using h2
        subst e2
        exact evDelete_ok ho h
      · rename_i x y h1
        have e1 : args = #[x, y] := by
          apply Array.ext'; simpa using h1
        subst e1
        exact evMin_ok ho h
      · rename_i x y h1
        have e1 : args = #[x, y] := by
          apply Array.ext'; simpa using h1
        subst e1
        exact evMax_ok ho h
      · cases h
    · cases h
  · cases h
end Go.Ev

namespace Go.Ev
set_option linter.unusedSimpArgs false
set_option linter.unusedVariables false
/-! ### tables of functions and of pieces of code -/
def noO {R : Type} : FuncId → Option (CallF R) := fun _ => none
def consO {R : Type} (g : FuncId) (cf : CallF R) (O : FuncId → Option (CallF R)) : FuncId → Option (CallF R) := fun f => bif Nat.beq f g then some cf else O f
theorem OOK.nil {R : Type} {P : Program} : OOK (R := R) P noO := fun f cf h => by cases h
def hasBody (P : Program) (g : FuncId) : Bool :=
  match P.funcs[g]? with
  | some fnc => !fnc.body.isNone && !(fnc.name == "runtime.NumGoroutine")
  | none => false
theorem OOK.cons {R : Type} {P : Program} {g : FuncId} {cf : CallF R} {O : FuncId → Option (CallF R)} (hb : hasBody P g = true) (hc : CFOK P g cf) (hO : OOK P O) : OOK P (consO g cf O) := by
  intro f cf' h
  unfold consO at h
  cases hb' : Nat.beq f g <;> rw [hb'] at h <;> simp only [cond_true, cond_false] at h
  · exact hO f cf' h
  · injection h with h; subst h
    have := beq_eq hb'; subst this
    refine ⟨?_, hc⟩
    unfold hasBody at hb
    split at hb
    · rename_i fnc hf
      rw [Bool.and_eq_true] at hb
      exact ⟨fnc, hf, by have := hb.1; simpa using this, by have := hb.2; simpa using this⟩
    · cases hb
/-- the first where its template fits, else the second -/
def cfOr {R : Type} (na : Nat) (tin : Tmpl) (cf cf' : CallF R) : CallF R := fun args st K =>
  bif Nat.beq args.length na && (tin.free.dec ⟨na, st.nk, numbered args 0, st.ar, [], []⟩).isSome then cf args st K else cf' args st K
theorem cfOr_ok {R : Type} {P : Program} {f : FuncId} {na : Nat} {tin : Tmpl} {cf cf' : CallF R} (h : CFOK P f cf) (h' : CFOK P f cf') : CFOK P f (cfOr na tin cf cf') := by
  intro args st K r hr
  unfold cfOr at hr
  cases hb : (Nat.beq args.length na && (tin.free.dec ⟨na, st.nk, numbered args 0, st.ar, [], []⟩).isSome) <;> rw [hb] at hr
  · exact h' _ _ _ _ hr
  · exact h _ _ _ _ hr

/-- the same, arguments given up where the form asks it -/
def cfOrZ {R : Type} (na : Nat) (tin : Tmpl) (cf cf' : CallF R) : CallF R := fun args st K =>
  bif Nat.beq args.length na && (tin.free.dec ⟨na, st.nk, numbered (frzA tin.ts args st).1 0, (frzA tin.ts args st).2.ar, [], []⟩).isSome then cf args st K else cf' args st K
theorem cfOrZ_ok {R : Type} {P : Program} {f : FuncId} {na : Nat} {tin : Tmpl} {cf cf' : CallF R} (h : CFOK P f cf) (h' : CFOK P f cf') : CFOK P f (cfOrZ na tin cf cf') := by
  intro args st K r hr
  unfold cfOrZ at hr
  cases hb : (Nat.beq args.length na && (tin.free.dec ⟨na, st.nk, numbered (frzA tin.ts args st).1 0, (frzA tin.ts args st).2.ar, [], []⟩).isSome) <;> rw [hb] at hr
  · exact h' _ _ _ _ hr
  · exact h _ _ _ _ hr
def follow : List Bool → Code → Option Code
  | [], c => some c
  | b :: r, .seq x y => follow r (bif b then y else x)
  | b :: r, .cond _ x y => follow r (bif b then y else x)
  | b :: r, .block _ x => bif b then none else follow r x
  | b :: r, .loop x => bif b then none else follow r x
  | b :: r, .scope x => bif b then none else follow r x
  | _ :: _, _ => none
def ext (p : Nat) : List Bool → Nat
  | [] => p
  | b :: r => ext (bif b then 2 * p + 1 else 2 * p) r
/-- the way from the root to a place -/
def bitsF : Nat → Nat → List Bool → List Bool
  | 0, _, acc => acc
  | n + 1, q, acc => bif Nat.ble q 1 then acc else bitsF n (q / 2) (Nat.beq (q % 2) 1 :: acc)
def toBits (q : Nat) : List Bool := bitsF (q + 1) q []
theorem bitsF_ext' : ∀ (rv : List Bool) (p n : Nat) (acc : List Bool), 1 ≤ p → ext p rv.reverse < n → ∃ m, bitsF n (ext p rv.reverse) acc = bitsF m p (rv.reverse ++ acc) ∧ p < m := by
  intro rv
  induction rv with
  | nil => intro p n acc _ h; exact ⟨n, rfl, h⟩
  | cons b rv ih =>
    intro p n acc hp h
    rw [List.reverse_cons] at h ⊢
    generalize rv.reverse = l at h ih ⊢
    have e : ∀ (l : List Bool) (p : Nat), ext p (l ++ [b]) = bif b then 2 * ext p l + 1 else 2 * ext p l := by
      intro l
      induction l with
      | nil => intro p; rfl
      | cons c l ih => intro p; exact ih _
    have hge : ∀ (l : List Bool) (p : Nat), p ≤ ext p l := by
      intro l
      induction l with
      | nil => intro p; exact Nat.le_refl _
      | cons c l ih => intro p; refine Nat.le_trans ?_ (ih _); cases c <;> simp <;> omega
    have h1 := hge l p
    rw [e] at h ⊢
    cases n with
    | zero => cases b <;> simp at h <;> omega
    | succ n =>
      have hd : bitsF (n + 1) (bif b then 2 * ext p l + 1 else 2 * ext p l) acc = bitsF n (ext p l) (b :: acc) := by
        have h2 : Nat.ble (bif b then 2 * ext p l + 1 else 2 * ext p l) 1 = false := by
          cases hb : Nat.ble (bif b then 2 * ext p l + 1 else 2 * ext p l) 1 with
          | false => rfl
          | true => have := Nat.le_of_ble_eq_true hb; cases b <;> simp at this <;> omega
        show (bif Nat.ble _ 1 then acc else bitsF n (_ / 2) (Nat.beq (_ % 2) 1 :: acc)) = _
        rw [h2]
        cases b
        · simp only [cond_false]
          rw [show 2 * ext p l / 2 = ext p l by omega, show 2 * ext p l % 2 = 0 by omega]; rfl
        · simp only [cond_true, cond_false]
          rw [show (2 * ext p l + 1) / 2 = ext p l by omega, show (2 * ext p l + 1) % 2 = 1 by omega]; rfl
      rw [hd]
      obtain ⟨m, g1, g2⟩ := ih p n (b :: acc) hp (by cases b <;> simp at h <;> omega)
      exact ⟨m, by rw [g1]; simp, g2⟩
theorem bitsF_ext (l : List Bool) (p n : Nat) (acc : List Bool) (hp : 1 ≤ p) (h : ext p l < n) : ∃ m, bitsF n (ext p l) acc = bitsF m p (l ++ acc) ∧ p < m := by
  have := bitsF_ext' l.reverse p n acc hp (by rw [List.reverse_reverse]; exact h)
  rw [List.reverse_reverse] at this; exact this
theorem toBits_ext (l : List Bool) : toBits (ext 1 l) = l := by
  obtain ⟨m, h, hm⟩ := bitsF_ext l 1 (ext 1 l + 1) [] (Nat.le_refl _) (Nat.lt_succ_self _)
  unfold toBits
  rw [h]
  cases m with
  | zero => omega
  | succ m => simp [bitsF, Nat.ble]
def LH {R : Type} (P : Program) (body : Code) (L : EvL R) : Prop := ∀ q c f, follow (toBits q) body = some c → L q = some f → LOK P f c
theorem LH.nil {R : Type} {P : Program} {body : Code} : LH (R := R) P body (fun _ => none) := fun q c f _ h => by cases h
def consL {R : Type} (q : Nat) (f : St → (X → St → Option R) → Option R) (L : EvL R) : EvL R := fun p => bif Nat.beq p q then some f else L p
theorem LH.cons {R : Type} {P : Program} {body c : Code} {L : EvL R} {q : Nat} {f : St → (X → St → Option R) → Option R} (hc : follow (toBits q) body = some c) (hf : LOK P f c) (hL : LH P body L) : LH P body (consL q f L) := by
  intro q' c' f' h1 h2
  unfold consL at h2
  cases hb : Nat.beq q' q <;> rw [hb] at h2 <;> simp only [cond_true, cond_false] at h2
  · exact hL _ _ _ h1 h2
  · injection h2 with h2; subst h2
    have := beq_eq hb; subst this
    rw [hc] at h1; injection h1 with h1; subst h1; exact hf
theorem follow_append : ∀ (l l' : List Bool) (c : Code), follow (l ++ l') c = (follow l c).bind (follow l')
  | [], l', c => rfl
  | b :: r, l', c => by
    cases c <;> cases b <;> first | rfl | exact follow_append r l' _
theorem lgood_at {R : Type} {P : Program} {body : Code} {L : EvL R} (hL : LH P body L) : ∀ (c : Code) (l : List Bool), follow l body = some c → LGood P L (ext 1 l) c := by
  have key : ∀ {l : List Bool} {c : Code} {f}, follow l body = some c → L (ext 1 l) = some f → LOK P f c := by
    intro l c f h1 h2
    exact hL (ext 1 l) c f (by rw [toBits_ext]; exact h1) h2
  have ext_snoc : ∀ (l : List Bool) (b : Bool) (p : Nat), ext p (l ++ [b]) = bif b then 2 * ext p l + 1 else 2 * ext p l := by
    intro l b
    induction l with
    | nil => intro p; rfl
    | cons c l ih => intro p; exact ih _
  intro c
  induction c with
  | seq a b ih₁ ih₂ =>
    intro l h
    unfold LGood
    split
    · rename_i f hf; exact key h hf
    · have h1 := ih₁ (l ++ [false]) (by rw [follow_append, h]; rfl)
      have h2 := ih₂ (l ++ [true]) (by rw [follow_append, h]; rfl)
      rw [ext_snoc] at h1 h2
      exact ⟨h1, h2⟩
  | cond x a b ih₁ ih₂ =>
    intro l h
    unfold LGood
    split
    · rename_i f hf; exact key h hf
    · have h1 := ih₁ (l ++ [false]) (by rw [follow_append, h]; rfl)
      have h2 := ih₂ (l ++ [true]) (by rw [follow_append, h]; rfl)
      rw [ext_snoc] at h1 h2
      exact ⟨h1, h2⟩
  | block id a ih =>
    intro l h
    unfold LGood
    split
    · rename_i f hf; exact key h hf
    · have h1 := ih (l ++ [false]) (by rw [follow_append, h]; rfl)
      rw [ext_snoc] at h1
      exact h1
  | loop a ih =>
    intro l h
    unfold LGood
    split
    · rename_i f hf; exact key h hf
    · trivial
  | scope a ih =>
    intro l h
    unfold LGood
    split
    · rename_i f hf; exact key h hf
    · have h1 := ih (l ++ [false]) (by rw [follow_append, h]; rfl)
      rw [ext_snoc] at h1
      exact h1
  | region id ops draw =>
    intro l h
    unfold LGood
    split
    · rename_i f hf; exact .inl (key h hf)
    · trivial
  | rangeFunc g ps a b iha ihb =>
    intro l h
    unfold LGood
    split
    · rename_i f hf; exact key h hf
    · trivial
  | _ => intro l h; trivial
theorem lgood {R : Type} {P : Program} {body c : Code} {L : EvL R} {q : Nat} (hL : LH P body L) (h : follow (toBits q) body = some c) (hq : Nat.beq (ext 1 (toBits q)) q = true) : LGood P L q c := by
  have := lgood_at hL c (toBits q) h
  rw [beq_eq hq] at this; exact this
def loopBody : Code → Code
  | .loop c => c
  | c => c
def codeOr (q : Nat) (body : Code) : Code := match follow (toBits q) body with | some c => c | none => .skip
def bodyOf (f : Func) : Code := match f.body with | some c => c | none => .skip
end Go.Ev

namespace Go.Ev
set_option linter.unusedVariables false
/-! ### a scope in which the run jumps back to one label -/
def scopeRun {R : Type} (l n : Nat) (tin : Tmpl) (outs : Outs) (fn : tin.T → Option (ESum outs)) (first : St → (X → St → Option R) → Option R) : St → (X → St → Option R) → Option R := fun st K =>
  first st fun x st => match x with
    | .goto i => bif Nat.beq i l then lrun n tin outs fn st K else none
    | x => K x st
def decGoto (l n : Nat) (tin : Tmpl) (outs : Outs) (x : X) (st : St) : Option (tin.T ⊕ ESum outs) :=
  bif Nat.beq st.n n then (match x with
    | .goto i => bif Nat.beq i l then (match decT tin st with | some x => some (.inl x) | none => none) else none
    | x => match decOuts outs x st with | some y => some (.inr y) | none => none) else none
/-- What holds where the run stands at the label. -/
def AtLabel {tin : Tmpl} {outs : Outs} (step : tin.T → Option (tin.T ⊕ ESum outs)) (n : Nat) (G : Base) (Q : Exit → Act → World → Prop) (m : Nat) (a : Act) (w : World) : Prop :=
  ∃ x y, loopN step m x = some y ∧ Sim G (tin.enc n x) a w ∧ ∀ ex a' w', XSim G (outP n outs y).1 (outP n outs y).2 ex a' w' → Q ex a' w'
theorem not_goto {G : Base} {x : X} {st : St} {ex : Exit} {a : Act} {w : World} (hx : ∀ i, x ≠ .goto i) (h : XSim G x st ex a w) : ∀ i, ex ≠ .goto i := by
  intro i e
  cases x with
  | goto j => exact hx j rfl
  | normal => have := h.1; rw [e] at this; cases this
  | exit j => have := h.1; rw [e] at this; cases this
  | ret => have := h.1; rw [e] at this; cases this
  | pan v => obtain ⟨_, _, _, h1, _⟩ := h; rw [e] at h1; cases h1
theorem jump_of {l : Nat} {J : Act → World → Prop} {Q : Exit → Act → World → Prop} {ex : Exit} {a : Act} {w : World} (h : ∀ i, ex ≠ .goto i) (hq : Q ex a w) : Exit.jump l J Q ex a w := by
  cases ex <;> first | exact hq | exact absurd rfl (h _)
theorem lrun_some {R : Type} {n : Nat} {tin : Tmpl} {outs : Outs} {fn : tin.T → Option (ESum outs)} {st : St} {K : X → St → Option R} {r : R} (hr : lrun n tin outs fn st K = some r) :
    ∃ x y, st.n = n ∧ decT tin st = some x ∧ fn x = some y ∧ K (outP n outs y).1 (outP n outs y).2 = some r := by
  obtain ⟨e, hr⟩ := cond_none hr
  have e := beq_eq e
  split at hr
  · rename_i x hx
    cases hf : fn x with
    | none => rw [hf] at hr; cases hr
    | some y =>
      rw [hf] at hr
      have hr : outK n outs y K = some r := hr
      rw [outK_eq] at hr
      exact ⟨x, y, e, hx, hf, hr⟩
  · cases hr
theorem exists_min {p : Nat → Prop} (h : ∃ n, p n) : ∃ n, p n ∧ ∀ m, p m → n ≤ m := by
  obtain ⟨n, hn⟩ := h
  induction n using Nat.strongRecOn with
  | _ n ih =>
    by_cases c : ∃ m, m < n ∧ p m
    · obtain ⟨m, h1, h2⟩ := c; exact ih m h1 h2
    · exact ⟨n, hn, fun m hm => Nat.le_of_not_lt fun hlt => c ⟨m, hlt, hm⟩⟩
theorem decGoto_goto {l n : Nat} {tin : Tmpl} {outs : Outs} {ex : X} {st : St} {z : tin.T} (h : decGoto l n tin outs ex st = some (.inl z)) : st.n = n ∧ ex = .goto l ∧ decT tin st = some z := by
  obtain ⟨e, h⟩ := cond_none h
  have e := beq_eq e
  cases ex with
  | goto i =>
    have h : (bif Nat.beq i l then (match decT tin st with | some x => some (Sum.inl x) | none => none) else none) = some (Sum.inl (β := ESum outs) z) := h
    obtain ⟨e2, h2⟩ := cond_none h
    clear h
    have e2 := beq_eq e2; subst e2
    cases hd : decT tin st with
    | none => rw [hd] at h2; cases h2
    | some x => rw [hd] at h2; injection h2 with h2; injection h2 with h2; subst h2; exact ⟨e, rfl, rfl⟩
  | normal => have h : (match decOuts outs .normal st with | some y => some (Sum.inr y) | none => none) = some (Sum.inl (α := tin.T) z) := h; split at h <;> cases h
  | exit i => have h : (match decOuts outs (.exit i) st with | some y => some (Sum.inr y) | none => none) = some (Sum.inl (α := tin.T) z) := h; split at h <;> cases h
  | ret => have h : (match decOuts outs .ret st with | some y => some (Sum.inr y) | none => none) = some (Sum.inl (α := tin.T) z) := h; split at h <;> cases h
  | pan v => have h : (match decOuts outs (.pan v) st with | some y => some (Sum.inr y) | none => none) = some (Sum.inl (α := tin.T) z) := h; split at h <;> cases h
theorem decGoto_out {l n : Nat} {tin : Tmpl} {outs : Outs} {ex : X} {st : St} {y : ESum outs} (h : decGoto l n tin outs ex st = some (.inr y)) : st.n = n ∧ (∀ i, ex ≠ .goto i) ∧ decOuts outs ex st = some y := by
  obtain ⟨e, h⟩ := cond_none h
  have e := beq_eq e
  have other : (match decOuts outs ex st with | some y => some (Sum.inr y) | none => none) = some (Sum.inr (α := tin.T) y) → (∀ i, ex ≠ .goto i) → st.n = n ∧ (∀ i, ex ≠ .goto i) ∧ decOuts outs ex st = some y := by
    intro h hne
    cases hd : decOuts outs ex st with
    | none => rw [hd] at h; cases h
    | some z => rw [hd] at h; injection h with h; injection h with h; subst h; exact ⟨e, hne, rfl⟩
  cases ex with
  | goto i =>
    have h : (bif Nat.beq i l then (match decT tin st with | some x => some (Sum.inl x) | none => none) else none) = some (Sum.inr (α := tin.T) y) := h
    obtain ⟨e2, h⟩ := cond_none h
    cases hd : decT tin st with
    | none => rw [hd] at h; cases h
    | some x => rw [hd] at h; injection h with h; cases h
  | normal => exact other h (fun i e => by cases e)
  | exit i => exact other h (fun i e => by cases e)
  | ret => exact other h (fun i e => by cases e)
  | pan v => exact other h (fun i e => by cases e)
open Classical in
theorem scope_lok {R : Type} {P : Program} {c X : Code} {l n p : Nat} {tin : Tmpl} {outs : Outs} {step : tin.T → Option (tin.T ⊕ ESum outs)} {E : EvO (tin.T ⊕ ESum outs)} {L : EvL (tin.T ⊕ ESum outs)} {first : St → (Ev.X → St → Option R) → Option R}
    (hE : EOK P E) (hf : findLabel c l = some (.seq .skip X)) (hL : LGood P L p X) (h : ∀ x, evCode E L p X (tin.enc n x) (decGoto l n tin outs) = step x) (k : Nat) (h1 : LOK P first c) :
    LOK (R := R) P (scopeRun l n tin outs (loopN step k) first) (.scope c) := by
  intro st K r hr
  obtain ⟨x, st', hrun, hK⟩ := h1 _ _ _ hr
  have other : (∀ i, x ≠ .goto i) → K x st' = some r → ∃ x st', Runs P (.scope c) st x st' ∧ K x st' = some r := by
    intro hng hK
    refine ⟨x, st', fun G a w Q hs hq => ?_, hK⟩
    refine wp_scope_jumps l (fun _ _ => False) (fun _ _ => 0) hf ?_ (fun _ _ h => h.elim)
    exact hrun G a w _ hs (fun ex a' w' hx' => jump_of (not_goto hng hx') (hq ex a' w' hx'))
  cases x with
  | normal => exact other (fun i e => by cases e) hK
  | exit i => exact other (fun i e => by cases e) hK
  | ret => exact other (fun i e => by cases e) hK
  | pan v => exact other (fun i e => by cases e) hK
  | goto i =>
    have hK : (bif Nat.beq i l then lrun n tin outs (loopN step k) st' K else none) = some r := hK
    obtain ⟨e1, hK2⟩ := cond_none hK
    clear hK hr
    have e1 := beq_eq e1; subst e1
    obtain ⟨x0, y, e, hx0, hfn, hK⟩ := lrun_some hK2
    refine ⟨_, _, fun G a w Q hs hq => ?_, hK⟩
    refine wp_scope_jumps i (fun a w => ∃ m, AtLabel step n G Q m a w) (fun a w => if hm : ∃ m, AtLabel step n G Q m a w then Classical.choose (exists_min hm) else 0) hf ?_ ?_
    · refine hrun G a w _ hs (fun ex a' w' hx' => ?_)
      obtain ⟨rfl, hs'⟩ := hx'
      refine ⟨rfl, k, x0, y, hfn, ?_, hq⟩
      have := decT_sim hx0 hs'
      rw [e] at this; exact this
    · intro a w hJ
      have hm := (Classical.choose_spec (exists_min hJ)).1
      simp only [dif_pos hJ]
      generalize Classical.choose (exists_min hJ) = m at hm
      obtain ⟨x, y, hy, hs, hq⟩ := hm
      cases m with
      | zero => cases hy
      | succ m =>
        unfold loopN at hy
        have hx := h x
        refine wp_seq (wp_skip ?_)
        cases hst : step x with
        | none => rw [hst] at hy; cases hy
        | some z =>
          rw [hst] at hx hy
          obtain ⟨ex, st', hr, hk⟩ := evCode_ok hE X p _ _ _ hL hx
          cases z with
          | inl z =>
            have hy : loopN step m z = some y := hy
            obtain ⟨e, rfl, hz⟩ := decGoto_goto hk
            refine hr G a w _ hs (fun ex' a' w' hx' => ?_)
            obtain ⟨rfl, hs'⟩ := hx'
            have hs2 := decT_sim hz hs'
            rw [e] at hs2
            have hn : AtLabel step n G Q m a' w' := ⟨z, y, hy, hs2, hq⟩
            refine ⟨rfl, ⟨m, hn⟩, ?_⟩
            have hex : ∃ m, AtLabel step n G Q m a' w' := ⟨m, hn⟩
            simp only [dif_pos hex]
            exact Nat.lt_succ_of_le ((Classical.choose_spec (exists_min hex)).2 _ hn)
          | inr z =>
            have hy : some z = some y := hy
            injection hy with hy; subst hy
            obtain ⟨e, hne, hz⟩ := decGoto_out hk
            refine hr G a w _ hs (fun ex' a' w' hx' => ?_)
            have hng := not_goto hne hx'
            have h2 := decOuts_sim hz hx'
            rw [e] at h2
            exact jump_of hng (hq ex' a' w' h2)
/-- the code behind a label, at the place that findLabel tells -/
def scopeBody : Code → Code
  | .scope c => c
  | c => c
theorem LH.scope {R : Type} {P : Program} {body c X : Code} {L' : EvL R} {Lf : EvL R} {Ef : EvO R} {q l n p : Nat} {tin : Tmpl} {outs : Outs} {step : tin.T → Option (tin.T ⊕ ESum outs)} {E : EvO (tin.T ⊕ ESum outs)} {L : EvL (tin.T ⊕ ESum outs)}
    (hc : follow (toBits q) body = some (.scope c)) (hE : EOK P E) (hf : findLabel c l = some (.seq .skip X)) (hL : LGood P L p X) (h : ∀ x, evCode E L p X (tin.enc n x) (decGoto l n tin outs) = step x) (k : Nat)
    (hEf : EOK P Ef) (hLf : LGood P Lf (2 * q) c) (hL' : LH P body L') : LH P body (consL q (scopeRun l n tin outs (loopN step k) (fun st K => evCode Ef Lf (2 * q) c st K)) L') :=
  LH.cons hc (scope_lok hE hf hL h k (fun st K r hr => evCode_ok hEf c _ _ _ _ hLf hr)) hL'
end Go.Ev

namespace Go.Ev
set_option linter.unusedSimpArgs false
set_option linter.unusedVariables false
/-! ### regions that draw their order -/
theorem SimI.grow {G : Base} {ι : Loci} {ok : Nat → Prop} {st : St} {a : Act} {w w' : World} (h : SimI G ι ok st a w) (hg : Grown w w') : SimI G ι ok st a w' := by
  have hmem : ∀ b : Nat, ok b → w'.heap[b]? = w.heap[b]? := fun b hb => hg.block b (h.oklt b hb)
  have hid : ∀ (i : Key) (L' : Loc), ι i = some L' → ι i = some L' := fun _ _ h => h
  exact { h with
    dfs := fun i x d hx hd => by obtain ⟨f, caps, g1, g2⟩ := h.dfs i x d hx hd; exact ⟨f, caps, g1.mono hmem (fun _ h => h) hid, g2⟩
    slots := fun t x hx => ⟨(h.slots t x hx).1, (h.slots t x hx).2.mono hmem (fun _ h => h) hid⟩
    objs := fun k o hk => by
      by_cases hd : o = .dead
      · subst hd; trivial
      · refine (h.objs k o hk).mono (fun L hl hc => ?_) hmem (fun _ h => h) hid
        cases hown : o.owned with
        | true => exact hg.block _ (obj_block (h.objs k o hk) hl hc hown)
        | false => exact hmem _ (h.frozen_ok hk hl hc hown hd)
    os := hg.os.trans h.os, tape := hg.tape.trans h.tape, output := hg.output.trans h.output
    heap := Nat.le_trans h.heap hg.size
    block := fun b hb hn => (hg.block b (Nat.lt_of_lt_of_le hb h.heap)).trans (h.block b hb hn)
    oklt := fun b hb => Nat.lt_of_lt_of_le (h.oklt b hb) hg.size }
/-- Does the place of things fix the value? -/
def isFun : AV → Bool
  | .v _ => true
  | .ptr _ _ => true
  | .eptr .. => true
  | .nils => true
  | _ => false
theorem rep_fun {w w' : World} {ok ok' : Nat → Prop} {B : Nat} {ι : Loci} {x : AV} {v v' : Value} (hf : isFun x = true) (h : Rep w ok B ι x v) (h' : Rep w' ok' B ι x v') : v' = v := by
  cases x <;> simp only [isFun] at hf <;> try (cases hf; done)
  · rw [rep_v_inv h, rep_v_inv h']
  · cases h; cases h'; rfl
  · cases h with
    | ptr g => cases h' with
      | ptr g' => rw [g] at g'; injection g' with g'; rw [g']
  · cases h with
    | eptr g _ _ => cases h' with
      | eptr g' _ _ => rw [g] at g'; injection g' with g'; rw [g']
/-- One value, whatever the world has grown to. -/
def QFin (P : Program) (o : Oper) (st : St) (x : AV) : Prop := ∀ G ι ok a w, SimI G ι ok st a w → ∃ v, Rep w ok G.B ι x v ∧ ∀ w', Grown w w' → o.quietAt P a (Grown w) w' v
theorem qfin_of_fin {P : Program} {o : Oper} {st : St} {x : AV} (h : RunsFin P o st x) (hf : isFun x = true) : QFin P o st x := by
  intro G ι ok a w hs
  obtain ⟨v, h1, h2⟩ := h G ι ok a w hs
  refine ⟨v, h2, fun w' hg => ?_⟩
  obtain ⟨v', h3, h4⟩ := h G ι ok a w' (hs.grow hg)
  have := rep_fun hf h2 h4
  subst this
  unfold Oper.quietAt
  rw [h3]
  exact ⟨rfl, rfl⟩
theorem qfin_move {P : Program} {o : Oper} {st : St} {x : Operand} {y : AV} (ho : o.op = .move x ∨ o.op = .assign x) (h : opndR st x = some y) : QFin P o st y := by
  intro G ι ok a w hs
  refine ⟨_, hs.opndR h, fun w' hg => ?_⟩
  have : (execOp a.eval o).run P w' = .ok (.value (a.eval x)) w' := by
    unfold execOp
    rcases ho with ho | ho <;> rw [ho] <;> rfl
  unfold Oper.quietAt
  rw [this]
  exact ⟨rfl, rfl⟩
/-- the text of a row of bytes -/
def evConvS {R : Type} (P : Program) (o : Oper) (src dst : TypeId) (x : Operand) (st : St) (K : X → St → Option R) : Option R :=
  match P.underlying src, P.underlying dst, opnd st x with
  | some (.slice e), some .string, some y => match P.underlying e, y with
    | some (.int .u8), .nils => fin o st K (.v (.string ByteArray.empty))
    | some (.int .u8), y => match sliceLst st y with
      | some (.I .u8 l) => fin o st K (.v (.string (strOf l)))
      | _ => none
    | _, _ => none
  | _, _, _ => none
theorem evConvS_fin {R : Type} {P : Program} {o : Oper} {st : St} {K : X → St → Option R} {r : R} {src dst : TypeId} {x : Operand} (ho : o.op = .convert src dst x) (h : evConvS P o src dst x st K = some r) : Fin P o st K r := by
  unfold evConvS at h
  split at h
  · rename_i e y hs1 hd hx
    split at h
    · rename_i hu
      refine fin_intro h (fun G ι ok a w hs => ⟨_, ?_, .v _⟩)
      unfold execOp; rw [ho]
      refine exec_v ?_
      have := hs.opnd hx
      generalize a.eval x = v at this
      cases this
      unfold convert
      rw [run_ok (run_under hs1), run_ok (run_under hd)]
      show (do match ← underlying e with | .int .u8 => Conv.bytesToString (.slice none 0 0) | .int .i32 => Conv.runesToString (.slice none 0 0) | _ => stuck _ : Sem Value).run P w = _
      rw [run_ok (run_under hu)]; rfl
    · rename_i y' hu hne
      split at h
      · rename_i l hl
        refine fin_intro h (fun G ι ok a w hs => ⟨_, ?_, .v _⟩)
        unfold execOp; rw [ho]
        refine exec_v ?_
        obtain ⟨p, c, e1, _, e2⟩ := sliceLst_ok hs (hs.opnd hx) hl
        rw [e1]
        unfold convert
        rw [run_ok (run_under hs1), run_ok (run_under hd)]
        show (do match ← underlying e with | .int .u8 => Conv.bytesToString (.slice p l.length c) | .int .i32 => Conv.runesToString (.slice p l.length c) | _ => stuck _ : Sem Value).run P w = _
        rw [run_ok (run_under hu)]
        show (Conv.bytesToString (.slice p l.length c)).run P w = _
        by_cases h0 : 0 < l.length
        · obtain ⟨b, ob, rfl, hr⟩ := e2 h0
          obtain ⟨f, g1, g2⟩ := row_cells hr (by simp [Lst.sz])
          refine run_bytesToString (fun q hq => ?_)
          have h1 := g1 q (by simp [Lst.length, Lst.sz]; exact hq)
          have h2 := g2 q 0 hq (by simp [Lst.sz])
          simp only [Lst.sz, Nat.mul_one, Nat.add_zero] at h2
          rw [h1]
          have h3 : Rep w ok G.B (fun _ => none) (.v (.int .u8 (l.getD q 0))) (f q) := h2
          rw [rep_v_inv h3]
        · have hl0 : l = [] := List.length_eq_zero_iff.1 (by omega)
          subst hl0
          cases p with
          | none => rfl
          | some p =>
            obtain ⟨b, ob, s⟩ := p
            unfold Conv.bytesToString
            simp only [List.length_nil]
            have h1 := run_loadCells (P := P) w ⟨b, ob, s⟩ 0 (fun q => .int .u8 0) (fun q hq => by omega)
            rw [run_ok h1]; rfl
      · cases h
    · cases h
  · cases h
/-- the operations that leave the world alone -/
def evScalar {R : Type} (P : Program) (o : Oper) (st : St) (K : X → St → Option R) : Option R :=
  match o.op with
  | .pick c a b => evPick o c a b st K
  | .load t x => evLoad P o t x st K
  | .nilCheck x => evNilCheck o x st K
  | .binOp op t x y _ => bif isOwnN (opndR st x) && isNilsA (opnd st y) then evEqN P o op t x y st K else bif nilish (opnd st x) && nilish (opnd st y) then evEqNil P o op t x y st K else bif isRowA (opnd st x) && isNilsA (opnd st y) then evEqSl P o op t x y st K else evBin P o op t x y st K
  | .unOp op _ x => evUn o op x st K
  | .convert s d x => bif isStrOrInt P s && isStrOrInt P d then evConv P o s d x st K else evConvS P o s d x st K
  | .fieldAddr s x f => evFieldAddr P o s x f st K
  | .field s x f => evField P o s x f st K
  | .indexAddr t x i => evIndexAddr P o t x i st K
  | .index t x i => bif isArr P t then evIndexArr P o t x i st K else evIndex P o t x i st K
  | .extract x i => evExtract o x i st K
  | .call c => match c.callee with
    | .builtin b => match b, c.args.toList, c.argTypes.toList with
      | .len, [x], t :: _ => evLen P o t x st K
      | .cap, [x], t :: _ => evCap P o t x st K
      | _, _, _ => none
    | _ => none
  | _ => none
theorem evScalar_fin {R : Type} {P : Program} {o : Oper} {st : St} {K : X → St → Option R} {r : R} (h : evScalar P o st K = some r) : Fin P o st K r := by
  unfold evScalar at h
  split at h
  · exact evPick_fin ‹_› h
  · exact evLoad_fin ‹_› h
  · exact evNilCheck_fin ‹_› h
  · rename_i op t x y t' ho
    cases hb0 : (isOwnN (opndR st x) && isNilsA (opnd st y)) <;> rw [hb0] at h <;> simp only [cond_true, cond_false] at h
    · cases hb : (nilish (opnd st x) && nilish (opnd st y)) <;> rw [hb] at h <;> simp only [cond_true, cond_false] at h
      · cases hb2 : (isRowA (opnd st x) && isNilsA (opnd st y)) <;> rw [hb2] at h <;> simp only [cond_true, cond_false] at h
        · exact evBin_fin ho h
        · exact evEqSl_fin ho h
      · exact evEqNil_fin ho h
    · exact evEqN_fin ho h
  · exact evUn_fin ‹_› h
  · rename_i s d x ho
    cases hb : (isStrOrInt P s && isStrOrInt P d) <;> rw [hb] at h <;> simp only [cond_true, cond_false] at h
    · exact evConvS_fin ho h
    · exact evConv_fin ho h
  · exact evFieldAddr_fin ‹_› h
  · exact evField_fin ‹_› h
  · exact evIndexAddr_fin ‹_› h
  · rename_i t x i ho
    cases hb : isArr P t <;> rw [hb] at h <;> simp only [cond_true, cond_false] at h
    · exact evIndex_fin ho h
    · exact evIndexArr_fin ho h
  · exact evExtract_fin ‹_› h
  · rename_i c ho
    obtain ⟨cal, args, ats⟩ := c
    simp only at h
    split at h
    · split at h
      · rename_i x t rest h1 h2
        have e1 : args = #[x] := by
          apply Array.ext'; simpa using h1
        subst e1
        have e2 : ats[0]? = some t := by
          rw [← Array.getElem?_toList, h2]; rfl
        exact evLen_fin ho e2 h
      · rename_i x t rest h1 h2
        have e1 : args = #[x] := by
          apply Array.ext'; simpa using h1
        subst e1
        have e2 : ats[0]? = some t := by
          rw [← Array.getElem?_toList, h2]; rfl
        exact evCap_fin ho e2 h
      · cases h
    · cases h
  · cases h
/-- a value of no place -/
def valOf : AV → Option Value
  | .v x => some x
  | .tuple [] => some (.tuple #[])
  | .tuple [.v a] => some (.tuple #[a])
  | .tuple [.v a, .v b] => some (.tuple #[a, b])
  | .tuple [.v a, .v b, .v c] => some (.tuple #[a, b, c])
  | _ => none
theorem valOf_rep {x : AV} {u : Value} (h : valOf x = some u) (w : World) (ok : Nat → Prop) (B : Nat) (ι : Loci) : Rep w ok B ι x u := by
  unfold valOf at h
  split at h <;> first | (injection h with h; subst h) | cases h
  · exact .v _
  · exact .tuple rfl (fun i hi => absurd hi (Nat.not_lt_zero _))
  · exact .tuple rfl (fun i hi => by match i, hi with | 0, _ => exact .v _)
  · exact .tuple rfl (fun i hi => by
      match i, hi with
      | 0, _ => exact .v _
      | 1, _ => exact .v _)
  · exact .tuple rfl (fun i hi => by
      match i, hi with
      | 0, _ => exact .v _
      | 1, _ => exact .v _
      | 2, _ => exact .v _)
theorem valOf_eq {x : AV} {u v : Value} (h : valOf x = some u) {w : World} {ok : Nat → Prop} {B : Nat} {ι : Loci} (hr : Rep w ok B ι x v) : v = u := by
  have at_ {cs : List AV} {vs : Array Value} (h2 : ∀ i, i < cs.length → Rep w ok B ι (cs.getD i default) (vs.getD i undef)) (i : Nat) (hi : i < vs.size) (hc : i < cs.length) {y : Value} (hy : cs.getD i default = .v y) : vs[i] = y := by
    have h3 := h2 i hc
    rw [hy, Array.getD_eq_getD_getElem?, Array.getElem?_eq_getElem hi, Option.getD_some] at h3
    exact rep_v_inv h3
  unfold valOf at h
  split at h <;> first | (injection h with h; subst h) | cases h
  · exact rep_v_inv hr
  · cases hr with
    | tuple h1 h2 => exact congrArg Value.tuple (Array.ext (by simpa using h1) (fun i h h' => absurd h' (Nat.not_lt_zero _)))
  · cases hr with
    | tuple h1 h2 =>
      refine congrArg Value.tuple (Array.ext (by simpa using h1) (fun i h h' => ?_))
      rcases i with _ | i
      · exact at_ h2 0 h (by simp) rfl
      · exact absurd h' (by simp)
  · cases hr with
    | tuple h1 h2 =>
      refine congrArg Value.tuple (Array.ext (by simpa using h1) (fun i h h' => ?_))
      rcases i with _ | _ | i
      · exact at_ h2 0 h (by simp) rfl
      · exact at_ h2 1 h (by simp) rfl
      · exact absurd h' (by simp)
  · cases hr with
    | tuple h1 h2 =>
      refine congrArg Value.tuple (Array.ext (by simpa using h1) (fun i h h' => ?_))
      rcases i with _ | _ | _ | i
      · exact at_ h2 0 h (by simp) rfl
      · exact at_ h2 1 h (by simp) rfl
      · exact at_ h2 2 h (by simp) rfl
      · exact absurd h' (by simp)
/-- the call of a function: what is entered, in any world -/
theorem call_enter {P : Program} {o : Oper} {fo : Operand} {args : Array Operand} {ats : Array TypeId} {G : Base} {ι : Loci} {ok : Nat → Prop} {st : St} {a : Act} {w : World} (ho : o.op = .call { callee := .value fo, args := args, argTypes := ats })
    (hs : SimI G ι ok st a w) {f : FuncId} {first caps xs : List AV} {fnc : Func} (hfo : opnd st fo = some (.fn (.func f) first caps)) (hxs : opnds st args.toList = some xs)
    (hf1 : P.funcs[f]? = some fnc) (hf2 : fnc.body.isNone = false) (hf3 : (fnc.name == "runtime.NumGoroutine") = false) :
    ∃ cargs : Array Value, (∀ w', (execOp a.eval o).run P w' = .ok (.enter f cargs) w') ∧ cargs.size = (first ++ (xs ++ caps)).length ∧
      ∀ i, i < (first ++ (xs ++ caps)).length → Rep w ok G.B ι ((first ++ (xs ++ caps)).getD i default) (cargs.getD i undef) := by
  obtain ⟨first', caps', e1, e2, e3, e4, e5⟩ : ∃ first' caps' : Array Value, a.eval fo = .func (.func f) first' caps' ∧ first'.size = first.length ∧ caps'.size = caps.length ∧
      (∀ i, i < first.length → Rep w ok G.B ι (first.getD i default) (first'.getD i undef)) ∧ ∀ i, i < caps.length → Rep w ok G.B ι (caps.getD i default) (caps'.getD i undef) := by
    have := hs.opnd hfo
    generalize a.eval fo = fv at this
    cases this; exact ⟨_, _, rfl, ‹_›, ‹_›, ‹_›, ‹_›⟩
  obtain ⟨g1, g2⟩ := opnds_ok hs _ _ hxs
  have el : xs.length = args.size := by simpa using g1
  refine ⟨(first' ++ args.map a.eval) ++ caps', fun w' => ?_, ?_, ?_⟩
  · unfold execOp
    rw [ho]
    show (do let d ← resolve a.eval { callee := .value fo, args := args, argTypes := ats } o.type; invoke d.target d.args : Sem Next).run P w' = _
    have hres : (resolve a.eval { callee := .value fo, args := args, argTypes := ats } o.type).run P w' = .ok { target := .fn (.func f) caps', args := first' ++ args.map a.eval } w' := by
      unfold resolve
      simp only [e1]; rfl
    rw [run_ok hres]
    show (callFunc f ((first' ++ args.map a.eval) ++ caps')).run P w' = _
    unfold callFunc
    have : (program).run P w' = .ok P w' := rfl
    rw [run_ok this]
    simp only [hf1]
    rw [if_neg (by simp [hf3]), if_neg (by simp [hf2])]; rfl
  · simp only [Array.size_append, Array.size_map, List.length_append, e2, e3, el]; omega
  · intro i hi
    simp only [List.length_append] at hi
    by_cases c1 : i < first.length
    · have := e4 i c1
      simp only [List.getD_eq_getElem?_getD, List.getElem?_append_left c1]
      simp only [List.getD_eq_getElem?_getD] at this
      rw [Array.getD_eq_getD_getElem?, Array.getElem?_append_left (by simp; omega), Array.getElem?_append_left (by omega), ← Array.getD_eq_getD_getElem?]
      exact this
    · by_cases c2 : i < first.length + xs.length
      · have := g2 (i - first.length) (by omega)
        simp only [List.getD_eq_getElem?_getD, List.getElem?_append_right (Nat.not_lt.1 c1)]
        rw [List.getElem?_append_left (by omega), ← List.getD_eq_getElem?_getD]
        rw [Array.getD_eq_getD_getElem?, Array.getElem?_append_left (by simp; omega), Array.getElem?_append_right (by omega), e2, ← Array.getD_eq_getD_getElem?, arr_getD]
        exact this
      · have := e5 (i - first.length - xs.length) (by omega)
        simp only [List.getD_eq_getElem?_getD, List.getElem?_append_right (Nat.not_lt.1 c1)]
        rw [List.getElem?_append_right (by omega), ← List.getD_eq_getElem?_getD]
        rw [Array.getD_eq_getD_getElem?, Array.getElem?_append_right (by simp; omega), ← Array.getD_eq_getD_getElem?]
        have e6 : i - (first' ++ args.map a.eval).size = i - first.length - xs.length := by simp [e2, el]; omega
        rw [e6]; exact this
/-- a state of which a call sees nothing but its arguments -/
def bare (st : St) : St := ⟨st.n, st.nk, [], [], [], []⟩
theorem bare_sim {G : Base} {ι : Loci} {ok : Nat → Prop} {st : St} {a : Act} {w : World} (hs : SimI G ι ok st a w) :
    SimI { w0 := w, ok0 := ok, own0 := fun _ => False, B := G.B, hB := Nat.le_trans G.hB hs.heap, loc := G.loc, shp := hs.shp, shpo := fun _ _ h => h } ι ok (bare st) { a with defers := [] } w where
  size := hs.size
  dfn := rfl
  dfs := fun i x d hx hd => by cases hx
  tags := fun k j h => by cases h
  slots := fun t x h => by cases h
  objs := fun k o h => by cases h
  inj := fun k₁ k₂ o₁ o₂ L₁ L₂ h => by cases h
  apart := fun k o L h => by cases h
  fresh := hs.fresh
  os := rfl
  tape := rfl
  output := rfl
  heap := Nat.le_refl _
  block := fun b _ _ => rfl
  okin := fun b h => h
  oksub := fun b h => .inl h
  oklt := hs.oklt
/-- a call in a region that draws its order: it sees no place that may change, and hands back a value of no place -/
def evQCall {R : Type} (O : FuncId → Option (CallF R)) (o : Oper) (fo : Operand) (args : Array Operand) (st : St) (K : X → St → Option R) : Option R :=
  match opnd st fo, opnds st args.toList with
  | some (.fn (.func f) first caps), some xs => match O f with
    | some cf => cf (first ++ (xs ++ caps)) (bare st) fun k v _ => match k with
      | .normal => match valOf v with
        | some _ => fin o st K v
        | none => none
      | _ => none
    | none => none
  | _, _ => none
theorem evQCall_ok {R : Type} {P : Program} {O : FuncId → Option (CallF R)} (hO : OOK P O) {o : Oper} {fo : Operand} {args : Array Operand} {ats : Array TypeId} {st : St} {K : X → St → Option R} {r : R}
    (ho : o.op = .call { callee := .value fo, args := args, argTypes := ats }) (h : evQCall O o fo args st K = some r) : ∃ x, QFin P o st x ∧ fin o st K x = some r := by
  unfold evQCall at h
  split at h
  · rename_i f first caps xs hfo hxs
    split at h
    · rename_i cf hcf
      obtain ⟨⟨fnc, hf1, hf2, hf3⟩, hok⟩ := hO f cf hcf
      obtain ⟨xk, v, st', hr, hk⟩ := hok _ _ _ _ h
      split at hk
      · split at hk
        · rename_i u hv
          refine ⟨v, fun G ι ok a w hs => ?_, hk⟩
          obtain ⟨cargs, c1, c2, c3⟩ := call_enter (P := P) ho hs hfo hxs hf1 hf2 hf3
          refine ⟨u, valOf_rep hv _ _ _ _, fun w' hg => ?_⟩
          unfold Oper.quietAt
          rw [c1 w']
          refine ⟨rfl, ?_⟩
          have hs' := hs.grow hg
          have hb := bare_sim hs'
          refine (hr _ ι ok _ w' cargs hb c2 (fun i hi => (c3 i hi).mono (fun b hb' => hg.block b (hs.oklt b hb')) (fun _ h => h) (fun _ _ h => h))).mono fun e w'' hp => ?_
          obtain ⟨cv, ι', ok', he, hs2, hrep⟩ := hp
          have hcv := valOf_eq hv hrep
          subst hcv
          have he : e = .returned cv := he
          refine ⟨he, ?_⟩
          exact { os := hs2.os.trans hg.os, tape := hs2.tape.trans hg.tape, output := hs2.output.trans hg.output
                  size := Nat.le_trans hg.size hs2.heap
                  block := fun b hb => (hs2.block b (Nat.lt_of_lt_of_le hb hg.size) (fun h => h)).trans (hg.block b hb) }
        · cases hk
      · cases hk
    · cases h
  · cases h
theorem qfin_load {P : Program} {o : Oper} {t : TypeId} {x : Operand} {st : St} (ho : o.op = .load t x) {p y : AV} (hp : opnd st x = some p) (hy : loadAV P st t p = some y) : QFin P o st y := by
  intro G ι ok a w hs
  obtain ⟨cv, h1, h2⟩ := loadAV_grown (P := P) hs (hs.opnd hp) hy
  refine ⟨cv, h2, fun w' hg => ?_⟩
  have : (execOp a.eval o).run P w' = .ok (.value cv) w' := by
    unfold execOp; rw [ho]; exact exec_v (h1 w' hg)
  unfold Oper.quietAt
  rw [this]
  exact ⟨rfl, rfl⟩
theorem qfin_any {P : Program} {o : Oper} {st : St} {x : AV} (h : RunsAny P o st x) : QFin P o st x := by
  intro G ι ok a w hs
  obtain ⟨v, h1, h2⟩ := h G ι ok a w hs
  refine ⟨v, h2, fun w' hg => ?_⟩
  unfold Oper.quietAt
  rw [h1 w']
  exact ⟨rfl, rfl⟩
def evQRest {R : Type} (P : Program) (o : Oper) (st : St) (K : X → St → Option R) : Option R :=
  match o.dst with
  | some d => evScalar P o st fun x st' => match look st'.ts d with
    | some y => bif isFun y then K x st' else none
    | none => none
  | none => none
/-- an operation of a region that draws its order -/
def evQ {R : Type} (P : Program) (O : FuncId → Option (CallF R)) (o : Oper) (st : St) (K : X → St → Option R) : Option R :=
  match o.op with
  | .move x => evMove o x st K
  | .assign x => evMove o x st K
  | .load t x => evLoad P o t x st K
  | .slice t x lo hi none => evSlice P o t x lo hi st K
  | .indexAddr t x i => evIndexAddr P o t x i st K
  | .build t ps => evBuild P o t ps st K
  | .call ⟨.value fo, args, _⟩ => evQCall O o fo args st K
  | _ => evQRest P o st K
theorem evMove_get {R : Type} {o : Oper} {x : Operand} {st : St} {K : X → St → Option R} {r : R} (h : evMove o x st K = some r) : ∃ y, opndR st x = some y ∧ fin o st K y = some r := by
  unfold evMove at h
  split at h
  · rename_i y hy; exact ⟨y, hy, h⟩
  · cases h
theorem evLoad_get {R : Type} {P : Program} {o : Oper} {t : TypeId} {x : Operand} {st : St} {K : X → St → Option R} {r : R} (h : evLoad P o t x st K = some r) : ∃ p y, opnd st x = some p ∧ loadAV P st t p = some y ∧ fin o st K y = some r := by
  unfold evLoad at h
  split at h
  · rename_i p hp
    split at h
    · rename_i y hy; exact ⟨p, y, hp, hy, h⟩
    · cases h
  · cases h
theorem evQ_ok {R : Type} {P : Program} {O : FuncId → Option (CallF R)} (hO : OOK P O) {o : Oper} {st : St} {K : X → St → Option R} {r : R} (h : evQ P O o st K = some r) : ∃ x, QFin P o st x ∧ fin o st K x = some r := by
  unfold evQ at h
  split at h
  · rename_i x ho
    obtain ⟨y, h1, h2⟩ := evMove_get h
    exact ⟨y, qfin_move (.inl ho) h1, h2⟩
  · rename_i x ho
    obtain ⟨y, h1, h2⟩ := evMove_get h
    exact ⟨y, qfin_move (.inr ho) h1, h2⟩
  · rename_i t x ho
    obtain ⟨p, y, h1, h2, h3⟩ := evLoad_get h
    exact ⟨y, qfin_load ho h1 h2, h3⟩
  · rename_i t x lo hi ho
    obtain ⟨y, h1, h2⟩ := evSlice_any ho h
    exact ⟨y, qfin_any h1, h2⟩
  · rename_i t x i ho
    obtain ⟨y, h1, h2⟩ := evIndexAddr_any ho h
    exact ⟨y, qfin_any h1, h2⟩
  · rename_i t ps ho
    obtain ⟨y, h1, h2⟩ := evBuild_any ho h
    exact ⟨y, qfin_any h1, h2⟩
  · rename_i fo args ats ho
    exact evQCall_ok hO ho h
  · unfold evQRest at h
    split at h
    · rename_i d hd
      obtain ⟨x, h1, h2⟩ := evScalar_fin h
      obtain ⟨h3, h4⟩ := fin_some h2
      rw [hd] at h4
      have hl : look (st.put (some d) x).ts d = some x := by simp [St.put, look_cons]
      rw [hl] at h4
      simp only at h4
      obtain ⟨h5, h6⟩ := cond_none h4
      refine ⟨x, qfin_of_fin h1 h5, ?_⟩
      unfold fin
      rw [h3, hd]; exact h6
    · cases h
def evOpsQ {R : Type} (P : Program) (O : FuncId → Option (CallF R)) (all : Array Oper) : List Oper → St → (St → Option R) → Option R
  | [], st, K => K st
  | o :: r, st, K =>
    match o.guard with
    | none => evQ P O o st fun x st => match x with
      | .normal => evOpsQ P O all r st K
      | _ => none
    | some (j, want) =>
      match (all[j]?).bind (·.dst) with
      | some d => match look st.ts d with
        | some (.v (.bool b)) =>
          bif b then (bif want then (evQ P O o (st.know d true) fun x st => match x with
              | .normal => evOpsQ P O all r st K
              | _ => none) else (bif dstOk st.n o.dst then evOpsQ P O all r ((st.know d true).put o.dst (.v undef)) K else none))
          else (bif want then (bif dstOk st.n o.dst then evOpsQ P O all r ((st.know d false).put o.dst (.v undef)) K else none)
            else (evQ P O o (st.know d false) fun x st => match x with
              | .normal => evOpsQ P O all r st K
              | _ => none))
        | some (.v (.tuple _)) => bif dstOk st.n o.dst then evOpsQ P O all r (st.put o.dst (.v undef)) K else none
        | _ => none
      | none => none
def QRuns (P : Program) (all : Array Oper) (l : List Oper) (st st' : St) : Prop :=
  ∀ G ι ok a w, SimI G ι ok st a w → ∀ (Qf : Act → Prop), (∀ a', SimI G ι ok st' a' w → Qf a') → wpQuiet P all (Grown w) Qf l a
theorem evOpsQ_ok {R : Type} {P : Program} {O : FuncId → Option (CallF R)} (hO : OOK P O) {all : Array Oper} : ∀ (l : List Oper) (st : St) (K : St → Option R) (r : R), evOpsQ P O all l st K = some r → ∃ st', QRuns P all l st st' ∧ K st' = some r := by
  intro l
  induction l with
  | nil => intro st K r h; exact ⟨st, fun G ι ok a w hs Qf hq => hq a hs, h⟩
  | cons o l ih =>
    intro st K r h
    have main : ∀ (st : St), (evQ P O o st fun x st => match x with
            | .normal => evOpsQ P O all l st K
            | _ => none) = some r → (∀ G ι ok a w, SimI G ι ok st a w → Region.wanted o (yielded all a.tmps) = true) → ∃ st', QRuns P all (o :: l) st st' ∧ K st' = some r := by
      intro st hE hw
      obtain ⟨x, h1, h2⟩ := evQ_ok hO hE
      obtain ⟨h3, h4⟩ := fin_some h2
      obtain ⟨st', h5, h6⟩ := ih _ _ _ h4
      refine ⟨st', fun G ι ok a w hs Qf hq => ?_, h6⟩
      obtain ⟨v, g1, g2⟩ := h1 G ι ok a w hs
      unfold wpQuiet
      rw [if_pos (hw G ι ok a w hs)]
      exact ⟨v, g2, h5 G ι ok _ w (hs.put h3 g1) Qf hq⟩
    have over : ∀ (st : St), (bif dstOk st.n o.dst then evOpsQ P O all l (st.put o.dst (.v undef)) K else none) = some r → (∀ G ι ok a w, SimI G ι ok st a w → Region.wanted o (yielded all a.tmps) = false) →
        ∃ st', QRuns P all (o :: l) st st' ∧ K st' = some r := by
      intro st h hw
      cases hdk : dstOk st.n o.dst <;> rw [hdk] at h <;> simp only [cond_true, cond_false] at h
      · cases h
      · obtain ⟨st', h5, h6⟩ := ih _ _ _ h
        refine ⟨st', fun G ι ok a w hs Qf hq => ?_, h6⟩
        unfold wpQuiet
        rw [if_neg (by rw [hw G ι ok a w hs]; simp)]
        exact h5 G ι ok _ w (hs.put hdk (.v undef)) Qf hq
    unfold evOpsQ at h
    split at h
    · rename_i hg
      exact main _ h (fun G ι ok a w hs => by unfold Region.wanted; rw [hg])
    · rename_i j want hg
      split at h
      · rename_i d hd
        have hy : ∀ {x : Value} {st : St}, look st.ts d = some (.v x) → ∀ G ι ok a w, SimI G ι ok st a w → yielded all a.tmps j = (match x with | .bool b => some b | _ => none) := by
          intro x st hb G ι ok a w hs
          obtain ⟨h1, h2⟩ := hs.slots _ _ hb
          have h2 := rep_v_inv h2
          unfold yielded
          rw [hd]
          have hlt : d < a.tmps.size := by rw [hs.size]; exact h1
          rw [Array.getD_eq_getD_getElem?, Array.getElem?_eq_getElem hlt] at h2
          simp only [Option.bind_some, Array.getElem?_eq_getElem hlt]
          simp only [Option.getD_some] at h2
          rw [h2]
          cases x <;> rfl
        split at h
        · rename_i b hb
          have hknow : look (st.know d b).ts d = some (.v (.bool b)) := by simp [St.know, look_cons]
          have up : ∀ G ι ok a w, SimI G ι ok st a w → SimI G ι ok (st.know d b) a w := by
            intro G ι ok a w hs
            refine { hs with slots := ?_ }
            intro t x hx
            simp only [St.know, look_cons] at hx
            split at hx
            · rename_i e; subst e; injection hx with hx; subst hx; exact hs.slots _ _ hb
            · exact hs.slots _ _ hx
          have hw : ∀ G ι ok a w, SimI G ι ok (st.know d b) a w → Region.wanted o (yielded all a.tmps) = (some b == some want) := by
            intro G ι ok a w hs
            unfold Region.wanted; rw [hg]
            show (yielded all a.tmps j == some want) = _
            rw [hy hknow G ι ok a w hs]
          have wrap : (∃ st', QRuns P all (o :: l) (st.know d b) st' ∧ K st' = some r) → ∃ st', QRuns P all (o :: l) st st' ∧ K st' = some r := by
            rintro ⟨st', h1, h2⟩
            exact ⟨st', fun G ι ok a w hs Qf hq => h1 G ι ok a w (up G ι ok a w hs) Qf hq, h2⟩
          refine wrap ?_
          cases b <;> cases want <;> simp only [cond_true, cond_false] at h
          · exact main _ h (fun G ι ok a w hs => by rw [hw G ι ok a w hs]; rfl)
          · exact over _ h (fun G ι ok a w hs => by rw [hw G ι ok a w hs]; rfl)
          · exact over _ h (fun G ι ok a w hs => by rw [hw G ι ok a w hs]; rfl)
          · exact main _ h (fun G ι ok a w hs => by rw [hw G ι ok a w hs]; rfl)
        · rename_i vs hb
          refine over _ h (fun G ι ok a w hs => ?_)
          unfold Region.wanted; rw [hg]
          show (yielded all a.tmps j == some want) = _
          rw [hy hb G ι ok a w hs]; rfl
        · cases h
      · cases h
/-- a region that draws its order -/
def drawRun {R : Type} (P : Program) (O : FuncId → Option (CallF R)) (ops : Array Oper) : St → (X → St → Option R) → Option R := fun st K =>
  bif P.follows .mixedOrders && Region.lexB .any ops then evOpsQ P O ops ops.toList st (K .normal) else none
theorem drawRun_ok {R : Type} {P : Program} {O : FuncId → Option (CallF R)} (hO : OOK P O) {id : Nat} {ops : Array Oper} : LOK (R := R) P (drawRun P O ops) (.region id ops true) := by
  intro st K r h
  obtain ⟨hc, h⟩ := cond_none h
  rw [Bool.and_eq_true] at hc
  obtain ⟨st', h1, h2⟩ := evOpsQ_ok hO _ _ _ _ h
  refine ⟨.normal, st', fun G a w Q hs hq => ?_, h2⟩
  obtain ⟨ι, ok, hs⟩ := hs
  refine wp_region_quiet (C := Grown w) hc.1 hc.2 ⟨rfl, rfl, rfl, Nat.le_refl _, fun _ _ => rfl⟩ ?_
  refine h1 G ι ok a w hs _ (fun a' hs' w' hg => ?_)
  exact hq .normal a' w' ⟨rfl, ι, ok, hs'.grow hg⟩
def isDrawAt (q : Nat) (body : Code) : Bool := match follow (toBits q) body with
  | some (.region _ _ true) => true
  | _ => false
def drawOps (q : Nat) (body : Code) : Array Oper := match follow (toBits q) body with
  | some (.region _ ops _) => ops
  | _ => #[]
theorem LH.draw {R : Type} {P : Program} {O : FuncId → Option (CallF R)} (hO : OOK P O) {body : Code} {L : EvL R} {q : Nat} (h : isDrawAt q body = true) (hL : LH P body L) : LH P body (consL q (drawRun P O (drawOps q body)) L) := by
  unfold isDrawAt at h
  split at h
  · rename_i id ops hf
    have e : drawOps q body = ops := by unfold drawOps; rw [hf]
    rw [e]
    exact LH.cons hf (drawRun_ok hO) hL
  · cases h
end Go.Ev

