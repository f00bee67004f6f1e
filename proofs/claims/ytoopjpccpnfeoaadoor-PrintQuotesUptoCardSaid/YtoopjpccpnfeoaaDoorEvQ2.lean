/- An evaluator of the model's code over abstract values, and its soundness, part 2: what it tells of a piece of code, each run of that code does. -/
import Derived.Test.YtoopjpccpnfeoaaDoorEvQ1
import Derived.Laws.IdiomCopy
import Derived.Laws.NewBlocks
set_option linter.unusedVariables false
set_option linter.unusedSimpArgs false
namespace Go.Ev
def Loci.set (ι : Loci) (k : Key) (L : Loc) : Loci := fun i => if i = k then some L else ι i
theorem Loci.set_same (ι : Loci) (k : Key) (L : Loc) : ι.set k L k = some L := by simp [Loci.set]
theorem Loci.set_other {ι : Loci} {k i : Key} {L : Loc} (h : i ≠ k) : ι.set k L i = ι i := by simp [Loci.set, h]
theorem Loci.set_le {ι : Loci} {k : Key} {L : Loc} (h : ι k = none) : ∀ i L', ι i = some L' → ι.set k L i = some L' := by
  intro i L' hi
  by_cases e : i = k
  · subst e; rw [h] at hi; cases hi
  · rw [Loci.set_other e]; exact hi

theorem heap_alloc_old {w : World} {o : Obj} {b : Nat} (h : b < w.heap.size) : (w.alloc o).heap[b]? = w.heap[b]? := by
  show (w.heap.push o)[b]? = _
  rw [Array.getElem?_push, if_neg (by omega)]
theorem heap_alloc_new' {w : World} {o : Obj} : (w.alloc o).heap[w.heap.size]? = some o := by
  show (w.heap.push o)[w.heap.size]? = _
  rw [Array.getElem?_push, if_pos rfl]
theorem size_alloc' {w : World} {o : Obj} : (w.alloc o).heap.size = w.heap.size + 1 := by
  show (w.heap.push o).size = _
  simp

section
variable {G : Base} {ι : Loci} {ok : Nat → Prop} {st : St} {a : Act} {w : World}
theorem obj_block {B : Nat} {k : Key} {o : AObj} {L : Loc} (h : ObjOK w ok B ι k o) (hl : ι k = some L) (hc : 0 < L.cp) (hd : o.owned = true) : L.b < w.heap.size := by
  cases o with
  | cells cs => obtain ⟨L', vs, t, h1, _, h3, _⟩ := h; rw [hl] at h1; injection h1 with h1; subst h1; exact (Array.getElem?_eq_some_iff.1 h3).1
  | row o l =>
    obtain ⟨L', h1, _, _, h4⟩ := h; rw [hl] at h1; injection h1 with h1; subst h1
    obtain ⟨vs, t, fr, g, _⟩ := h4 hc; exact (Array.getElem?_eq_some_iff.1 g).1
  | iter s p => obtain ⟨L', h1, _, h3⟩ := h; rw [hl] at h1; injection h1 with h1; subst h1; exact (Array.getElem?_eq_some_iff.1 h3).1
  | mapS es => obtain ⟨L', vs, c, h1, _, h3, _⟩ := h; rw [hl] at h1; injection h1 with h1; subst h1; exact (Array.getElem?_eq_some_iff.1 h3).1
  | coll => obtain ⟨L', h1, _, h3⟩ := h; rw [hl] at h1; injection h1 with h1; subst h1; exact (Array.getElem?_eq_some_iff.1 h3).1
  | dead => cases hd
theorem SimI.frozen_ok (h : SimI G ι ok st a w) {k : Key} {o : AObj} {L : Loc} (hk : look st.ar k = some o) (hl : ι k = some L) (hc : 0 < L.cp) (hd : o.owned = false) (hn : o ≠ .dead) : ok L.b := by
  have := h.objs k o hk
  cases o with
  | cells cs => cases hd
  | row ow l =>
    have hd : ow = false := hd
    subst hd
    obtain ⟨L', h1, _, _, h4⟩ := this; rw [hl] at h1; injection h1 with h1; subst h1
    obtain ⟨vs, t, fr, g, _, g3, _⟩ := h4 hc; exact g3 rfl
  | iter s p => cases hd
  | mapS es => cases hd
  | coll => cases hd
  | dead => exact absurd rfl hn

/-- A new block under a new key. -/
theorem SimI.alloc (h : SimI G ι ok st a w) {ob : Obj} {o : AObj} {L : Loc} (hL : L.b = w.heap.size) (ho : ObjOK (w.alloc ob) ok G.B (ι.set st.nk L) st.nk o) :
    SimI G (ι.set st.nk L) ok { st with nk := st.nk + 1, ar := (st.nk, o) :: st.ar } a (w.alloc ob) := by
  have hf := h.fresh st.nk (Nat.le_refl _)
  have hle := Loci.set_le (L := L) hf
  have hmem : ∀ b, ok b → (w.alloc ob).heap[b]? = w.heap[b]? := fun b hb => heap_alloc_old (h.oklt b hb)
  exact {
    size := h.size
    dfn := h.dfn
    dfs := fun i x d hx hd => by obtain ⟨f, caps, g1, g2⟩ := h.dfs i x d hx hd; exact ⟨f, caps, g1.mono hmem (fun _ h => h) hle, g2⟩
    tags := fun k j hk => by
      obtain ⟨g1, L', g2⟩ := h.tags k j hk
      have := hle k L' g2
      exact ⟨this.trans (g2.symm.trans g1), L', this⟩
    slots := fun t x hx => ⟨(h.slots t x hx).1, (h.slots t x hx).2.mono hmem (fun _ h => h) hle⟩
    objs := fun k o' hk => by
      rw [look_cons] at hk
      split at hk
      · rename_i e; subst e; injection hk with hk; subst hk; exact ho
      · have hob := h.objs k o' hk
        by_cases hd : o' = .dead
        · subst hd; trivial
        · refine hob.mono (fun L' hl hc => ?_) hmem (fun _ h => h) hle
          cases hown : o'.owned with
          | true => exact heap_alloc_old (obj_block hob hl hc hown)
          | false => exact hmem _ (h.frozen_ok hk hl hc hown hd)
    inj := by
      intro k₁ k₂ o₁ o₂ L₁ L₂ hk₁ hk₂ ho₁ ho₂ hl₁ hl₂ hc₁ hc₂ hb
      rw [look_cons] at hk₁ hk₂
      by_cases e₁ : st.nk = k₁ <;> by_cases e₂ : st.nk = k₂
      · exact e₁.symm.trans e₂
      · subst e₁
        rw [if_neg e₂] at hk₂
        rw [Loci.set_same] at hl₁; injection hl₁ with hl₁; subst hl₁
        rw [Loci.set_other (fun e => e₂ e.symm)] at hl₂
        have := obj_block (h.objs _ _ hk₂) hl₂ hc₂ ho₂
        omega
      · subst e₂
        rw [if_neg e₁] at hk₁
        rw [Loci.set_same] at hl₂; injection hl₂ with hl₂; subst hl₂
        rw [Loci.set_other (fun e => e₁ e.symm)] at hl₁
        have := obj_block (h.objs _ _ hk₁) hl₁ hc₁ ho₁
        omega
      · rw [if_neg e₁] at hk₁
        rw [if_neg e₂] at hk₂
        rw [Loci.set_other (fun e => e₁ e.symm)] at hl₁
        rw [Loci.set_other (fun e => e₂ e.symm)] at hl₂
        exact h.inj k₁ k₂ o₁ o₂ L₁ L₂ hk₁ hk₂ ho₁ ho₂ hl₁ hl₂ hc₁ hc₂ hb
    apart := by
      intro k o' L' hk hown hl hc
      rw [look_cons] at hk
      split at hk
      · rename_i e; subst e
        rw [Loci.set_same] at hl; injection hl with hl; subst hl
        rw [hL]
        exact ⟨fun hb => by have := h.oklt _ hb; omega, .inr h.heap⟩
      · rename_i e
        rw [Loci.set_other (fun e' => e e'.symm)] at hl
        exact h.apart k o' L' hk hown hl hc
    fresh := fun k hk => by
      have hk1 : st.nk + 1 ≤ k := hk
      have hne : k ≠ st.nk := fun e => Nat.not_succ_le_self st.nk (e ▸ hk1)
      rw [Loci.set_other hne]; exact h.fresh k (Nat.le_of_succ_le hk1)
    os := h.os, tape := h.tape, output := h.output
    heap := by rw [size_alloc']; exact Nat.le_succ_of_le h.heap
    block := fun b hb hn => by rw [heap_alloc_old (Nat.lt_of_lt_of_le hb h.heap)]; exact h.block b hb hn
    okin := h.okin, oksub := h.oksub
    oklt := fun b hb => by rw [size_alloc']; exact Nat.lt_succ_of_lt (h.oklt b hb) }

/-- One owned object is written. -/
theorem SimI.write (h : SimI G ι ok st a w) {w' : World} {k : Key} {o o' : AObj} {L : Loc} (hk : look st.ar k = some o) (hown : o.owned = true) (hl : ι k = some L) (hc : 0 < L.cp)
    (hos : w'.os = w.os) (htape : w'.tape = w.tape) (hout : w'.output = w.output) (hsz : w'.heap.size = w.heap.size) (hb : ∀ b, b ≠ L.b → w'.heap[b]? = w.heap[b]?)
    (ho : ObjOK w' ok G.B ι k o') : SimI G ι ok { st with ar := (k, o') :: st.ar } a w' := by
  have hap := h.apart k o L hk hown hl hc
  have hmem : ∀ b, ok b → w'.heap[b]? = w.heap[b]? := fun b hb' => hb b (fun e => hap.1 (e ▸ hb'))
  have hid : ∀ (i : Key) (L' : Loc), ι i = some L' → ι i = some L' := fun _ _ h => h
  exact {
    size := h.size
    dfn := h.dfn
    dfs := fun i x d hx hd => by obtain ⟨f, caps, g1, g2⟩ := h.dfs i x d hx hd; exact ⟨f, caps, g1.mono hmem (fun _ h => h) hid, g2⟩
    tags := h.tags
    slots := fun t x hx => ⟨(h.slots t x hx).1, (h.slots t x hx).2.mono hmem (fun _ h => h) hid⟩
    objs := fun k' o₂ hk' => by
      rw [look_cons] at hk'
      split at hk'
      · rename_i e; subst e; injection hk' with hk'; subst hk'; exact ho
      · rename_i e
        have hob := h.objs k' o₂ hk'
        by_cases hd : o₂ = .dead
        · subst hd; trivial
        · refine hob.mono (fun L' hl' hc' => ?_) hmem (fun _ h => h) hid
          cases hown₂ : o₂.owned with
          | true => exact hb _ (fun e' => e (h.inj k k' o o₂ L L' hk hk' hown hown₂ hl hl' hc hc' e'.symm))
          | false => exact hmem _ (h.frozen_ok hk' hl' hc' hown₂ hd)
    inj := by
      intro k₁ k₂ o₁ o₂ L₁ L₂ hk₁ hk₂ ho₁ ho₂ hl₁ hl₂ hc₁ hc₂ hb
      rw [look_cons] at hk₁ hk₂
      by_cases e₁ : k = k₁ <;> by_cases e₂ : k = k₂
      · exact e₁.symm.trans e₂
      · subst e₁
        rw [if_neg e₂] at hk₂
        exact h.inj k k₂ o o₂ L₁ L₂ hk hk₂ hown ho₂ hl₁ hl₂ hc₁ hc₂ hb
      · subst e₂
        rw [if_neg e₁] at hk₁
        exact h.inj k₁ k o₁ o L₁ L₂ hk₁ hk ho₁ hown hl₁ hl₂ hc₁ hc₂ hb
      · rw [if_neg e₁] at hk₁
        rw [if_neg e₂] at hk₂
        exact h.inj k₁ k₂ o₁ o₂ L₁ L₂ hk₁ hk₂ ho₁ ho₂ hl₁ hl₂ hc₁ hc₂ hb
    apart := by
      intro k' o₂ L' hk' hown₂ hl' hc'
      rw [look_cons] at hk'
      split at hk'
      · rename_i e; subst e; exact h.apart k o L' hk hown hl' hc'
      · exact h.apart k' o₂ L' hk' hown₂ hl' hc'
    fresh := h.fresh
    os := hos.trans h.os, tape := htape.trans h.tape, output := hout.trans h.output
    heap := by rw [hsz]; exact h.heap
    block := fun b hb' hn => by
      rw [hb b (fun e => ?_)]
      · exact h.block b hb' hn
      · rcases hap.2 with g | g
        · exact hn (e ▸ g)
        · omega
    okin := h.okin, oksub := h.oksub
    oklt := fun b hb => by rw [hsz]; exact h.oklt b hb }
/-- An object is let go. -/
theorem SimI.kill (h : SimI G ι ok st a w) (k : Key) : SimI G ι ok { st with ar := (k, .dead) :: st.ar } a w :=
  { h with
    objs := fun k' o hk => by
      rw [look_cons] at hk
      split at hk
      · injection hk with hk; subst hk; trivial
      · exact h.objs k' o hk
    inj := by
      intro k₁ k₂ o₁ o₂ L₁ L₂ hk₁ hk₂ ho₁ ho₂
      rw [look_cons] at hk₁ hk₂
      split at hk₁
      · injection hk₁ with hk₁; subst hk₁; cases ho₁
      · split at hk₂
        · injection hk₂ with hk₂; subst hk₂; cases ho₂
        · exact h.inj k₁ k₂ o₁ o₂ L₁ L₂ hk₁ hk₂ ho₁ ho₂
    apart := by
      intro k' o L hk ho
      rw [look_cons] at hk
      split at hk
      · injection hk with hk; subst hk; cases ho
      · exact h.apart k' o L hk ho }
/-- A draw turns nothing. -/
theorem SimI.same (h : SimI G ι ok st a w) {w' : World} (hh : w'.heap = w.heap) (hos : w'.os = w.os) (htape : w'.tape = w.tape) (hout : w'.output = w.output) : SimI G ι ok st a w' := by
  have hmem : ∀ b : Nat, w'.heap[b]? = w.heap[b]? := fun b => by rw [hh]
  have hid : ∀ (i : Key) (L' : Loc), ι i = some L' → ι i = some L' := fun _ _ h => h
  exact { h with
    dfs := fun i x d hx hd => by obtain ⟨f, caps, g1, g2⟩ := h.dfs i x d hx hd; exact ⟨f, caps, g1.mono (fun b _ => hmem b) (fun _ h => h) hid, g2⟩
    slots := fun t x hx => ⟨(h.slots t x hx).1, (h.slots t x hx).2.mono (fun b _ => hmem b) (fun _ h => h) hid⟩
    objs := fun k o hk => (h.objs k o hk).mono (fun L _ _ => hmem _) (fun b _ => hmem b) (fun _ h => h) hid
    os := hos.trans h.os, tape := htape.trans h.tape, output := hout.trans h.output
    heap := by rw [hh]; exact h.heap
    block := fun b hb hn => by rw [hmem]; exact h.block b hb hn
    oklt := fun b hb => by rw [hh]; exact h.oklt b hb }
end
end Go.Ev

namespace Go.Ev
set_option linter.unusedSimpArgs false
set_option linter.unusedVariables false
theorem addr_add (b o j : Nat) : (⟨b, o, none⟩ : Addr).add j = ⟨b, o + j, none⟩ := by
  unfold Addr.add; split
  · rename_i h; subst h; rfl
  · rfl
def isAggT (P : Program) (t : TypeId) : Bool :=
  match P.underlying t with
  | some (.struct _) => true
  | some (.array _ _) => true
  | _ => false
/-- a variable of type t among cells -/
def pickCells (P : Program) (t : TypeId) (cs : List AV) (off : Nat) : Option AV :=
  match P.underlying t with
  | some _ => bif isAggT P t then (match P.info? t with
    | some i => bif Nat.ble (off + i.size) cs.length then some (.agg ((cs.drop off).take i.size)) else none
    | none => none) else cs[off]?
  | none => none
def loadAV (P : Program) (st : St) (t : TypeId) : AV → Option AV
  | .ptr k off => match look st.ar k with
    | some (.cells cs) => pickCells P t cs off
    | _ => none
  | .eptr k sz i j => match look st.ar k with
    | some (.row _ l) => bif Nat.beq sz l.sz then pickCells P t (l.elem i).cells j else none
    | _ => none
  | .rp x j => pickCells P t x.cells j
  | _ => none
def evLoad {R : Type} (P : Program) (o : Oper) (t : TypeId) (x : Operand) (st : St) (K : X → St → Option R) : Option R :=
  match opnd st x with
  | some p => match loadAV P st t p with
    | some y => fin o st K y
    | none => none
  | none => none

section
variable {P : Program} {w : World}
theorem run_isAgg {t : TypeId} {d : TypeDesc} (h : P.underlying t = some d) : (isAgg t).run P w = .ok (isAggT P t) w := by
  unfold isAgg isAggT
  rw [run_ok (run_under h), h]
  cases d <;> rfl
theorem run_size {t : TypeId} {i : TypeInfo} (h : P.info? t = some i) : (sizeOf t).run P w = .ok i.size w := by
  have := run_sizeOf (P := P) (w := w) h
  rw [this]; unfold Program.cellsOf; rw [h]; rfl
theorem rep_none {ok : Nat → Prop} {B : Nat} {ι : Loci} {x : AV} {v : Value} (h : Rep w ok B (fun _ => none) x v) : Rep w ok B ι x v :=
  h.mono (fun _ _ => rfl) (fun _ h => h) (fun _ _ h => by cases h)
theorem pick_ok {ok : Nat → Prop} {B : Nat} {ι : Loci} {t : TypeId} {cs : List AV} {off : Nat} {y : AV} (h : pickCells P t cs off = some y) {b o : Nat} (f : Nat → Value)
    (hc : ∀ i, i < cs.length → w.cell? ⟨b, o + i, none⟩ = some (f i)) (hr : ∀ i, i < cs.length → Rep w ok B ι (cs.getD i default) (f i)) :
    ∃ cv, (∀ w', Grown w w' → (loadVar t ⟨b, o + off, none⟩).run P w' = .ok cv w') ∧ Rep w ok B ι y cv := by
  unfold pickCells at h
  split at h
  · rename_i d hu
    cases hag : isAggT P t <;> rw [hag] at h <;> simp only [cond_true, cond_false] at h
    · have hlt : off < cs.length := by
        rcases Nat.lt_or_ge off cs.length with g | g
        · exact g
        · rw [List.getElem?_eq_none g] at h; cases h
      refine ⟨f off, fun w' hg => ?_, ?_⟩
      · unfold loadVar
        rw [run_ok (run_isAgg hu), hag]
        show (load ⟨b, o + off, none⟩).run P w' = _
        rw [run_load, hg.cell (hc off hlt)]
      · have := hr off hlt
        rw [List.getD_eq_getElem?_getD, h] at this; exact this
    · split at h
      · rename_i i hi
        obtain ⟨hle, h⟩ := cond_none h
        injection h with h; subst h
        have hle : off + i.size ≤ cs.length := Nat.le_of_ble_eq_true hle
        refine ⟨.agg ((List.range i.size).map fun j => f (off + j)).toArray, fun w' hg => ?_, ?_⟩
        · unfold loadVar
          rw [run_ok (run_isAgg hu), hag]
          show (do pure (.agg (← loadCells ⟨b, o + off, none⟩ (← sizeOf t))) : Sem Value).run P w' = _
          rw [run_ok (run_size hi)]
          have := run_loadCells (P := P) w' ⟨b, o + off, none⟩ i.size (fun j => f (off + j)) (fun j hj => by
            rw [addr_add, Nat.add_assoc]; exact hg.cell (hc (off + j) (by omega)))
          rw [run_ok this]; rfl
        · refine .agg (by simp; omega) (fun j hj => ?_)
          have hj' : j < i.size := by
            have := List.length_take_le i.size (cs.drop off); omega
          have := hr (off + j) (by omega)
          have e1 : ((cs.drop off).take i.size).getD j default = cs.getD (off + j) default := by
            simp only [List.getD_eq_getElem?_getD, List.getElem?_take, List.getElem?_drop]
            rw [if_pos hj']
          have e2 : (((List.range i.size).map fun j => f (off + j)).toArray).getD j undef = f (off + j) := by
            simp [Array.getD_eq_getD_getElem?, hj']
          rw [e1, e2]; exact this
      · cases h
  · cases h
theorem loadAV_grown {G : Base} {ι : Loci} {ok : Nat → Prop} {st : St} {a : Act} (hs : SimI G ι ok st a w) {t : TypeId} {x y : AV} {v : Value} (hx : Rep w ok G.B ι x v)
    (h : loadAV P st t x = some y) : ∃ cv, (∀ w', Grown w w' → (Instr.loadAt t v).run P w' = .ok cv w') ∧ Rep w ok G.B ι y cv := by
  unfold loadAV at h
  split at h
  · rename_i k off
    split at h
    · rename_i cs hk
      obtain ⟨L, vs, ty, h1, h2, h3, h4, h5⟩ := hs.objs _ _ hk
      cases hx with
      | ptr g =>
        rw [h1] at g; injection g with g; subst g
        obtain ⟨cv, hr, hv⟩ := pick_ok (w := w) (ok := ok) (B := G.B) (ι := ι) h (b := L.b) (o := 0) (fun i => vs.getD i undef) (fun i hi => by
          have hi' : i < vs.size := by omega
          unfold World.cell?
          simp only [h3, Nat.zero_add]
          simp [Array.getD_eq_getD_getElem?, hi']) h5
        rw [Nat.zero_add] at hr
        refine ⟨cv, fun w' hg => ?_, hv⟩
        unfold Instr.loadAt
        have : (Instr.sureAddr (.pointer (some ⟨L.b, off, none⟩))).run P w' = .ok ⟨L.b, off, none⟩ w' := rfl
        rw [run_ok this]; exact hr w' hg
    · cases h
  · rename_i k sz i j
    split at h
    · rename_i ow l hk
      obtain ⟨e, h'⟩ := cond_none h
      have e := beq_eq e; subst e
      clear h
      obtain ⟨L, h1, h2, h3, h4⟩ := hs.objs _ _ hk
      cases hx with
      | eptr g g1 g2 =>
        rw [h1] at g; injection g with g; subst g
        obtain ⟨vs, ty, fr, a1, a2, a3, a4, val, b1, b2, b3⟩ := h4 g2
        have hil : i < l.length := by rw [← h2]; exact g1
        obtain ⟨cv, hr, hv⟩ := pick_ok (w := w) (ok := ok) (B := G.B) (ι := ι) h' (b := L.b) (o := L.o + i * l.sz) (fun q => val i q) (fun q hq => by
          rw [Nat.add_assoc]; exact b1 i q hil (by rw [← b3 i hil]; exact hq)) (fun q hq => rep_none (b2 i q hil (by rw [← b3 i hil]; exact hq)))
        refine ⟨cv, fun w' hg => ?_, hv⟩
        unfold Instr.loadAt
        have : (Instr.sureAddr (.pointer (some ⟨L.b, L.o + (i * l.sz + j), none⟩))).run P w' = .ok ⟨L.b, L.o + (i * l.sz + j), none⟩ w' := rfl
        rw [run_ok this, ← Nat.add_assoc]; exact hr w' hg
    · cases h
  · rename_i z j
    cases hx with
    | rp val g1 g2 g3 =>
      rename_i b o
      obtain ⟨cv, hr, hv⟩ := pick_ok (w := w) (ok := ok) (B := G.B) (ι := ι) h (b := b) (o := o) val g2 (fun q hq => rep_none (g3 q hq))
      exact ⟨cv, fun w' hg => by
        unfold Instr.loadAt
        have : (Instr.sureAddr (.pointer (some ⟨b, o + j, none⟩))).run P w' = .ok ⟨b, o + j, none⟩ w' := rfl
        rw [run_ok this]; exact hr w' hg, hv⟩
  · cases h
theorem loadAV_ok {G : Base} {ι : Loci} {ok : Nat → Prop} {st : St} {a : Act} (hs : SimI G ι ok st a w) {t : TypeId} {x y : AV} {v : Value} (hx : Rep w ok G.B ι x v)
    (h : loadAV P st t x = some y) : ∃ cv, (Instr.loadAt t v).run P w = .ok cv w ∧ Rep w ok G.B ι y cv := by
  obtain ⟨cv, h1, h2⟩ := loadAV_grown hs hx h
  exact ⟨cv, h1 w (Grown.refl w), h2⟩
theorem evLoad_fin {R : Type} {o : Oper} {st : St} {K : X → St → Option R} {r : R} {t : TypeId} {x : Operand} (ho : o.op = .load t x) (h : evLoad P o t x st K = some r) :
    Fin P o st K r := by
  unfold evLoad at h
  split at h
  · rename_i p hp
    split at h
    · rename_i y hy
      refine fin_intro h (fun G ι ok a w hs => ?_)
      obtain ⟨cv, hr, hv⟩ := loadAV_ok (P := P) hs (hs.opnd hp) hy
      exact ⟨cv, by unfold execOp; rw [ho]; exact exec_v hr, hv⟩
    · cases h
  · cases h

theorem evLoad_ok {R : Type} {o : Oper} {st : St} {K : X → St → Option R} {r : R} {t : TypeId} {x : Operand} (ho : o.op = .load t x) (h : evLoad P o t x st K = some r) :
    ∃ x st', RunsOp P o st x st' ∧ K x st' = some r := (evLoad_fin ho h).ok
/-! ### stores -/
theorem setCells_block (b : Nat) : ∀ (vs : List Value) (o : Nat) (w : World) (c : Array Value) (t : TypeId) (fr : Nat × Nat), w.heap[b]? = some (.cells c t fr) →
    ∃ c', (w.setCells b o vs).heap[b]? = some (.cells c' t fr) ∧ c'.size = c.size ∧ ∀ i, i < c.size → c'[i]? = if o ≤ i ∧ i < o + vs.length then vs[i - o]? else c[i]?
  | [], o, w, c, t, fr, h => ⟨c, h, rfl, fun i _ => by rw [if_neg]; simp only [List.length_nil]; omega⟩
  | v :: r, o, w, c, t, fr, h => by
    have h1 : (w.setCell ⟨b, o, none⟩ v).heap[b]? = some (.cells (c.setIfInBounds o v) t fr) := by
      unfold World.setCell
      simp only [Array.getElem?_modify, h]
      simp
    obtain ⟨c', g1, g2, g3⟩ := setCells_block b r (o + 1) _ _ t fr h1
    refine ⟨c', g1, by rw [g2]; simp, fun i hi => ?_⟩
    rw [g3 i (by simpa using hi)]
    by_cases e : i = o
    · subst e
      rw [if_neg (by omega), if_pos (by simp only [List.length_cons]; omega)]
      simp [Array.getElem?_setIfInBounds, hi]
    · by_cases e2 : o + 1 ≤ i ∧ i < o + 1 + r.length
      · rw [if_pos e2, if_pos (by simp only [List.length_cons]; omega)]
        rw [show i - o = (i - (o + 1)) + 1 by omega]; simp
      · rw [if_neg e2, if_neg (by simp only [List.length_cons]; omega), Array.getElem?_setIfInBounds, if_neg (fun e' => e e'.symm)]
theorem setCells_other (b : Nat) : ∀ (vs : List Value) (o : Nat) (w : World), (w.setCells b o vs).os = w.os ∧ (w.setCells b o vs).tape = w.tape ∧ (w.setCells b o vs).output = w.output ∧
    (w.setCells b o vs).heap.size = w.heap.size ∧ ∀ c, c ≠ b → (w.setCells b o vs).heap[c]? = w.heap[c]?
  | [], o, w => ⟨rfl, rfl, rfl, rfl, fun _ _ => rfl⟩
  | v :: r, o, w => by
    obtain ⟨h1, h2, h3, h4, h5⟩ := setCells_other b r (o + 1) (w.setCell ⟨b, o, none⟩ v)
    refine ⟨h1, h2, h3, h4.trans ?_, fun c hc => (h5 c hc).trans ?_⟩
    · simp [World.setCell]
    · unfold World.setCell
      simp only [Array.getElem?_modify]
      rw [if_neg (fun e => hc e.symm)]
def leafOk : AV → Bool
  | .v (.agg _) => false
  | .v (.tuple _) => false
  | .agg _ => false
  | .tuple _ => false
  | _ => true
theorem rep_leafOk {ok : Nat → Prop} {B : Nat} {ι : Loci} {x : AV} {v : Value} (h : Rep w ok B ι x v) (hx : leafOk x = true) : v.oneCell' = true := by
  cases h with
  | v => cases v <;> first | rfl | (cases hx; done)
  | bself a b c d => rcases d with rfl | rfl <;> rfl
  | _ => first | rfl | (cases hx; done)
/-- a value by its cells -/
theorem rep_cells {ok : Nat → Prop} {B : Nat} {ι : Loci} {x : AV} {v : Value} (h : Rep w ok B ι x v) (hx : x.cells.all leafOk = true) :
    v.cells.size = x.cells.length ∧ (∀ i, i < x.cells.length → Rep w ok B ι (x.cells.getD i default) (v.cells.getD i undef)) ∧ ∀ u ∈ v.cells.toList, u.oneCell' = true := by
  have one : ∀ {x : AV} {v : Value}, Rep w ok B ι x v → x.cells = [x] → leafOk x = true → v.cells.size = x.cells.length ∧ (∀ i, i < x.cells.length → Rep w ok B ι (x.cells.getD i default) (v.cells.getD i undef)) ∧ ∀ u ∈ v.cells.toList, u.oneCell' = true := by
    intro x v h he hl
    have hv := rep_leafOk h hl
    have hc : v.cells = #[v] := by cases v <;> first | rfl | (cases hv; done)
    rw [he, hc]
    refine ⟨rfl, fun i hi => ?_, fun u hu => by simp at hu; subst hu; exact hv⟩
    have : i = 0 := by simp at hi; exact hi
    subst this; exact h
  cases x with
  | agg cs =>
    obtain ⟨vs, rfl, h1, h2⟩ := rep_agg_inv h
    refine ⟨h1, h2, fun u hu => ?_⟩
    have hu : u ∈ vs.toList := hu
    obtain ⟨i, hi, e⟩ := List.getElem_of_mem hu
    have hi' : i < vs.size := by simpa using hi
    have hi2 : i < cs.length := by omega
    have := h2 i hi2
    have e2 : vs.getD i undef = u := by rw [← e]; simp [Array.getD_eq_getD_getElem?, hi']
    rw [e2] at this
    refine rep_leafOk this ?_
    rw [List.getD_eq_getElem?_getD, List.getElem?_eq_getElem hi2]
    exact List.all_eq_true.1 hx _ (List.getElem_mem hi2)
  | _ => exact one h rfl (by simpa [AV.cells] using hx)
/-- a list with a part of it written over -/
def splice (cs : List AV) (off : Nat) (xs : List AV) : List AV := cs.take off ++ xs ++ cs.drop (off + xs.length)
theorem splice_length {cs xs : List AV} {off : Nat} (h : off + xs.length ≤ cs.length) : (splice cs off xs).length = cs.length := by
  simp [splice]; omega
theorem splice_getD {cs xs : List AV} {off i : Nat} (h : off + xs.length ≤ cs.length) : (splice cs off xs).getD i default = if off ≤ i ∧ i < off + xs.length then xs.getD (i - off) default else cs.getD i default := by
  unfold splice
  simp only [List.getD_eq_getElem?_getD]
  by_cases h1 : i < off
  · rw [if_neg (by omega), List.append_assoc, List.getElem?_append_left (by simp; omega), List.getElem?_take, if_pos h1]
  · by_cases h2 : i < off + xs.length
    · rw [if_pos (by omega), List.getElem?_append_left (by simp; omega), List.getElem?_append_right (by simp; omega)]
      congr 2; simp; omega
    · rw [if_neg (by omega), List.getElem?_append_right (by simp; omega), List.getElem?_drop]
      congr 2; simp; omega
end
end Go.Ev

namespace Go.Ev
set_option linter.unusedSimpArgs false
set_option linter.unusedVariables false
section
variable {R : Type}
def storeBox (P : Program) (st : St) (t : TypeId) (p x : AV) : Option St :=
  match p with
  | .ptr k off => match look st.ar k, P.info? t with
    | some (.cells cs), some i => bif Nat.beq x.cells.length i.size && (x.cells.all leafOk && Nat.ble (off + x.cells.length) cs.length) then some { st with ar := (k, .cells (splice cs off x.cells)) :: st.ar } else none
    | _, _ => none
  | _ => none
def evStore (P : Program) (o : Oper) (t : TypeId) (x y : Operand) (st : St) (K : X → St → Option R) : Option R :=
  match opnd st x, opndR st y with
  | some p, some z => match storeBox P st t p z with
    | some st' => bif dstOk st'.n o.dst then K .normal (st'.put o.dst (.v undef)) else none
    | none => none
  | _, _ => none
def newCells (st : St) (cs : List AV) : St := { st with nk := st.nk + 1, ar := (st.nk, .cells cs) :: st.ar }
/-- a struct whose first field leads to such a struct (strings.Builder) -/
def bldT (P : Program) (t : TypeId) : Bool :=
  match P.underlying t with
  | some (.struct fs) => match fs[0]? with
    | some fd => match P.underlying fd.type with
      | some (.pointer t') => Nat.beq t' t
      | _ => false
    | none => false
  | _ => false
def bldCells (P : Program) (t : TypeId) (k : Key) (cs : List AV) : List AV :=
  match cs with
  | [.v (.pointer none), .nils] => bif bldT P t then [.bself k 0 t, .nils] else cs
  | _ => cs
def evAlloc (P : Program) (o : Oper) (t : TypeId) (st : St) (K : X → St → Option R) : Option R :=
  match P.info? t with
  | some i => match i.zero with
    | some z => bif (ofVal z).cells.all leafOk then fin o (newCells st (bldCells P t st.nk (ofVal z).cells)) K (.ptr st.nk 0) else none
    | none => none
  | none => none
def evBox (o : Oper) (t : TypeId) (x : Operand) (st : St) (K : X → St → Option R) : Option R :=
  match opnd st x with
  | some y => bif y.cells.all leafOk then fin o (newCells st y.cells) K (.ptr st.nk 0) else none
  | none => none
def evFieldAddr (P : Program) (o : Oper) (s : TypeId) (x : Operand) (f : Nat) (st : St) (K : X → St → Option R) : Option R :=
  match P.underlying s, opnd st x with
  | some (.struct fs), some p => match fs[f]? with
    | some fd => match P.info? fd.type with
      | some i => bif Nat.beq i.size 0 then none else (match p with
        | .ptr k off => fin o st K (.ptr k (off + fd.offset))
        | .eptr k sz i j => fin o st K (.eptr k sz i (j + fd.offset))
        | .rp x j => fin o st K (.rp x (j + fd.offset))
        | _ => none)
      | none => none
    | none => none
  | _, _ => none
def evNilCheck (o : Oper) (x : Operand) (st : St) (K : X → St → Option R) : Option R :=
  match opnd st x with
  | some (.ptr k off) => fin o st K (.ptr k off)
  | some (.eptr k sz i j) => fin o st K (.eptr k sz i j)
  | some (.rp x j) => fin o st K (.rp x j)
  | some (.iface t y) => fin o st K (.iface t y)
  | some (.fn (.func f) a b) => fin o st K (.fn (.func f) a b)
  | _ => none
def evField (P : Program) (o : Oper) (s : TypeId) (x : Operand) (f : Nat) (st : St) (K : X → St → Option R) : Option R :=
  match P.underlying s, opnd st x with
  | some (.struct fs), some (.agg cs) => match fs[f]? with
    | some fd => match pickCells P fd.type cs fd.offset with
      | some y => fin o st K y
      | none => none
    | none => none
  | _, _ => none
def evIface (P : Program) (o : Oper) (t : TypeId) (x : Operand) (st : St) (K : X → St → Option R) : Option R :=
  match P.underlying t, opnd st x with
  | some (.interface _), _ => none
  | some _, some y => fin o st K (.iface t y)
  | _, _ => none
def opnds (st : St) : List Operand → Option (List AV)
  | [] => some []
  | x :: r => match opnd st x, opnds st r with
    | some y, some ys => some (y :: ys)
    | _, _ => none
def evFunc (o : Oper) (fn : Fn) (first captured : Array Operand) (st : St) (K : X → St → Option R) : Option R :=
  match opnds st first.toList, opnds st captured.toList with
  | some xs, some ys => fin o st K (.fn fn xs ys)
  | _, _ => none
def sliceLen (st : St) : AV → Option Nat
  | .nils => some 0
  | .own k => match look st.ar k with
    | some (.row _ l) => some l.length
    | _ => none
  | .sl _ _ _ len => some len
  | .ro _ l => some l.length
  | _ => none
def evLen (P : Program) (o : Oper) (t : TypeId) (x : Operand) (st : St) (K : X → St → Option R) : Option R :=
  match P.underlying t, opnd st x with
  | some .string, some (.v (.string s)) => fin o st K (.v (.int .i64 (s.size : Nat)))
  | some (.slice _), some y => match sliceLen st y with
    | some n => fin o st K (.v (.int .i64 (n : Nat)))
    | none => none
  | some (.array n _), some _ => fin o st K (.v (.int .i64 (n : Nat)))
  | _, _ => none
/-- the capacity of a nil slice -/
def evCap (P : Program) (o : Oper) (t : TypeId) (x : Operand) (st : St) (K : X → St → Option R) : Option R :=
  match P.underlying t, opnd st x with
  | some (.slice _), some .nils => fin o st K (.v (.int .i64 0))
  | _, _ => none
def evIndexAddr (P : Program) (o : Oper) (t : TypeId) (x i : Operand) (st : St) (K : X → St → Option R) : Option R :=
  match P.underlying t, opnd st x, opnd st i with
  | some (.slice e), some y, some (.v (.int _ n)) => match P.info? e with
    | some inf => match y with
      | .own k => match look st.ar k with
        | some (.row _ l) => bif Nat.beq inf.size l.sz then (bif decide (0 ≤ n) && decide (n < l.length) then fin o st K (.eptr k l.sz n.toNat 0) else none) else none
        | _ => none
      | .sl k sz off len => bif Nat.beq inf.size sz then (bif decide (0 ≤ n) && decide (n < len) then fin o st K (.eptr k sz (off + n.toNat) 0) else none) else none
      | .ro _ l => bif Nat.beq inf.size l.sz then (bif decide (0 ≤ n) && decide (n < l.length) then fin o st K (.rp (l.elem n.toNat) 0) else none) else none
      | _ => none
    | none => none
  | _, _, _ => none
end
section
variable {R : Type} {P : Program} {o : Oper} {st : St} {K : X → St → Option R} {r : R}
theorem run_info {t : TypeId} {i : TypeInfo} {w : World} (h : P.info? t = some i) : (typeInfo t).run P w = .ok i w := by
  unfold typeInfo
  have : (program).run P w = .ok P w := rfl
  rw [run_ok this, h]; rfl
theorem storeBox_ok {G : Base} {ι : Loci} {ok : Nat → Prop} {a : Act} {w : World} (hs : SimI G ι ok st a w) {t : TypeId} {p x : AV} {pv xv : Value} {st' : St} (hp : Rep w ok G.B ι p pv) (hx : Rep w ok G.B ι x xv)
    (h : storeBox P st t p x = some st') : ∃ w', (Instr.storeAt t pv xv).run P w = .ok () w' ∧ SimI G ι ok st' a w' := by
  unfold storeBox at h
  split at h
  · rename_i k off
    split at h
    · rename_i cs i hk hi
      obtain ⟨hc, h⟩ := cond_none h
      injection h with h; subst h
      simp only [Bool.and_eq_true] at hc
      have e1 := beq_eq hc.1
      have hle : off + x.cells.length ≤ cs.length := Nat.le_of_ble_eq_true hc.2.2
      obtain ⟨c1, c2, c3⟩ := rep_cells hx hc.2.1
      obtain ⟨L, vs, ty, h1, h2, h3, h4, h5⟩ := hs.objs _ _ hk
      cases hp with
      | ptr g =>
        rw [h1] at g; injection g with g; subst g
        have hcell : ∀ q, off + q < vs.size → w.cell? ⟨L.b, off + q, none⟩ = some (vs.getD (off + q) undef) := by
          intro q hq
          unfold World.cell?
          simp only [h3]
          simp [Array.getD_eq_getD_getElem?, hq]
        have hrun := run_storeCells_cells (P := P) L.b off xv.cells.toList 0 w (fun q hq => by
          have hq : q < xv.cells.size := by simpa using hq
          rw [Nat.add_zero, hcell q (by omega)]; rfl) (fun q hq => by
          unfold World.frozen?
          simp only [h3]
          simp) c3
        rw [Nat.add_zero] at hrun
        obtain ⟨c', g1, g2, g3⟩ := setCells_block L.b xv.cells.toList off w vs ty (0, 0) h3
        obtain ⟨o1, o2, o3, o4, o5⟩ := setCells_other L.b xv.cells.toList off w
        refine ⟨w.setCells L.b off xv.cells.toList, ?_, ?_⟩
        · unfold Instr.storeAt
          have : (Instr.sureAddr (.pointer (some ⟨L.b, off, none⟩))).run P w = .ok ⟨L.b, off, none⟩ w := rfl
          rw [run_ok this]
          unfold storeVar
          rw [run_ok (run_size hi)]
          rw [if_neg (by simp only [ne_eq, Classical.not_not]; omega)]
          exact hrun
        · refine hs.write (o' := .cells (splice cs off x.cells)) hk rfl h1 (by omega) o1 o2 o3 o4 o5 ?_
          have hap := hs.apart k _ L hk rfl h1 (by omega)
          have hmem : ∀ b, ok b → (w.setCells L.b off xv.cells.toList).heap[b]? = w.heap[b]? := fun b hb => o5 b (fun e => hap.1 (e ▸ hb))
          refine ⟨L, c', ty, h1, h2, g1, by rw [g2, splice_length hle]; exact h4, fun q hq => ?_⟩
          rw [splice_length hle] at hq
          have hq' : q < vs.size := by omega
          rw [splice_getD hle]
          have e3 : c'.getD q undef = if off ≤ q ∧ q < off + xv.cells.toList.length then xv.cells.getD (q - off) undef else vs.getD q undef := by
            simp only [Array.getD_eq_getD_getElem?]
            rw [g3 q hq']
            by_cases hcnd : off ≤ q ∧ q < off + xv.cells.toList.length
            · rw [if_pos hcnd, if_pos hcnd, Array.getElem?_toList]
            · rw [if_neg hcnd, if_neg hcnd]
          rw [e3]
          have el : xv.cells.toList.length = x.cells.length := by simpa using c1
          rw [el]
          by_cases hcnd : off ≤ q ∧ q < off + x.cells.length
          · rw [if_pos hcnd, if_pos hcnd]; exact (c2 (q - off) (by omega)).mono hmem (fun _ h => h) (fun _ _ h => h)
          · rw [if_neg hcnd, if_neg hcnd]; exact (h5 q hq).mono hmem (fun _ h => h) (fun _ _ h => h)
    · cases h
  · cases h
theorem evStore_ok {t : TypeId} {x y : Operand} (ho : o.op = .store t x y) (h : evStore P o t x y st K = some r) : ∃ x st', RunsOp P o st x st' ∧ K x st' = some r := by
  unfold evStore at h
  split at h
  · rename_i p z hp hz
    split at h
    · rename_i st' hst
      obtain ⟨hd, h⟩ := cond_none h
      refine ⟨.normal, _, ?_, h⟩
      rintro G a w next Q ⟨ι, ok, hs⟩ hk
      obtain ⟨w', hr, hs'⟩ := storeBox_ok (P := P) hs (hs.opnd hp) (hs.opndR hz) hst
      unfold Oper.wp execOp
      rw [ho]
      show o.upon P a next Q ((do Instr.storeAt t (a.eval x) (a.eval y); pure Next.skip : Sem Next).run P w)
      rw [run_ok hr]
      exact hk .normal _ _ ⟨rfl, ι, ok, hs'.put hd (.v undef)⟩
    · cases h
  · cases h
/-- an operation that makes one block and tells its address, or what follows of it -/
theorem runs_new {st₁ : St} {x : AV} (h : fin o st₁ K x = some r)
    (hr : ∀ G ι ok a w, SimI G ι ok st a w → ∃ v w' ι', (execOp a.eval o).run P w = .ok (.value v) w' ∧ SimI G ι' ok st₁ a w' ∧ Rep w' ok G.B ι' x v) :
    ∃ x st', RunsOp P o st x st' ∧ K x st' = some r := by
  obtain ⟨hd, hK⟩ := fin_some h
  refine ⟨.normal, _, ?_, hK⟩
  rintro G a w next Q ⟨ι, ok, hs⟩ hk
  obtain ⟨v, w', ι', hrun, hs', hv⟩ := hr G ι ok a w hs
  unfold Oper.wp
  rw [hrun]
  exact hk .normal _ _ ⟨rfl, ι', ok, hs'.put hd hv⟩
theorem newCells_ok {G : Base} {ι : Loci} {ok : Nat → Prop} {a : Act} {w : World} (hs : SimI G ι ok st a w) {cs : List AV} {vs : Array Value} (t : TypeId) (hl : vs.size = cs.length)
    (hr : ∀ i, i < cs.length → Rep w ok G.B ι (cs.getD i default) (vs.getD i undef)) :
    SimI G (ι.set st.nk ⟨w.heap.size, 0, t, 1⟩) ok (newCells st cs) a (w.alloc (.cells vs t)) := by
  refine hs.alloc rfl ⟨⟨w.heap.size, 0, t, 1⟩, vs, t, Loci.set_same _ _ _, ⟨rfl, rfl⟩, heap_alloc_new', hl, fun i hi => ?_⟩
  exact (hr i hi).mono (fun b hb => heap_alloc_old (hs.oklt b hb)) (fun _ h => h) (Loci.set_le (hs.fresh _ (Nat.le_refl _)))
theorem newBld_ok {G : Base} {ι : Loci} {ok : Nat → Prop} {a : Act} {w : World} (hs : SimI G ι ok st a w) {cs : List AV} {vs : Array Value} (t : TypeId) (hl : vs.size = cs.length)
    (hr : ∀ i, i < cs.length → Rep w ok G.B ι (cs.getD i default) (vs.getD i undef)) :
    SimI G (ι.set st.nk ⟨w.heap.size, 0, t, 1⟩) ok (newCells st (bldCells P t st.nk cs)) a (w.alloc (.cells vs t)) := by
  unfold bldCells
  split
  · cases bldT P t
    · exact newCells_ok hs t hl hr
    · refine hs.alloc rfl ⟨⟨w.heap.size, 0, t, 1⟩, vs, t, Loci.set_same _ _ _, ⟨rfl, rfl⟩, heap_alloc_new', hl, fun i hi => ?_⟩
      match i, hi with
      | 0, _ =>
        have h0 : Rep w ok G.B ι (.v (.pointer none)) (vs.getD 0 undef) := hr 0 (by simp)
        rw [rep_v_inv h0]
        exact .bself (L := ⟨w.heap.size, 0, t, 1⟩) (Loci.set_same _ _ _) rfl rfl (.inl rfl)
      | 1, _ =>
        have h1 : Rep w ok G.B ι .nils (vs.getD 1 undef) := hr 1 (by simp)
        exact h1.mono (fun b hb => heap_alloc_old (hs.oklt b hb)) (fun _ h => h) (Loci.set_le (hs.fresh _ (Nat.le_refl _)))
  · exact newCells_ok hs t hl hr
theorem run_newVar {t : TypeId} {v : Value} {w : World} : (newVar t v).run P w = .ok ⟨w.heap.size, 0, none⟩ (w.alloc (.cells v.cells t)) := rfl
theorem evAlloc_ok {t : TypeId} (ho : o.op = .alloc t) (h : evAlloc P o t st K = some r) : ∃ x st', RunsOp P o st x st' ∧ K x st' = some r := by
  unfold evAlloc at h
  split at h
  · rename_i i hi
    split at h
    · rename_i z hz
      obtain ⟨hc, h⟩ := cond_none h
      refine runs_new h (fun G ι ok a w hs => ?_)
      obtain ⟨c1, c2, _⟩ := rep_cells (rep_ofVal (w := w) (ok := ok) (B := G.B) (ι := ι) z) hc
      refine ⟨.pointer (some ⟨w.heap.size, 0, none⟩), _, _, ?_, newBld_ok hs t c1 c2, .ptr (L := ⟨w.heap.size, 0, t, 1⟩) (Loci.set_same _ _ _)⟩
      unfold execOp; rw [ho]
      refine exec_v ?_
      unfold Instr.alloc
      have hzr : (zeroValue t).run P w = .ok z w := by
        unfold zeroValue
        rw [run_ok (run_info hi), hz]; rfl
      rw [run_ok hzr]
      show (do pure (.pointer (some (← newVar t z))) : Sem Value).run P w = _
      rw [run_ok run_newVar]; rfl
    · cases h
  · cases h
theorem evBox_ok {t : TypeId} {x : Operand} (ho : o.op = .box t x) (h : evBox o t x st K = some r) : ∃ x st', RunsOp P o st x st' ∧ K x st' = some r := by
  unfold evBox at h
  split at h
  · rename_i y hy
    obtain ⟨hc, h⟩ := cond_none h
    refine runs_new h (fun G ι ok a w hs => ?_)
    obtain ⟨c1, c2, _⟩ := rep_cells (hs.opnd hy) hc
    refine ⟨.pointer (some ⟨w.heap.size, 0, none⟩), _, _, ?_, newCells_ok hs t c1 c2, .ptr (L := ⟨w.heap.size, 0, t, 1⟩) (Loci.set_same _ _ _)⟩
    unfold execOp; rw [ho]
    refine exec_v ?_
    unfold Instr.box
    rw [run_ok run_newVar]; rfl
  · cases h
theorem run_fieldPlace {w : World} {fd : Field} {i : TypeInfo} (hi : P.info? fd.type = some i) (hz : i.size ≠ 0) (b o : Nat) : (fieldPlace ⟨b, o, none⟩ fd).run P w = .ok ⟨b, o + fd.offset, none⟩ w := by
  unfold fieldPlace
  rw [run_ok (run_size hi), if_neg hz, addr_add]; rfl
theorem evFieldAddr_fin {s : TypeId} {x : Operand} {f : Nat} (ho : o.op = .fieldAddr s x f) (h : evFieldAddr P o s x f st K = some r) :
    Fin P o st K r := by
  unfold evFieldAddr at h
  split at h
  · rename_i fs p hu hp
    split at h
    · rename_i fd hf
      split at h
      · rename_i i hi
        cases hz : Nat.beq i.size 0 <;> rw [hz] at h <;> simp only [cond_true, cond_false] at h
        · have hz' : i.size ≠ 0 := by
            intro e; rw [e] at hz; simp at hz
          have run : ∀ (a : Act) (w : World) b q, a.eval x = .pointer (some ⟨b, q, none⟩) → (execOp a.eval o).run P w = .ok (.value (.pointer (some ⟨b, q + fd.offset, none⟩))) w := by
            intro a w b q hv
            unfold execOp; rw [ho]
            refine exec_v ?_
            rw [hv]
            unfold Instr.fieldAt
            rw [run_ok (run_under hu)]
            simp only [hf]
            have : (Instr.sureAddr (.pointer (some ⟨b, q, none⟩))).run P w = .ok ⟨b, q, none⟩ w := rfl
            rw [run_ok this, run_ok (run_fieldPlace hi hz' b q)]; rfl
          split at h
          · rename_i k off
            refine fin_intro h (fun G ι ok a w hs => ?_)
            have := hs.opnd hp
            generalize hv : a.eval x = v at this
            cases this with
            | ptr g => exact ⟨_, run a w _ _ hv, .ptr g⟩
          · rename_i k sz i j
            refine fin_intro h (fun G ι ok a w hs => ?_)
            have := hs.opnd hp
            generalize hv : a.eval x = v at this
            cases this with
            | eptr g g1 g2 =>
              refine ⟨_, run a w _ _ hv, ?_⟩
              rw [Nat.add_assoc, Nat.add_assoc]
              exact .eptr g g1 g2
          · rename_i z j
            refine fin_intro h (fun G ι ok a w hs => ?_)
            have := hs.opnd hp
            generalize hv : a.eval x = v at this
            cases this with
            | rp val g1 g2 g3 =>
              refine ⟨_, run a w _ _ hv, ?_⟩
              rw [Nat.add_assoc]
              exact .rp val g1 g2 g3
          · cases h
        · cases h
      · cases h
    · cases h
  · cases h
theorem evFieldAddr_ok {s : TypeId} {x : Operand} {f : Nat} (ho : o.op = .fieldAddr s x f) (h : evFieldAddr P o s x f st K = some r) :
    ∃ x st', RunsOp P o st x st' ∧ K x st' = some r := (evFieldAddr_fin ho h).ok
theorem evNilCheck_fin {x : Operand} (ho : o.op = .nilCheck x) (h : evNilCheck o x st K = some r) :
    Fin P o st K r := by
  unfold evNilCheck at h
  split at h <;> first | (cases h; done) | skip
  all_goals
    rename_i hx
    refine fin_intro h (fun G ι ok a w hs => ?_)
    have := hs.opnd hx
    refine ⟨a.eval x, ?_, this⟩
    unfold execOp; rw [ho]
    generalize hv : a.eval x = v at this
    cases this <;> (simp only [hv]; rfl)
theorem evNilCheck_ok {x : Operand} (ho : o.op = .nilCheck x) (h : evNilCheck o x st K = some r) :
    ∃ x st', RunsOp P o st x st' ∧ K x st' = some r := (evNilCheck_fin ho h).ok
theorem part_ok {w : World} {ok : Nat → Prop} {B : Nat} {ι : Loci} {t : TypeId} {cs : List AV} {off : Nat} {y : AV} (h : pickCells P t cs off = some y) {vs : Array Value} (hl : vs.size = cs.length)
    (hr : ∀ i, i < cs.length → Rep w ok B ι (cs.getD i default) (vs.getD i undef)) : ∃ cv, (part t vs off).run P w = .ok cv w ∧ Rep w ok B ι y cv := by
  unfold pickCells at h
  split at h
  · rename_i d hu
    cases hag : isAggT P t <;> rw [hag] at h <;> simp only [cond_true, cond_false] at h
    · have hlt : off < cs.length := by
        rcases Nat.lt_or_ge off cs.length with g | g
        · exact g
        · rw [List.getElem?_eq_none g] at h; cases h
      have hlt' : off < vs.size := by omega
      refine ⟨vs.getD off undef, ?_, ?_⟩
      · unfold part
        rw [run_ok (run_isAgg hu), hag]
        simp only [Array.getD_eq_getD_getElem?, Array.getElem?_eq_getElem hlt']; rfl
      · have := hr off hlt
        rw [List.getD_eq_getElem?_getD, h] at this; exact this
    · split at h
      · rename_i i hi
        obtain ⟨hle, h⟩ := cond_none h
        injection h with h; subst h
        have hle : off + i.size ≤ cs.length := Nat.le_of_ble_eq_true hle
        refine ⟨.agg (vs.extract off (off + i.size)), ?_, ?_⟩
        · unfold part
          rw [run_ok (run_isAgg hu), hag]
          show (do pure (.agg (vs.extract off (off + (← sizeOf t)))) : Sem Value).run P w = _
          rw [run_ok (run_size hi)]; rfl
        · refine .agg (by simp; omega) (fun j hj => ?_)
          have hj' : j < i.size := by
            have := List.length_take_le i.size (cs.drop off); omega
          have := hr (off + j) (by omega)
          have e1 : ((cs.drop off).take i.size).getD j default = cs.getD (off + j) default := by
            simp only [List.getD_eq_getElem?_getD, List.getElem?_take, List.getElem?_drop]
            rw [if_pos hj']
          have e2 : (vs.extract off (off + i.size)).getD j undef = vs.getD (off + j) undef := by
            simp only [Array.getD_eq_getD_getElem?, Array.getElem?_extract]
            rw [if_pos (by omega)]
          rw [e1, e2]; exact this
      · cases h
  · cases h
theorem evField_fin {s : TypeId} {x : Operand} {f : Nat} (ho : o.op = .field s x f) (h : evField P o s x f st K = some r) :
    Fin P o st K r := by
  unfold evField at h
  split at h
  · rename_i fs cs hu hx
    split at h
    · rename_i fd hf
      split at h
      · rename_i y hy
        refine fin_intro h (fun G ι ok a w hs => ?_)
        obtain ⟨vs, e, hl, hr⟩ := rep_agg_inv (hs.opnd hx)
        obtain ⟨cv, h1, h2⟩ := part_ok (P := P) (w := w) hy hl hr
        refine ⟨cv, ?_, h2⟩
        unfold execOp; rw [ho]
        refine exec_v ?_
        rw [e]
        unfold Instr.field
        rw [run_ok (run_under hu)]
        simp only [hf]
        have : (asAgg (.agg vs)).run P w = .ok vs w := rfl
        rw [run_ok this]; exact h1
      · cases h
    · cases h
  · cases h
theorem evField_ok {s : TypeId} {x : Operand} {f : Nat} (ho : o.op = .field s x f) (h : evField P o s x f st K = some r) :
    ∃ x st', RunsOp P o st x st' ∧ K x st' = some r := (evField_fin ho h).ok
theorem evIface_ok {t : TypeId} {x : Operand} (ho : o.op = .makeInterface t x) (h : evIface P o t x st K = some r) : ∃ x st', RunsOp P o st x st' ∧ K x st' = some r := by
  unfold evIface at h
  split at h
  · cases h
  · rename_i d y hni hu hy
    refine runs_fin h (fun G ι ok a w hs => ⟨_, ?_, .iface (hs.opnd hy)⟩)
    unfold execOp; rw [ho]
    refine exec_v ?_
    unfold Instr.makeInterface
    rw [run_ok (run_under hu)]
    split
    · rename_i m; exact absurd rfl (hni m)
    · rfl
  · cases h
theorem opnds_ok {G : Base} {ι : Loci} {ok : Nat → Prop} {a : Act} {w : World} (hs : SimI G ι ok st a w) : ∀ (l : List Operand) (ys : List AV), opnds st l = some ys → ys.length = l.length ∧
    ∀ i, i < ys.length → Rep w ok G.B ι (ys.getD i default) ((l.map a.eval).getD i undef)
  | [], ys, h => by simp only [opnds] at h; injection h with h; subst h; exact ⟨rfl, fun i hi => by simp at hi⟩
  | x :: l, ys, h => by
    simp only [opnds] at h
    split at h
    · rename_i y zs hy hz
      injection h with h; subst h
      have ih := opnds_ok hs l zs hz
      refine ⟨by simp [ih.1], fun i hi => ?_⟩
      cases i with
      | zero => simpa using hs.opnd hy
      | succ i => simpa using ih.2 i (by simpa using hi)
    · cases h
theorem arr_getD (l : Array Operand) (f : Operand → Value) (i : Nat) : (l.map f).getD i undef = (l.toList.map f).getD i undef := by
  simp [Array.getD_eq_getD_getElem?, List.getD_eq_getElem?_getD]
theorem evFunc_ok {fn : Fn} {first captured : Array Operand} (ho : o.op = .makeFunc fn first captured) (h : evFunc o fn first captured st K = some r) : ∃ x st', RunsOp P o st x st' ∧ K x st' = some r := by
  unfold evFunc at h
  split at h
  · rename_i xs ys hx hy
    refine runs_fin h (fun G ι ok a w hs => ?_)
    have h1 := opnds_ok hs _ _ hx
    have h2 := opnds_ok hs _ _ hy
    refine ⟨.func fn (first.map a.eval) (captured.map a.eval), ?_, .fn (by simp [h1.1]) (by simp [h2.1]) (fun i hi => by rw [arr_getD]; exact h1.2 i hi) (fun i hi => by rw [arr_getD]; exact h2.2 i hi)⟩
    unfold execOp; rw [ho]; rfl
  · cases h
theorem sliceLen_ok {G : Base} {ι : Loci} {ok : Nat → Prop} {a : Act} {w : World} (hs : SimI G ι ok st a w) {y : AV} {v : Value} {n : Nat} (hy : Rep w ok G.B ι y v) (h : sliceLen st y = some n) :
    ∃ b c, v = .slice b n c := by
  cases y with
  | nils => injection h with h; subst h; cases hy; exact ⟨_, _, rfl⟩
  | own k =>
    simp only [sliceLen] at h
    split at h
    · rename_i ow l hk
      injection h with h; subst h
      obtain ⟨L, h1, h2, _⟩ := hs.objs _ _ hk
      cases hy with
      | own g g1 => rw [h1] at g; injection g with g; subst g; rw [h2]; exact ⟨_, _, rfl⟩
      | own0 g g1 g2 => rw [h1] at g; injection g with g; subst g; rw [h2] at g2; rw [g2]; exact ⟨_, _, rfl⟩
    · cases h
  | sl k sz off len => injection h with h; subst h; cases hy <;> exact ⟨_, _, rfl⟩
  | ro nw l =>
    injection h with h; subst h
    cases hy with
    | ro val g1 => rw [← g1]; exact ⟨_, _, rfl⟩
    | ro0 g1 => rw [← g1]; exact ⟨_, _, rfl⟩
  | _ => cases h
/-- a builtin's run -/
theorem exec_builtin {b : Builtin} {args : Array Operand} {ats : Array TypeId} {a : Act} {w : World} (ho : o.op = .call { callee := .builtin b, args := args, argTypes := ats }) :
    (execOp a.eval o).run P w = (builtin b ats o.type (args.map fun | .const _ => true | _ => false) (args.map a.eval)).run P w := by
  unfold execOp; rw [ho]
  show (do let d ← resolve a.eval { callee := .builtin b, args := args, argTypes := ats } o.type; invoke d.target d.args : Sem Next).run P w = _
  have : (resolve a.eval { callee := .builtin b, args := args, argTypes := ats } o.type).run P w =
    .ok { target := .builtin b ats o.type (args.map fun | .const _ => true | _ => false), args := args.map a.eval } w := rfl
  rw [run_ok this]; rfl
theorem evLen_fin {t : TypeId} {x : Operand} {ats : Array TypeId} (ho : o.op = .call { callee := .builtin .len, args := #[x], argTypes := ats }) (hat : ats[0]? = some t) (h : evLen P o t x st K = some r) :
    Fin P o st K r := by
  have run : ∀ (a : Act) (w : World) (v : Value), (Builtin.len_ ats o.type #[a.eval x]).run P w = .ok v w → (execOp a.eval o).run P w = .ok (.value v) w := by
    intro a w v hv
    rw [exec_builtin ho, show (#[x].map a.eval) = #[a.eval x] by simp]
    exact exec_v hv
  unfold evLen at h
  split at h
  · rename_i s hu hx
    refine fin_intro h (fun G ι ok a w hs => ⟨_, run a w _ ?_, .v _⟩)
    rw [rep_v_inv (hs.opnd hx)]
    unfold Builtin.len_
    rw [hat]
    show (do match ← underlying t, Value.string s with | _, _ => _ : Sem Value).run P w = _
    rw [run_ok (run_under hu)]; rfl
  · rename_i e y hu hy
    split at h
    · rename_i n hn
      refine fin_intro h (fun G ι ok a w hs => ⟨_, run a w _ ?_, .v _⟩)
      obtain ⟨b, c, e1⟩ := sliceLen_ok hs (hs.opnd hy) hn
      rw [e1]
      unfold Builtin.len_
      rw [hat]
      show (do match ← underlying t, Value.slice b n c with | _, _ => _ : Sem Value).run P w = _
      rw [run_ok (run_under hu)]; rfl
    · cases h
  · rename_i n e y hu hy
    refine fin_intro h (fun G ι ok a w hs => ⟨_, run a w _ ?_, .v _⟩)
    unfold Builtin.len_
    rw [hat]
    show (do match ← underlying t, a.eval x with | _, _ => _ : Sem Value).run P w = _
    rw [run_ok (run_under hu)]; rfl
  · cases h
theorem evLen_ok {t : TypeId} {x : Operand} {ats : Array TypeId} (ho : o.op = .call { callee := .builtin .len, args := #[x], argTypes := ats }) (hat : ats[0]? = some t) (h : evLen P o t x st K = some r) :
    ∃ x st', RunsOp P o st x st' ∧ K x st' = some r := (evLen_fin ho hat h).ok
theorem evCap_fin {t : TypeId} {x : Operand} {ats : Array TypeId} (ho : o.op = .call { callee := .builtin .cap, args := #[x], argTypes := ats }) (hat : ats[0]? = some t) (h : evCap P o t x st K = some r) :
    Fin P o st K r := by
  unfold evCap at h
  split at h
  · rename_i e hu hx
    refine fin_intro h (fun G ι ok a w hs => ⟨.int .i64 0, ?_, .v _⟩)
    rw [exec_builtin ho, show (#[x].map a.eval) = #[a.eval x] by simp]
    refine exec_v ?_
    have hv := hs.opnd hx
    generalize a.eval x = v at hv
    cases hv
    show (Builtin.cap_ ats o.type #[.slice none 0 0]).run P w = _
    unfold Builtin.cap_
    rw [hat]
    show (do match ← underlying t, Value.slice none 0 0 with | _, _ => _ : Sem Value).run P w = _
    rw [run_ok (run_under hu)]; rfl
  · cases h
theorem evCap_ok {t : TypeId} {x : Operand} {ats : Array TypeId} (ho : o.op = .call { callee := .builtin .cap, args := #[x], argTypes := ats }) (hat : ats[0]? = some t) (h : evCap P o t x st K = some r) :
    ∃ x st', RunsOp P o st x st' ∧ K x st' = some r := (evCap_fin ho hat h).ok
end
end Go.Ev

namespace Go.Ev
set_option linter.unusedSimpArgs false
set_option linter.unusedVariables false
/-! ### renaming of keys -/
section
variable {w : World} {ok : Nat → Prop} {B : Nat} {ι ι' : Loci} {κ : Nat → Key}
def RenOK (w : World) (ok : Nat → Prop) (B : Nat) (ι ι' : Loci) (κ : Nat → Key) (p : Pat) : Prop := ∀ (t : p.T) (v : Value), Rep w ok B ι (p.enc (fun j => j) t) v → Rep w ok B ι' (p.enc κ t) v
def RensOK (w : World) (ok : Nat → Prop) (B : Nat) (ι ι' : Loci) (κ : Nat → Key) (l : List Pat) : Prop := ∀ (t : Ts l) (vs : Nat → Value), (encs κ l t).length = (encs (fun j => j) l t).length ∧
  ((∀ i, i < (encs (fun j => j) l t).length → Rep w ok B ι ((encs (fun j => j) l t).getD i default) (vs i)) → ∀ i, i < (encs κ l t).length → Rep w ok B ι' ((encs κ l t).getD i default) (vs i))
theorem rep_fn_inv {ι : Loci} {f : Fn} {first caps : List AV} {v : Value} (h : Rep w ok B ι (.fn f first caps) v) :
    ∃ first' caps', v = .func f first' caps' ∧ first'.size = first.length ∧ caps'.size = caps.length ∧ ∀ i, i < caps.length → Rep w ok B ι (caps.getD i default) (caps'.getD i undef) := by
  cases h; exact ⟨_, _, rfl, ‹_›, ‹_›, ‹_›⟩
theorem Pat.ren (hκ : ∀ j L, ι j = some L → ι' (κ j) = some L) (p : Pat) : RenOK w ok B ι ι' κ p := by
  refine Pat.rec (motive_1 := fun p => RenOK w ok B ι ι' κ p) (motive_2 := fun l => RensOK w ok B ι ι' κ l) ?_ ?_ ?_ ?_ ?_ ?_ ?_ ?_ ?_ ?_ ?_ ?_ ?_ ?_ ?_ ?_ ?_ ?_ ?_ ?_ ?_ ?_ ?_ p
  · intro k t v h; rw [rep_v_inv h]; exact .v _
  · intro t v h; rw [rep_v_inv h]; exact .v _
  · intro t v h; rw [rep_v_inv h]; exact .v _
  · intro t v h; rw [rep_v_inv h]; exact .v _
  · intro t v h; rw [rep_v_inv h]; exact .v _
  · intro t v h; cases h; exact .nils
  · intro t v h; rw [rep_v_inv h]; exact .v _
  · intro nw lk t v h
    cases h with
    | ro val a1 a2 a3 a4 a5 a6 a7 a8 a9 => exact .ro val a1 a2 a3 a4 a5 a6 a7 a8 a9
    | ro0 a1 a2 => exact .ro0 a1 a2
  · intro j t v h
    cases h with
    | own a1 a2 => exact .own (hκ _ _ a1) a2
    | own0 a1 a2 a3 => exact .own0 (hκ _ _ a1) a2 a3
  · intro j sz t v h
    cases h with
    | sl a1 a2 a3 a4 a5 => exact .sl (hκ _ _ a1) a2 a3 a4 a5
    | sl0 a1 a2 a3 => exact .sl0 (hκ _ _ a1) a2 a3
  · intro j off t v h
    cases h with
    | ptr a1 => exact .ptr (hκ _ _ a1)
  · intro f l ih t v h
    obtain ⟨first', caps', rfl, a1, a2, a4⟩ := rep_fn_inv h
    obtain ⟨i1, i2⟩ := ih t (fun i => caps'.getD i Go.undef)
    exact .fn a1 (a2.trans i1.symm) (fun i hi => by simp at hi) (i2 a4)
  · intro l ih t v h
    obtain ⟨vs, rfl, a1, a2⟩ := rep_agg_inv h
    obtain ⟨i1, i2⟩ := ih t (fun i => vs.getD i Go.undef)
    exact .agg (a1.trans i1.symm) (i2 a2)
  · intro l ih t v h
    obtain ⟨vs, rfl, a1, a2⟩ := rep_tuple_inv h
    obtain ⟨i1, i2⟩ := ih t (fun i => vs.getD i Go.undef)
    exact .tuple (a1.trans i1.symm) (i2 a2)
  · intro ty p ih t v h
    cases h with
    | iface a1 => exact .iface (ih _ _ a1)
  · intro j t v h
    cases h with
    | ownN a1 a2 a3 => exact .ownN (hκ _ _ a1) a2 a3
    | ownN0 a1 a2 a3 => exact .ownN0 (hκ _ _ a1) a2 a3
  · intro j off ty t v h
    cases h with
    | bself a1 a2 a3 a4 => exact .bself (hκ _ _ a1) a2 a3 a4
  · intro j t v h
    cases h with
    | mp a1 a2 => exact .mp (hκ _ _ a1) a2
  · intro j t v h
    cases h with
    | ownV a1 a2 => exact .ownV (hκ _ _ a1) a2
    | ownV0 a1 a2 a3 => exact .ownV0 (hκ _ _ a1) a2 a3
  · intro j n t v h
    cases h with
    | csl a1 => exact .csl (hκ _ _ a1)
  · intro t v h; rw [rep_v_inv h]; exact .v _
  · intro t vs; exact ⟨rfl, fun _ i hi => by simp [encs] at hi⟩
  · intro p r ih1 ih2 t vs
    obtain ⟨i1, i2⟩ := ih2 t.2 (fun i => vs (i + 1))
    refine ⟨by simp [encs, i1], fun h i hi => ?_⟩
    cases i with
    | zero =>
      have := h 0 (by simp [encs])
      simp only [encs, List.getD_cons_zero] at this ⊢
      exact ih1 _ _ this
    | succ i =>
      simp only [encs, List.getD_cons_succ, List.length_cons] at hi ⊢
      refine i2 (fun q hq => ?_) i (by omega)
      have := h (q + 1) (by simp only [encs, List.length_cons]; omega)
      simpa only [encs, List.getD_cons_succ] using this
theorem rens (hκ : ∀ j L, ι j = some L → ι' (κ j) = some L) : ∀ l : List Pat, RensOK w ok B ι ι' κ l
  | [] => fun t vs => ⟨rfl, fun _ i hi => by simp [encs] at hi⟩
  | p :: r => fun t vs => by
    obtain ⟨i1, i2⟩ := rens hκ r t.2 (fun i => vs (i + 1))
    refine ⟨by simp [encs, i1], fun h i hi => ?_⟩
    cases i with
    | zero =>
      have := h 0 (by simp [encs])
      simp only [encs, List.getD_cons_zero] at this ⊢
      exact Pat.ren hκ p _ _ this
    | succ i =>
      simp only [encs, List.getD_cons_succ, List.length_cons] at hi ⊢
      refine i2 (fun q hq => ?_) i (by omega)
      have := h (q + 1) (by simp only [encs, List.length_cons]; omega)
      simpa only [encs, List.getD_cons_succ] using this
theorem OPat.ren (hκ : ∀ j L, ι j = some L → ι' (κ j) = some L) {p : OPat} {t : p.T} {j : Nat} (h : ObjOK w ok B ι j (p.enc (fun j => j) t)) : ObjOK w ok B ι' (κ j) (p.enc κ t) := by
  cases p with
  | cells l =>
    obtain ⟨L, vs, ty, h1, h2, h3, h4, h5⟩ := h
    obtain ⟨i1, i2⟩ := rens hκ l t (fun i => vs.getD i undef)
    exact ⟨L, vs, ty, hκ _ _ h1, h2, h3, h4.trans i1.symm, i2 h5⟩
  | row lk => obtain ⟨L, h1, h2⟩ := h; exact ⟨L, hκ _ _ h1, h2⟩
  | iter => obtain ⟨L, h1, h2⟩ := h; exact ⟨L, hκ _ _ h1, h2⟩
  | dead => trivial
  | mapS => obtain ⟨L, vs, c, h1, h2⟩ := h; exact ⟨L, vs, c, hκ _ _ h1, h2⟩
  | coll => obtain ⟨L, h1, h2⟩ := h; exact ⟨L, hκ _ _ h1, h2⟩
theorem OPat.owned_enc {p : OPat} {t : p.T} {κ κ' : Nat → Key} : (p.enc κ t).owned = (p.enc κ' t).owned := by cases p <;> rfl
end
theorem look_append {α : Type} : ∀ (l l' : List (Nat × α)) (k : Nat), look (l ++ l') k = match look l k with | some x => some x | none => look l' k
  | [], _, _ => rfl
  | (i, a) :: r, l', k => by
    rw [List.cons_append, look_cons, look_cons]
    split
    · rfl
    · exact look_append r l' k
theorem encObjs_id {l : List OPat} {j : Nat} {y : TOs l} {k : Nat} {o : AObj} (h : look (encObjs (fun j => j) l j y) k = some o) : j ≤ k ∧ k < j + l.length := by
  induction l generalizing j with
  | nil => cases h
  | cons p r ih =>
    simp only [encObjs, look_cons] at h
    split at h
    · rename_i e; subst e; exact ⟨Nat.le_refl _, by simp⟩
    · have := ih h; exact ⟨by omega, by simp only [List.length_cons]; omega⟩
theorem encObjs_look (κ : Nat → Key) : ∀ (l : List OPat) (j : Nat) (y : TOs l) (k : Nat) (o : AObj), look (encObjs κ l j y) k = some o →
    ∃ (i : Nat) (p : OPat) (t : p.T), κ i = k ∧ o = p.enc κ t ∧ look (encObjs (fun j => j) l j y) i = some (p.enc (fun j => j) t)
  | [], _, _, _, _, h => by cases h
  | p :: r, j, y, k, o, h => by
    simp only [encObjs, look_cons] at h
    split at h
    · rename_i e; injection h with h; subst h
      exact ⟨j, p, y.1, e, rfl, by simp only [encObjs, look_cons]; simp⟩
    · obtain ⟨i, p', t, h1, h2, h3⟩ := encObjs_look κ r (j + 1) y.2 k o h
      refine ⟨i, p', t, h1, h2, ?_⟩
      simp only [encObjs, look_cons]
      have := (encObjs_id h3).1
      rw [if_neg (by omega)]; exact h3
theorem encSlots_look (κ : Nat → Key) : ∀ (l : List (Nat × Pat)) (y : Ts (l.map (·.2))) (k : Nat) (x : AV), look (encSlots κ l y) k = some x →
    ∃ (p : Pat) (t : p.T), x = p.enc κ t ∧ look (encSlots (fun j => j) l y) k = some (p.enc (fun j => j) t)
  | [], _, _, _, h => by cases h
  | (i, p) :: r, y, k, x, h => by
    simp only [encSlots, look_cons] at h
    split at h
    · rename_i e; injection h with h; subst h
      exact ⟨p, y.1, rfl, by simp only [encSlots, look_cons]; rw [if_pos e]⟩
    · rename_i e
      obtain ⟨p', t, h1, h2⟩ := encSlots_look κ r y.2 k x h
      exact ⟨p', t, h1, by simp only [encSlots, look_cons]; rw [if_neg e]; exact h2⟩

/-! ### functions -/
def EndK : XK → Ending → Value → Prop
  | .normal, e, v => e = .returned v
  | .pan, e, v => e = .panicked [{ v := v, recovered := false }]
  | _, _, _ => False
def EndSim (G : Base) : (outs : Outs) → ESum outs → Ending → World → Prop
  | [], y, _, _ => nomatch y
  | [o], y, e, w => ∃ v, EndK o.1 e v ∧ Sim G (o.2.enc 1 y) ⟨#[v], []⟩ w
  | o :: o' :: r, y, e, w => Sum.elim (fun y => ∃ v, EndK o.1 e v ∧ Sim G (o.2.enc 1 y) ⟨#[v], []⟩ w) (fun y => EndSim G (o' :: r) y e w) y
/-- A function of the program does what a function of data tells. -/
def CallOK (P : Program) (f : FuncId) (na : Nat) (tin : Tmpl) (outs : Outs) (fn : tin.T → Option (ESum outs)) : Prop :=
  ∀ x y, fn x = some y → ∀ G cargs w, G.w0 = w → cargs.size = na → Sim G (tin.enc na x) ⟨cargs, []⟩ w → Calls P f cargs w (EndSim G outs y)

def resAV (P : Program) (st : St) : ResultVar → Option AV
  | .tmp t => look st.ts t
  | .cell a t => match look st.ts a with
    | some p => loadAV P st t p
    | none => none
def resAVs (P : Program) (st : St) : List ResultVar → Option (List AV)
  | [] => some []
  | x :: r => match resAV P st x, resAVs P st r with
    | some y, some ys => some (y :: ys)
    | _, _ => none
def oneOr : List AV → AV
  | [x] => x
  | l => .tuple l
def kEq : XK → XK → Bool
  | .normal, .normal => true
  | .pan, .pan => true
  | _, _ => false
def decEnds : (outs : Outs) → XK → St → Option (ESum outs)
  | [], _, _ => none
  | [o], k, st => bif kEq o.1 k then decT o.2 st else none
  | o :: o' :: r, k, st => match (bif kEq o.1 k then decT o.2 st else none) with
    | some y => some (.inl y)
    | none => match decEnds (o' :: r) k st with
      | some y => some (.inr y)
      | none => none
def decFn (P : Program) (rs : List ResultVar) (outs : Outs) (x : X) (st : St) : Option (ESum outs) :=
  bif st.df.isEmpty then (match x with
    | .normal | .ret => match resAVs P st rs with
      | some vs => decEnds outs .normal (st.one (oneOr vs))
      | none => none
    | .pan v => decEnds outs .pan (st.one v)
    | _ => none) else none
theorem decEnds_sim {G : Base} {e : Ending} {v : Value} {w : World} : ∀ {outs : Outs} {k : XK} {st : St} {y : ESum outs}, decEnds outs k st = some y → st.n = 1 → EndK k e v → Sim G st ⟨#[v], []⟩ w → EndSim G outs y e w
  | [], k, st, y, h, _, _, _ => nomatch y
  | [o], k, st, y, h, hn, he, hs => by
    obtain ⟨hk, h⟩ := cond_none h
    have hk' : EndK o.1 e v := by
      obtain ⟨ok, ot⟩ := o
      cases ok <;> cases k <;> first | exact he | (cases hk; done)
    have := decT_sim h hs
    rw [hn] at this
    exact ⟨v, hk', this⟩
  | o :: o' :: r, k, st, y, h, hn, he, hs => by
    unfold decEnds at h
    split at h
    · rename_i z hz
      injection h with h; subst h
      obtain ⟨hk, h⟩ := cond_none hz
      have hk' : EndK o.1 e v := by
        obtain ⟨ok, ot⟩ := o
        cases ok <;> cases k <;> first | exact he | (cases hk; done)
      have := decT_sim h hs
      rw [hn] at this
      exact ⟨v, hk', this⟩
    · split at h
      · rename_i z hz; injection h with h; subst h; exact decEnds_sim (outs := o' :: r) hz hn he hs
      · cases h
def resOne (tmps : Array Value) : ResultVar → Sem Value
  | .tmp t => pure (tmps.getD t undef)
  | .cell a t => do loadVar t (← asAddr (tmps.getD a undef))
theorem results_eq (fnc : Func) (tmps : Array Value) : results fnc tmps = (do let vs ← fnc.results.mapM (resOne tmps); pure (if h : vs.size = 1 then vs[0] else .tuple vs)) := rfl
section
variable {P : Program} {G : Base} {ι : Loci} {ok : Nat → Prop} {st : St} {a : Act} {w : World}
theorem resAV_ok (hs : SimI G ι ok st a w) {x : ResultVar} {y : AV} (h : resAV P st x = some y) : ∃ cv,
    (resOne a.tmps x).run P w = .ok cv w ∧ Rep w ok G.B ι y cv := by
  cases x with
  | tmp t => exact ⟨_, rfl, (hs.slots t y h).2⟩
  | cell p t =>
    simp only [resAV] at h
    split at h
    · rename_i q hq
      have hr := (hs.slots p q hq).2
      obtain ⟨cv, h1, h2⟩ := loadAV_ok (P := P) hs hr h
      refine ⟨cv, ?_, h2⟩
      show (do loadVar t (← asAddr (a.tmps.getD p undef)) : Sem Value).run P w = _
      generalize a.tmps.getD p undef = v at hr h1
      have key : ∀ ad : Addr, v = .pointer (some ad) → (do loadVar t (← asAddr v) : Sem Value).run P w = .ok cv w := by
        intro ad e
        subst e
        have e1 : (asAddr (.pointer (some ad))).run P w = .ok ad w := rfl
        have e2 : (Instr.sureAddr (.pointer (some ad))).run P w = .ok ad w := rfl
        rw [run_ok e1]
        unfold Instr.loadAt at h1
        rw [run_ok e2] at h1; exact h1
      cases hr with
      | ptr g => exact key _ rfl
      | eptr g _ _ => exact key _ rfl
      | rp _ _ _ _ => exact key _ rfl
      | _ => first | (simp [loadAV] at h; done) | skip
    · cases h
theorem resAVs_ok (hs : SimI G ι ok st a w) : ∀ (l : List ResultVar) (ys : List AV), resAVs P st l = some ys → ∃ vs : List Value,
    (l.mapM (resOne a.tmps)).run P w = .ok vs w ∧ vs.length = ys.length ∧
    ∀ i, i < ys.length → Rep w ok G.B ι (ys.getD i default) (vs.getD i undef)
  | [], ys, h => by simp only [resAVs] at h; injection h with h; subst h; exact ⟨[], rfl, rfl, fun i hi => by simp at hi⟩
  | x :: l, ys, h => by
    simp only [resAVs] at h
    split at h
    · rename_i y zs hy hz
      injection h with h; subst h
      obtain ⟨cv, h1, h2⟩ := resAV_ok (P := P) hs hy
      obtain ⟨vs, g1, g2, g3⟩ := resAVs_ok hs l zs hz
      refine ⟨cv :: vs, ?_, by simp [g2], fun i hi => ?_⟩
      · rw [List.mapM_cons, run_ok h1, run_ok g1]; rfl
      · cases i with
        | zero => simpa using h2
        | succ i => simpa using g3 i (by simpa using hi)
    · cases h
theorem results_ok (hs : SimI G ι ok st a w) {fnc : Func} {ys : List AV} (h : resAVs P st fnc.results.toList = some ys) : ∃ cv, (results fnc a.tmps).run P w = .ok cv w ∧ Rep w ok G.B ι (oneOr ys) cv := by
  obtain ⟨vs, h1, h2, h3⟩ := resAVs_ok (P := P) hs _ _ h
  have hrun : (results fnc a.tmps).run P w = .ok (if h : vs.toArray.size = 1 then vs.toArray[0] else .tuple vs.toArray) w := by
    rw [results_eq, Array.mapM_eq_mapM_toList]
    have : (List.toArray <$> (fnc.results.toList.mapM (resOne a.tmps)) : Sem (Array Value)).run P w = .ok vs.toArray w := by
      rw [← bind_pure_comp, run_ok h1]; rfl
    rw [run_ok this]; rfl
  match ys, h2, h3 with
  | [y], h2, h3 =>
    obtain ⟨v, rfl⟩ : ∃ v, vs = [v] := by
      match vs, h2 with
      | [v], _ => exact ⟨v, rfl⟩
    exact ⟨v, hrun, h3 0 (by simp)⟩
  | [], h2, h3 =>
    have : vs = [] := List.length_eq_zero_iff.1 h2
    subst this
    exact ⟨_, hrun, .tuple rfl (fun i hi => by simp at hi)⟩
  | y :: y' :: r, h2, h3 =>
    refine ⟨.tuple vs.toArray, ?_, .tuple (by simpa using h2) (fun i hi => ?_)⟩
    · rw [hrun, dif_neg (by simp at h2 ⊢; omega)]
    · have := h3 i hi
      simpa [Array.getD_eq_getD_getElem?, List.getD_eq_getElem?_getD] using this
end
theorem fn_ok {P : Program} {f : FuncId} {fnc : Func} {c : Code} {na n : Nat} {tin : Tmpl} {outs : Outs} {fn : tin.T → Option (ESum outs)} {E : EvO (ESum outs)} {L : EvL (ESum outs)}
    (hf : P.funcs[f]? = some fnc) (hb : fnc.body = some c) (hn : fnc.ntmps = n) (hna : Nat.ble na n = true) (hE : EOK P E) (hL : LGood P L 1 c)
    (h : ∀ x, evCode E L 1 c (tin.enc n x) (decFn P fnc.results.toList outs) = fn x) : CallOK P f na tin outs fn := by
  intro x y hy G cargs w hw hsz hs
  have hle : na ≤ n := Nat.le_of_ble_eq_true hna
  rw [← h x] at hy
  obtain ⟨ex, st', hr, hk⟩ := evCode_ok hE c 1 _ _ _ hL hy
  refine calls_of_wp hf hb ?_
  obtain ⟨ι, ok, hs⟩ := hs
  have hs2 : Sim G (tin.enc n x) { tmps := cargs ++ Array.replicate (fnc.ntmps - cargs.size) undef, defers := [] } w := by
    refine ⟨ι, ok, ?_⟩
    exact { hs with
      size := by simp [Tmpl.enc, hn, hsz]; omega
      slots := by
        intro t z hz
        obtain ⟨h1, h2⟩ := hs.slots t z hz
        have h1 : t < na := h1
        refine ⟨Nat.lt_of_lt_of_le h1 hle, ?_⟩
        have e : (cargs ++ Array.replicate (fnc.ntmps - cargs.size) undef).getD t undef = cargs.getD t undef := by
          simp only [Array.getD_eq_getD_getElem?]
          rw [Array.getElem?_append_left (by omega)]
        show Rep w ok G.B ι z ((cargs ++ Array.replicate (fnc.ntmps - cargs.size) undef).getD t undef)
        rw [e]; exact h2 }
  refine hr G _ w _ hs2 (fun e' a' w' hx => ?_)
  obtain ⟨hdf, hk⟩ := cond_none hk
  have hdf : st'.df = [] := List.isEmpty_iff.1 hdf
  have ret : ∀ (ι' ok'), SimI G ι' ok' st' a' w' → (match resAVs P st' fnc.results.toList with
      | some vs => decEnds outs .normal (st'.one (oneOr vs))
      | none => none) = some y → a'.defers = [] ∧ ∃ v, (results fnc a'.tmps).run P w' = .ok v w' ∧ EndSim G outs y (.returned v) w' := by
    intro ι' ok' hs' hk
    have hd : a'.defers = [] := List.length_eq_zero_iff.1 (by rw [hs'.dfn, hdf]; rfl)
    refine ⟨hd, ?_⟩
    split at hk
    · rename_i vs hvs
      obtain ⟨cv, h1, h2⟩ := results_ok (P := P) hs' hvs
      refine ⟨cv, h1, decEnds_sim hk rfl rfl ?_⟩
      have := hs'.one h2
      rw [hd] at this
      exact ⟨_, _, this⟩
    · cases hk
  cases ex with
  | normal =>
    obtain ⟨rfl, ι', ok', hs'⟩ := hx
    exact ret ι' ok' hs' hk
  | ret =>
    obtain ⟨rfl, ι', ok', hs'⟩ := hx
    exact ret ι' ok' hs' hk
  | pan v =>
    obtain ⟨ι', ok', cv, rfl, hv, hs'⟩ := hx
    have hd : a'.defers = [] := List.length_eq_zero_iff.1 (by rw [hs'.dfn, hdf]; rfl)
    refine ⟨hd, decEnds_sim hk rfl rfl ?_⟩
    have := hs'.one hv
    rw [hd] at this
    exact ⟨_, _, this⟩
  | exit i => cases hk
  | goto i => cases hk
end Go.Ev

namespace Go.Ev
set_option linter.unusedSimpArgs false
set_option linter.unusedVariables false
def CRuns (P : Program) (f : FuncId) (args : List AV) (st : St) (xk : XK) (v : AV) (st' : St) : Prop :=
  ∀ G ι ok a w (cargs : Array Value), SimI G ι ok st a w → cargs.size = args.length → (∀ i, i < args.length → Rep w ok G.B ι (args.getD i default) (cargs.getD i undef)) →
    Calls P f cargs w fun e w' => ∃ cv ι' ok', EndK xk e cv ∧ SimI G ι' ok' st' a w' ∧ Rep w' ok' G.B ι' v cv
abbrev CallF (R : Type) := List AV → St → (XK → AV → St → Option R) → Option R
def CFOK {R : Type} (P : Program) (f : FuncId) (cf : CallF R) : Prop := ∀ args st K r, cf args st K = some r → ∃ xk v st', CRuns P f args st xk v st' ∧ K xk v st' = some r

def numbered : List AV → Nat → List (Nat × AV)
  | [], _ => []
  | x :: r, i => (i, x) :: numbered r (i + 1)
theorem numbered_look : ∀ (l : List AV) (i k : Nat) (x : AV), look (numbered l i) k = some x → i ≤ k ∧ k < i + l.length ∧ l.getD (k - i) default = x
  | [], _, _, _, h => by cases h
  | y :: r, i, k, x, h => by
    simp only [numbered, look_cons] at h
    split at h
    · rename_i e; subst e; injection h with h; subst h; exact ⟨Nat.le_refl _, by simp, by simp⟩
    · rename_i e
      obtain ⟨h1, h2, h3⟩ := numbered_look r (i + 1) k x h
      refine ⟨by omega, by simp only [List.length_cons]; omega, ?_⟩
      rw [show k - i = (k - (i + 1)) + 1 by omega]; simpa using h3
def ckey (kb : KB) (st : St) (t : Tmpl) (j : Nat) : Key :=
  match look t.tags j with
  | some g => match look kb g with
    | some k => k
    | none => st.nk + j
  | none => st.nk + j
def kills : KB → List (Key × AObj)
  | [] => []
  | (_, k) :: r => (k, .dead) :: kills r
def coutSt (kb : KB) (st : St) (t : Tmpl) (y : t.T) : St :=
  { st with nk := st.nk + t.objs.length, ar := encObjs (ckey kb st t) t.objs 0 y.2.1 ++ (kills kb ++ st.ar) }
def coutK {R : Type} (kb : KB) (st : St) : (outs : Outs) → ESum outs → (XK → AV → St → Option R) → Option R
  | [], y, _ => nomatch y
  | [o], y, K => match look (encSlots (ckey kb st o.2) o.2.ts y.1) 0 with
    | some v => K o.1 v (coutSt kb st o.2 y)
    | none => none
  | o :: o' :: r, y, K => Sum.elim (fun y => match look (encSlots (ckey kb st o.2) o.2.ts y.1) 0 with
    | some v => K o.1 v (coutSt kb st o.2 y)
    | none => none) (fun y => coutK kb st (o' :: r) y K) y
def Tmpl.free (t : Tmpl) : Tmpl := { t with tags := [] }
def tagLive (t : Tmpl) : Bool := t.tags.all fun p => Nat.beq p.1 p.2 && (match t.objs[p.1]? with | some .dead => false | some _ => true | none => false)
def crun {R : Type} (na : Nat) (tin : Tmpl) (outs : Outs) (fn : tin.T → Option (ESum outs)) : CallF R := fun args st K =>
  bif Nat.beq args.length na then (match tin.free.dec ⟨na, st.nk, numbered args 0, st.ar, [], []⟩ with
    | some p => (fn p.1).bind fun y => coutK p.2 st outs y K
    | none => none) else none

theorem kills_look : ∀ (kb : KB) (k : Key) (o : AObj), look (kills kb) k = some o → o = .dead
  | [], _, _, h => by cases h
  | (_, k') :: r, k, o, h => by
    simp only [kills, look_cons] at h
    split at h
    · injection h with h; exact h.symm
    · exact kills_look r k o h
theorem kills_none : ∀ (kb : KB) (k : Key), look (kills kb) k = none → ∀ j, look kb j ≠ some k
  | [], _, _, j => by intro h; cases h
  | (i, k') :: r, k, h, j => by
    simp only [kills, look_cons] at h
    split at h
    · cases h
    · rename_i e
      intro hj
      rw [look_cons] at hj
      split at hj
      · injection hj with hj; exact e hj
      · exact kills_none r k h j hj
theorem objs_get : ∀ (l : List OPat) (i : Nat) (y : TOs l) (j : Nat) (p : OPat), l[j]? = some p → p ≠ .dead → ∃ o, look (encObjs (fun j => j) l i y) (i + j) = some o ∧ o ≠ .dead
  | [], _, _, j, p, h, _ => by simp at h
  | q :: r, i, y, 0, p, h, hp => by
    simp at h; subst h
    refine ⟨q.enc (fun j => j) y.1, by simp [encObjs, look_cons], ?_⟩
    cases q with
    | dead => exact absurd rfl hp
    | _ => intro h; cases h
  | q :: r, i, y, j + 1, p, h, hp => by
    simp at h
    obtain ⟨o, h1, h2⟩ := objs_get r (i + 1) y.2 j p h hp
    refine ⟨o, ?_, h2⟩
    simp only [encObjs, look_cons]
    rw [if_neg (by omega), show i + (j + 1) = i + 1 + j by omega]; exact h1
theorem objOK_place {w : World} {ok : Nat → Prop} {B : Nat} {ι : Loci} {k : Key} {o : AObj} (h : ObjOK w ok B ι k o) (hd : o ≠ .dead) : ∃ L, ι k = some L := by
  cases o with
  | cells cs => obtain ⟨L, _, _, h1, _⟩ := h; exact ⟨L, h1⟩
  | row ow l => obtain ⟨L, h1, _⟩ := h; exact ⟨L, h1⟩
  | iter s p => obtain ⟨L, h1, _⟩ := h; exact ⟨L, h1⟩
  | mapS es => obtain ⟨L, vs, c, h1, _⟩ := h; exact ⟨L, h1⟩
  | coll => obtain ⟨L, h1, _⟩ := h; exact ⟨L, h1⟩
  | dead => exact absurd rfl hd

/-- What becomes of the caller's state when the callee has ended. -/
theorem after_call {G Gc : Base} {ι ιc : Loci} {ok okc : Nat → Prop} {st : St} {a : Act} {w w' : World} (h : SimI G ι ok st a w) {tin : Tmpl} {x : tin.T} {kb : KB} {na : Nat}
    (hbound : ∀ k o, look (encObjs (fun j => j) tin.objs 0 x.2.1) k = some o → ∃ key o', look kb k = some key ∧ look st.ar key = some o' ∧ (o.owned = true → o'.owned = true))
    (hw0 : Gc.w0 = w) (hok0 : Gc.ok0 = ok) (hown0 : Gc.own0 = fun b => ∃ k o L, look (encObjs (fun j => j) tin.objs 0 x.2.1) k = some o ∧ o.owned = true ∧ under kb ι k = some L ∧ 0 < L.cp ∧ L.b = b)
    (hB : Gc.B = G.B) (hloc : Gc.loc = under kb ι) {t : Tmpl} {y : t.T} {cv : Value} (hc : SimI Gc ιc okc (t.enc 1 y) ⟨#[cv], []⟩ w') {v : AV} (hv : look (encSlots (ckey kb st t) t.ts y.1) 0 = some v) :
    ∃ ι' ok', SimI G ι' ok' (coutSt kb st t y) a w' ∧ Rep w' ok' G.B ι' v cv := by
  -- the callee's blocks
  have own0_apart : ∀ b, Gc.own0 b → ¬ ok b ∧ (G.own0 b ∨ G.N ≤ b) := by
    intro b hb
    rw [hown0] at hb
    obtain ⟨k, o, L, h1, h2, h3, h4, rfl⟩ := hb
    obtain ⟨key, o', g1, g2, g3⟩ := hbound k o h1
    rw [under_of g1] at h3
    exact h.apart key o' L g2 (g3 h2) h3 h4
  have own0_key : ∀ b, Gc.own0 b → ∀ k o L, look st.ar k = some o → o.owned = true → ι k = some L → 0 < L.cp → L.b = b → ∃ j, look kb j = some k := by
    intro b hb k o L hk ho hl hcp e
    rw [hown0] at hb
    obtain ⟨k', o₁, L₁, h1, h2, h3, h4, h5⟩ := hb
    obtain ⟨key, o', g1, g2, g3⟩ := hbound k' o₁ h1
    rw [under_of g1] at h3
    have := h.inj key k o' o L₁ L g2 hk (g3 h2) ho h3 hl h4 hcp (h5.trans e.symm)
    subst this
    exact ⟨k', g1⟩
  have hN : Gc.N = w.heap.size := by show Gc.w0.heap.size = _; rw [hw0]
  have hsame : ∀ b, b < w.heap.size → ¬ Gc.own0 b → w'.heap[b]? = w.heap[b]? := by
    intro b hb hn
    have := hc.block b (by rw [hN]; exact hb) hn
    rw [hw0] at this; exact this
  have hmem : ∀ b, ok b → w'.heap[b]? = w.heap[b]? := fun b hb => hsame b (h.oklt b hb) (fun ho => (own0_apart b ho).1 hb)
  have hokc : ∀ b, ok b → okc b := fun b hb => hc.okin b (by rw [hok0]; exact hb)
  let ι' : Loci := fun k => if st.nk ≤ k then ιc (k - st.nk) else ι k
  have hle : ∀ k L, ι k = some L → ι' k = some L := by
    intro k L hk
    show (if st.nk ≤ k then ιc (k - st.nk) else ι k) = some L
    by_cases e : st.nk ≤ k
    · rw [h.fresh k e] at hk; cases hk
    · rw [if_neg e]; exact hk
  have hκ : ∀ j L, ιc j = some L → ι' (ckey kb st t j) = some L := by
    intro j L hj
    have hnew : ι' (st.nk + j) = some L := by
      show (if st.nk ≤ st.nk + j then ιc (st.nk + j - st.nk) else _) = _
      rw [if_pos (Nat.le_add_right _ _), Nat.add_sub_cancel_left]; exact hj
    unfold ckey
    split
    · rename_i g hg
      split
      · rename_i k hk
        obtain ⟨h1, _⟩ := hc.tags j g hg
        rw [hloc, under_of hk, hj] at h1
        exact hle k L h1.symm
      · exact hnew
    · exact hnew
  have old : ∀ k o, look st.ar k = some o → (∀ j, look kb j ≠ some k) → ObjOK w' okc G.B ι' k o := by
    intro k o hk hnb
    have hob := h.objs k o hk
    by_cases hd : o = .dead
    · subst hd; trivial
    · refine hob.mono (fun L hl hcp => ?_) hmem hokc hle
      cases hown : o.owned with
      | true => exact hsame _ (obj_block hob hl hcp hown) (fun ho => by obtain ⟨j, hj⟩ := own0_key _ ho k o L hk hown hl hcp rfl; exact hnb j hj)
      | false => exact hmem _ (h.frozen_ok hk hl hcp hown hd)
  -- every object of the new state: of the callee's end, or an old one
  have cases3 : ∀ k o, look (coutSt kb st t y).ar k = some o →
      (∃ (j : Nat) (p : OPat) (z : p.T), ckey kb st t j = k ∧ o = p.enc (ckey kb st t) z ∧ look (encObjs (fun j => j) t.objs 0 y.2.1) j = some (p.enc (fun j => j) z)) ∨ o = .dead ∨
      (look st.ar k = some o ∧ ∀ j, look kb j ≠ some k) := by
    intro k o hk
    have hk : look (encObjs (ckey kb st t) t.objs 0 y.2.1 ++ (kills kb ++ st.ar)) k = some o := hk
    rw [look_append] at hk
    split at hk
    · rename_i o₁ h1
      injection hk with hk; subst hk
      exact .inl (encObjs_look _ _ _ _ _ _ h1)
    · rw [look_append] at hk
      split at hk
      · rename_i o₁ h1
        injection hk with hk; subst hk
        exact .inr (.inl (kills_look _ _ _ h1))
      · rename_i h1
        exact .inr (.inr ⟨hk, kills_none _ _ h1⟩)
  have place : ∀ (k : Key) (o : AObj) (L : Loc) (j : Nat) (p : OPat) (z : p.T), ckey kb st t j = k → o = p.enc (ckey kb st t) z → look (encObjs (fun j => j) t.objs 0 y.2.1) j = some (p.enc (fun j => j) z) → o.owned = true → ι' k = some L → ιc j = some L := by
    intro k o L j p z hk ho hj hown hl
    have hd : p.enc (fun j => j) z ≠ .dead := by
      intro e
      rw [ho, OPat.owned_enc (κ' := fun j => j), e] at hown; cases hown
    obtain ⟨L', hL'⟩ := objOK_place (hc.objs j _ hj) hd
    have := hκ j L' hL'
    rw [hk, hl] at this; injection this with this; subst this; exact hL'
  have oldplace : ∀ (k : Key) (o : AObj) (L : Loc), look st.ar k = some o → o.owned = true → ι' k = some L → ι k = some L := by
    intro k o L hk hown hl
    have hd : o ≠ .dead := by intro e; subst e; cases hown
    obtain ⟨L', hL'⟩ := objOK_place (h.objs k o hk) hd
    have := hle k L' hL'
    rw [hl] at this; injection this with this; subst this; exact hL'
  refine ⟨ι', okc, ?_, ?_⟩
  · exact {
      size := h.size
      dfn := h.dfn
      dfs := fun i x d hx hd => by obtain ⟨f, caps, g1, g2⟩ := h.dfs i x d hx hd; exact ⟨f, caps, g1.mono hmem hokc hle, g2⟩
      tags := fun k j hk => by
        obtain ⟨g1, L', g2⟩ := h.tags k j hk
        have := hle k L' g2
        exact ⟨this.trans (g2.symm.trans g1), L', this⟩
      slots := fun q z hz => ⟨(h.slots q z hz).1, (h.slots q z hz).2.mono hmem hokc hle⟩
      objs := fun k o hk => by
        rcases cases3 k o hk with ⟨j, p, z, rfl, rfl, hj⟩ | rfl | ⟨hk', hnb⟩
        · have := OPat.ren hκ (hc.objs j _ hj)
          rw [hB] at this; exact this
        · trivial
        · exact old k o hk' hnb
      inj := by
        intro k₁ k₂ o₁ o₂ L₁ L₂ hk₁ hk₂ ho₁ ho₂ hl₁ hl₂ hc₁ hc₂ hb
        have cross : ∀ (k : Key) (o : AObj) (L : Loc) (k' : Key) (o' : AObj) (L' : Loc) (j : Nat) (p : OPat) (z : p.T), ckey kb st t j = k → o = p.enc (ckey kb st t) z → look (encObjs (fun j => j) t.objs 0 y.2.1) j = some (p.enc (fun j => j) z) →
            o.owned = true → ι' k = some L → 0 < L.cp → look st.ar k' = some o' → (∀ j, look kb j ≠ some k') → o'.owned = true → ι' k' = some L' → 0 < L'.cp → L.b = L'.b → False := by
          intro k o L k' o' L' j p z e1 e2 e3 e4 e5 e6 e7 e8 e9 e10 e11 e12
          have hj := place k o L j p z e1 e2 e3 e4 e5
          have hk' := oldplace k' o' L' e7 e9 e10
          have hlt := obj_block (h.objs k' o' e7) hk' e11 e9
          have hap := hc.apart j _ L e3 (by rw [OPat.owned_enc (κ' := ckey kb st t), ← e2]; exact e4) hj e6
          rcases hap.2 with g | g
          · obtain ⟨j', hj'⟩ := own0_key _ g k' o' L' e7 e9 hk' e11 e12.symm
            exact e8 j' hj'
          · rw [hN, e12] at g; exact absurd hlt (Nat.not_lt.2 g)
        rcases cases3 k₁ o₁ hk₁ with ⟨j₁, p₁, z₁, e₁, f₁, g₁⟩ | rfl | ⟨e₁, f₁⟩
        · rcases cases3 k₂ o₂ hk₂ with ⟨j₂, p₂, z₂, e₂, f₂, g₂⟩ | rfl | ⟨e₂, f₂⟩
          · have q₁ := place k₁ o₁ L₁ j₁ p₁ z₁ e₁ f₁ g₁ ho₁ hl₁
            have q₂ := place k₂ o₂ L₂ j₂ p₂ z₂ e₂ f₂ g₂ ho₂ hl₂
            have := hc.inj j₁ j₂ _ _ L₁ L₂ g₁ g₂ (by rw [OPat.owned_enc (κ' := ckey kb st t), ← f₁]; exact ho₁) (by rw [OPat.owned_enc (κ' := ckey kb st t), ← f₂]; exact ho₂) q₁ q₂ hc₁ hc₂ hb
            rw [← e₁, ← e₂, this]
          · cases ho₂
          · exact (cross k₁ o₁ L₁ k₂ o₂ L₂ j₁ p₁ z₁ e₁ f₁ g₁ ho₁ hl₁ hc₁ e₂ f₂ ho₂ hl₂ hc₂ hb).elim
        · cases ho₁
        · rcases cases3 k₂ o₂ hk₂ with ⟨j₂, p₂, z₂, e₂, f₂, g₂⟩ | rfl | ⟨e₂, f₂⟩
          · exact (cross k₂ o₂ L₂ k₁ o₁ L₁ j₂ p₂ z₂ e₂ f₂ g₂ ho₂ hl₂ hc₂ e₁ f₁ ho₁ hl₁ hc₁ hb.symm).elim
          · cases ho₂
          · exact h.inj k₁ k₂ o₁ o₂ L₁ L₂ e₁ e₂ ho₁ ho₂ (oldplace _ _ _ e₁ ho₁ hl₁) (oldplace _ _ _ e₂ ho₂ hl₂) hc₁ hc₂ hb
      apart := by
        intro k o L hk hown hl hcp
        rcases cases3 k o hk with ⟨j, p, z, e, f, g⟩ | rfl | ⟨e, f⟩
        · have q := place k o L j p z e f g hown hl
          have hap := hc.apart j _ L g (by rw [OPat.owned_enc (κ' := ckey kb st t), ← f]; exact hown) q hcp
          refine ⟨hap.1, ?_⟩
          rcases hap.2 with g' | g'
          · exact (own0_apart _ g').2
          · rw [hN] at g'; exact .inr (Nat.le_trans h.heap g')
        · cases hown
        · have q := oldplace k o L e hown hl
          have hap := h.apart k o L e hown q hcp
          refine ⟨fun hokb => ?_, hap.2⟩
          rcases hc.oksub _ hokb with g | g | g
          · rw [hok0] at g; exact hap.1 g
          · obtain ⟨j, hj⟩ := own0_key _ g k o L e hown q hcp rfl; exact f j hj
          · rw [hN] at g; exact absurd (obj_block (h.objs k o e) q hcp hown) (Nat.not_lt.2 g)
      fresh := by
        intro k hk
        have hk : st.nk + t.objs.length ≤ k := hk
        show (if st.nk ≤ k then ιc (k - st.nk) else ι k) = none
        rw [if_pos (Nat.le_trans (Nat.le_add_right _ _) hk)]
        refine hc.fresh _ ?_
        show t.objs.length ≤ k - st.nk
        exact Nat.le_sub_of_add_le (by rw [Nat.add_comm]; exact hk)
      os := by have := hc.os; rw [hw0] at this; exact this.trans h.os
      tape := by have := hc.tape; rw [hw0] at this; exact this.trans h.tape
      output := by have := hc.output; rw [hw0] at this; exact this.trans h.output
      heap := by have := hc.heap; rw [hN] at this; exact Nat.le_trans h.heap this
      block := fun b hb hn => by
        rw [hsame b (Nat.lt_of_lt_of_le hb h.heap) (fun ho => by
          rcases (own0_apart b ho).2 with g | g
          · exact hn g
          · exact absurd hb (Nat.not_lt.2 g))]
        exact h.block b hb hn
      okin := fun b hb => hokc b (h.okin b hb)
      oksub := fun b hb => by
        rcases hc.oksub b hb with g | g | g
        · rw [hok0] at g; exact h.oksub b g
        · exact .inr (own0_apart b g).2
        · rw [hN] at g; exact .inr (.inr (Nat.le_trans h.heap g))
      oklt := hc.oklt }
  · obtain ⟨p, z, rfl, hz⟩ := encSlots_look _ _ _ _ _ hv
    have := Pat.ren hκ p _ _ (hc.slots 0 _ hz).2
    rw [hB] at this; exact this

theorem endSim_out {R : Type} {kb : KB} {st : St} : ∀ {outs : Outs} {y : ESum outs} {K : XK → AV → St → Option R} {r : R}, coutK kb st outs y K = some r → ∃ (xk : XK) (t : Tmpl) (z : t.T) (v : AV), look (encSlots (ckey kb st t) t.ts z.1) 0 = some v ∧
    K xk v (coutSt kb st t z) = some r ∧ ∀ Gc e w', EndSim Gc outs y e w' → ∃ cv, EndK xk e cv ∧ Sim Gc (t.enc 1 z) ⟨#[cv], []⟩ w'
  | [], y, _, _, _ => nomatch y
  | [o], y, K, r, h => by
    unfold coutK at h
    split at h
    · rename_i v hv
      exact ⟨o.1, o.2, y, v, hv, h, fun Gc e w' hs => hs⟩
    · cases h
  | o :: o' :: r', .inl y, K, r, h => by
    simp only [coutK, Sum.elim_inl] at h
    split at h
    · rename_i v hv
      exact ⟨o.1, o.2, y, v, hv, h, fun Gc e w' hs => hs⟩
    · cases h
  | o :: o' :: r', .inr y, K, r, h => endSim_out (outs := o' :: r') (y := y) h
theorem dec_bound {t : Tmpl} {st : St} {x : t.T} {kb : KB} (h : t.dec st = some (x, kb)) {G : Base} {ι : Loci} {ok : Nat → Prop} {a : Act} {w : World} (hs : SimI G ι ok st a w) :
    ∀ k o, look (encObjs (fun j => j) t.objs 0 x.2.1) k = some o → ∃ key o', look kb k = some key ∧ look st.ar key = some o' ∧ (o.owned = true → o'.owned = true) := by
  unfold Tmpl.dec at h
  split at h
  · split at h
    · split at h
      · rename_i y₁ kb₂ h2
        obtain ⟨hd, h⟩ := cond_none h
        injection h with h; injection h with e1 e2; subst e1; subst e2
        intro k o hk
        obtain ⟨_, _, key, o', g1, g2, g3, _⟩ := (decObjs_ok t.objs 0 _ y₁ kb₂ h2).2 kb₂ G ι ok a w (Ext.refl _) hs k o hk
        exact ⟨key, o', g1, g2, g3⟩
      · cases h
    · cases h
  · cases h
/-- a call, and whether the world has but grown -/
def CRunsG (P : Program) (g : Prop) (f : FuncId) (args : List AV) (st : St) (xk : XK) (v : AV) (st' : St) : Prop :=
  ∀ G ι ok a w (cargs : Array Value), SimI G ι ok st a w → cargs.size = args.length → (∀ i, i < args.length → Rep w ok G.B ι (args.getD i default) (cargs.getD i undef)) →
    Calls P f cargs w fun e w' => (∃ cv ι' ok', EndK xk e cv ∧ SimI G ι' ok' st' a w' ∧ Rep w' ok' G.B ι' v cv) ∧ (g → Grown w w')
theorem crun_okG {R : Type} {P : Program} {f : FuncId} {na : Nat} {tin : Tmpl} {outs : Outs} {fn : tin.T → Option (ESum outs)} (h : CallOK P f na tin outs fn) (ht : tagLive tin = true) : ∀ args st K r, crun (R := R) na tin outs fn args st K = some r → ∃ xk v st', CRunsG P (tin.objs = []) f args st xk v st' ∧ K xk v st' = some r := by
  intro args st K r hr
  obtain ⟨e, hr⟩ := cond_none hr
  have e := beq_eq e
  split at hr
  · rename_i p hp
    obtain ⟨x, kb⟩ := p
    cases hf : fn x with
    | none => simp only at hr; rw [hf] at hr; cases hr
    | some y =>
      simp only at hr
      rw [hf] at hr
      have hr : coutK kb st outs y K = some r := hr
      obtain ⟨xk, t, z, v, hv, hK, hend⟩ := endSim_out hr
      refine ⟨xk, v, _, ?_, hK⟩
      intro G ι ok a w cargs hs hsz hreps
      -- the arguments as a state
      have hA : SimI G ι ok ⟨na, st.nk, numbered args 0, st.ar, [], []⟩ ⟨cargs, []⟩ w :=
        { hs with
          size := hsz.trans e
          dfn := rfl
          dfs := fun i x d hx => by simp at hx
          tags := fun k j hk => by cases hk
          slots := fun q y hy => by
            obtain ⟨h1, h2, h3⟩ := numbered_look _ _ _ _ hy
            refine ⟨by show q < na; omega, ?_⟩
            have := hreps q (by omega)
            rw [Nat.sub_zero] at h3
            rw [h3] at this; exact this }
      have hD := Tmpl.dec_simI hp hA
      have hbound := dec_bound hp hA
      have hshpo : ∀ g ∈ shpList, ¬ (fun b => ∃ k o L, look (encObjs (fun j => j) tin.objs 0 x.2.1) k = some o ∧ o.owned = true ∧ under kb ι k = some L ∧ 0 < L.cp ∧ L.b = b) g := by
        intro g hg hq
        obtain ⟨k, o, L, q1, q2, q3, q4, q5⟩ := hq
        obtain ⟨key, o', r1, r2, r3⟩ := hbound k o q1
        rw [under_of r1] at q3
        exact hs.shpOwn hg r2 (r3 q2) q3 q4 q5
      let Gc : Base := { w0 := w, ok0 := ok, own0 := fun b => ∃ k o L, look (encObjs (fun j => j) tin.objs 0 x.2.1) k = some o ∧ o.owned = true ∧ under kb ι k = some L ∧ 0 < L.cp ∧ L.b = b, B := G.B, hB := Nat.le_trans G.hB hs.heap, loc := under kb ι, shp := hs.shp, shpo := hshpo }
      have hG : SimI Gc (under kb ι) ok (tin.enc na x) ⟨cargs, []⟩ w :=
        { size := hD.size
          dfn := hD.dfn
          dfs := hD.dfs
          tags := by
            intro k j hk
            have hk : look tin.tags k = some j := hk
            have hall : ∀ (l : List (Nat × Nat)), (l.all fun p => Nat.beq p.1 p.2 && (match tin.objs[p.1]? with | some .dead => false | some _ => true | none => false)) = true → look l k = some j →
                k = j ∧ ∃ p, tin.objs[k]? = some p ∧ p ≠ .dead := by
              intro l
              induction l with
              | nil => intro _ h; cases h
              | cons q l ih =>
                intro h1 h2
                obtain ⟨q1, q2⟩ := q
                simp only [List.all_cons, Bool.and_eq_true] at h1
                rw [look_cons] at h2
                split at h2
                · rename_i e1; injection h2 with h2; subst h2; subst e1
                  refine ⟨beq_eq h1.1.1, ?_⟩
                  have h3 := h1.1.2
                  cases hq : tin.objs[q1]? with
                  | none => simp only [hq] at h3; cases h3
                  | some p =>
                    refine ⟨p, rfl, fun e => ?_⟩
                    subst e
                    simp only [hq] at h3; cases h3
                · exact ih h1.2 h2
            obtain ⟨rfl, p, hp1, hp2⟩ := hall _ ht hk
            refine ⟨rfl, ?_⟩
            obtain ⟨o, ho1, ho2⟩ := objs_get tin.objs 0 x.2.1 k p hp1 hp2
            rw [Nat.zero_add] at ho1
            exact objOK_place (hD.objs k o ho1) ho2
          slots := hD.slots
          objs := hD.objs
          inj := hD.inj
          apart := fun k o L hk ho hl hc => ⟨(hD.apart k o L hk ho hl hc).1, .inl ⟨k, o, L, hk, ho, hl, hc, rfl⟩⟩
          fresh := hD.fresh
          os := rfl, tape := rfl, output := rfl
          heap := Nat.le_refl _
          block := fun _ _ _ => rfl
          okin := fun _ h => h
          oksub := fun _ h => .inl h
          oklt := hs.oklt }
      refine (h x y hf Gc cargs w rfl (hsz.trans e) ⟨_, _, hG⟩).mono ?_
      intro e' w' hE
      obtain ⟨cv, h1, ιc, okc, h2⟩ := hend Gc e' w' hE
      obtain ⟨ι', ok', g1, g2⟩ := after_call (na := na) hs hbound (Gc := Gc) rfl rfl rfl rfl rfl h2 hv
      refine ⟨⟨cv, ι', ok', h1, g1, g2⟩, fun hno => ?_⟩
      have hnone : ∀ b, ¬ Gc.own0 b := by
        rintro b ⟨k, o, L, q1, _⟩
        have key : ∀ (l : List OPat) (y : TOs l), l = [] → look (encObjs (fun j => j) l 0 y) k = some o → False := by
          intro l y hl hk; subst hl; cases hk
        exact key _ _ hno q1
      exact { os := h2.os, tape := h2.tape, output := h2.output, size := h2.heap, block := fun b hb => h2.block b hb (hnone b) }
  · cases hr

theorem crun_ok {R : Type} {P : Program} {f : FuncId} {na : Nat} {tin : Tmpl} {outs : Outs} {fn : tin.T → Option (ESum outs)} (h : CallOK P f na tin outs fn) (ht : tagLive tin = true) : CFOK (R := R) P f (crun na tin outs fn) := by
  intro args st K r hr
  obtain ⟨xk, v, st', h1, h2⟩ := crun_okG h ht args st K r hr
  exact ⟨xk, v, st', fun G ι ok a w cargs hs hsz hrep => (h1 G ι ok a w cargs hs hsz hrep).mono fun e w' hh => hh.1, h2⟩

/-! ### the operation 'call' -/
def OOK {R : Type} (P : Program) (O : FuncId → Option (CallF R)) : Prop :=
  ∀ f cf, O f = some cf → (∃ fnc, P.funcs[f]? = some fnc ∧ fnc.body.isNone = false ∧ (fnc.name == "runtime.NumGoroutine") = false) ∧ CFOK P f cf
def evCall {R : Type} (O : FuncId → Option (CallF R)) (o : Oper) (fo : Operand) (args : Array Operand) (st : St) (K : X → St → Option R) : Option R :=
  match opnd st fo, opnds st args.toList with
  | some (.fn (.func f) first caps), some xs => match O f with
    | some cf => cf (first ++ (xs ++ caps)) st fun k v st' => match k with
      | .normal => fin o st' K v
      | .pan => K (.pan v) st'
      | _ => none
    | none => none
  | _, _ => none
theorem evCall_ok {R : Type} {P : Program} {O : FuncId → Option (CallF R)} (hO : OOK P O) {o : Oper} {fo : Operand} {args : Array Operand} {ats : Array TypeId} {st : St} {K : X → St → Option R} {r : R}
    (ho : o.op = .call { callee := .value fo, args := args, argTypes := ats }) (h : evCall O o fo args st K = some r) : ∃ x st', RunsOp P o st x st' ∧ K x st' = some r := by
  unfold evCall at h
  split at h
  · rename_i f first caps xs hfo hxs
    split at h
    · rename_i cf hcf
      obtain ⟨⟨fnc, hf1, hf2, hf3⟩, hok⟩ := hO f cf hcf
      obtain ⟨xk, v, st', hr, hk⟩ := hok _ _ _ _ h
      -- the call, from any state
      have call : ∀ G a w next Q, Sim G st a w → (∀ e w', (∃ cv ι' ok', EndK xk e cv ∧ SimI G ι' ok' st' a w' ∧ Rep w' ok' G.B ι' v cv) → (match e with
          | .returned v => next (a.put o.dst v) w'
          | .panicked chain => Q (.panic chain) a w'
          | .outgrown => LetsOut Q)) → o.wp P a w next Q := by
        rintro G a w next Q ⟨ι, ok, hs⟩ hpost
        obtain ⟨first', caps', e1, e2, e3, e4, e5⟩ : ∃ first' caps' : Array Value, a.eval fo = .func (.func f) first' caps' ∧ first'.size = first.length ∧ caps'.size = caps.length ∧
            (∀ i, i < first.length → Rep w ok G.B ι (first.getD i default) (first'.getD i undef)) ∧ ∀ i, i < caps.length → Rep w ok G.B ι (caps.getD i default) (caps'.getD i undef) := by
          have := hs.opnd hfo
          generalize a.eval fo = fv at this
          cases this; exact ⟨_, _, rfl, ‹_›, ‹_›, ‹_›, ‹_›⟩
        obtain ⟨g1, g2⟩ := opnds_ok hs _ _ hxs
        unfold Oper.wp execOp
        rw [ho]
        show o.upon P a next Q ((do let d ← resolve a.eval { callee := .value fo, args := args, argTypes := ats } o.type; invoke d.target d.args : Sem Next).run P w)
        have hres : (resolve a.eval { callee := .value fo, args := args, argTypes := ats } o.type).run P w = .ok { target := .fn (.func f) caps', args := first' ++ args.map a.eval } w := by
          unfold resolve
          simp only [e1]; rfl
        rw [run_ok hres]
        have hcall : (callFunc f ((first' ++ args.map a.eval) ++ caps')).run P w = .ok (.enter f ((first' ++ args.map a.eval) ++ caps')) w := by
          unfold callFunc
          have : (program).run P w = .ok P w := rfl
          rw [run_ok this]
          simp only [hf1]
          rw [if_neg (by simp [hf3]), if_neg (by simp [hf2])]; rfl
        show o.upon P a next Q ((callFunc f ((first' ++ args.map a.eval) ++ caps')).run P w)
        rw [hcall]
        show Calls P f _ w _
        refine (hr G ι ok a w _ hs ?_ ?_).mono ?_
        · have el : xs.length = args.size := by simpa using g1
          simp only [Array.size_append, Array.size_map, List.length_append, e2, e3, el]; omega
        · intro i hi
          simp only [List.length_append] at hi
          by_cases c1 : i < first.length
          · have := e4 i c1
            simp only [List.getD_eq_getElem?_getD, List.getElem?_append_left c1]
            simp only [List.getD_eq_getElem?_getD] at this
            rw [Array.getD_eq_getD_getElem?, Array.getElem?_append_left (by simp; omega), Array.getElem?_append_left (by omega), ← Array.getD_eq_getD_getElem?]
            exact this
          · by_cases c2 : i < first.length + xs.length
            · have := g2 (i - first.length) (by omega)
              simp only [List.getD_eq_getElem?_getD, List.getElem?_append_right (Nat.not_lt.1 c1)]
              rw [List.getElem?_append_left (by omega), ← List.getD_eq_getElem?_getD]
              have el : xs.length = args.size := by simpa using g1
              rw [Array.getD_eq_getD_getElem?, Array.getElem?_append_left (by simp; omega), Array.getElem?_append_right (by omega), e2, ← Array.getD_eq_getD_getElem?, arr_getD]
              exact this
            · have := e5 (i - first.length - xs.length) (by omega)
              have el : xs.length = args.size := by simpa using g1
              simp only [List.getD_eq_getElem?_getD, List.getElem?_append_right (Nat.not_lt.1 c1)]
              rw [List.getElem?_append_right (by omega), ← List.getD_eq_getElem?_getD]
              rw [Array.getD_eq_getD_getElem?, Array.getElem?_append_right (by simp; omega), ← Array.getD_eq_getD_getElem?]
              have e6 : i - (first' ++ args.map a.eval).size = i - first.length - xs.length := by simp [e2, el]; omega
              rw [e6]; exact this
        · intro e' w' hp
          have := hpost e' w' hp
          cases e' <;> exact this
      split at hk
      · obtain ⟨hd, hk⟩ := fin_some hk
        refine ⟨.normal, _, fun G a w next Q hs hq => call G a w next Q hs ?_, hk⟩
        rintro e' w' ⟨cv, ι', ok', rfl, hs', hv⟩
        exact hq .normal _ _ ⟨rfl, ι', ok', hs'.put hd hv⟩
      · refine ⟨.pan v, _, fun G a w next Q hs hq => call G a w next Q hs ?_, hk⟩
        rintro e' w' ⟨cv, ι', ok', rfl, hs', hv⟩
        exact hq _ _ _ ⟨ι', ok', cv, rfl, hv, hs'⟩
      · cases hk
    · cases h
  · cases h
end Go.Ev

namespace Go.Ev
set_option linter.unusedSimpArgs false
set_option linter.unusedVariables false
/-! ### slices read -/
def sliceLst (st : St) : AV → Option Lst
  | .own k => match look st.ar k with
    | some (.row _ l) => some l
    | _ => none
  | .sl k sz off len => match look st.ar k with
    | some (.row _ l) => bif Nat.beq sz l.sz then some ((l.drop off).take len) else none
    | _ => none
  | .ro _ l => some l
  | _ => none
theorem Lst.length_take (l : Lst) (n : Nat) : (l.take n).length = min n l.length := by cases l <;> simp [Lst.take, Lst.length]
theorem Lst.length_drop (l : Lst) (n : Nat) : (l.drop n).length = l.length - n := by cases l <;> simp [Lst.drop, Lst.length]
theorem Lst.sz_take (l : Lst) (n : Nat) : (l.take n).sz = l.sz := by cases l <;> rfl
theorem Lst.sz_drop (l : Lst) (n : Nat) : (l.drop n).sz = l.sz := by cases l <;> rfl
theorem Lst.elem_take (l : Lst) (n i : Nat) (h : i < n) : (l.take n).elem i = l.elem i := by
  cases l <;> simp [Lst.take, Lst.elem, List.getD_eq_getElem?_getD, List.getElem?_take, h]
theorem Lst.elem_drop (l : Lst) (n i : Nat) : (l.drop n).elem i = l.elem (n + i) := by
  cases l <;> simp [Lst.drop, Lst.elem, List.getD_eq_getElem?_getD, List.getElem?_drop]
section
variable {P : Program} {w : World} {ok : Nat → Prop} {B : Nat}
theorem RowAt.part {b o : Nat} {l : Lst} (h : RowAt w ok B b o l) (off len : Nat) : RowAt w ok B b (o + off * l.sz) ((l.drop off).take len) := by
  obtain ⟨val, h1, h2, h3⟩ := h
  have hl : ∀ i, i < ((l.drop off).take len).length → i < len ∧ off + i < l.length := by
    intro i hi
    rw [Lst.length_take, Lst.length_drop] at hi
    omega
  refine ⟨fun i j => val (off + i) j, fun i j hi hj => ?_, fun i j hi hj => ?_, fun i hi => ?_⟩
  · rw [Lst.sz_take, Lst.sz_drop] at hj ⊢
    have := h1 (off + i) j (hl i hi).2 hj
    rw [Nat.add_mul] at this
    rw [show o + off * l.sz + (i * l.sz + j) = o + (off * l.sz + i * l.sz + j) by omega]; exact this
  · rw [Lst.sz_take, Lst.sz_drop] at hj
    rw [Lst.elem_take _ _ _ (hl i hi).1, Lst.elem_drop]
    exact h2 (off + i) j (hl i hi).2 hj
  · rw [Lst.elem_take _ _ _ (hl i hi).1, Lst.elem_drop, Lst.sz_take, Lst.sz_drop]
    exact h3 (off + i) (hl i hi).2
/-- where a slice that is read lies -/
theorem sliceLst_ok {G : Base} {ι : Loci} {st : St} {a : Act} (hs : SimI G ι ok st a w) {x : AV} {v : Value} {l : Lst} (hx : Rep w ok G.B ι x v) (h : sliceLst st x = some l) :
    ∃ p c, v = .slice p l.length c ∧ l.length ≤ c ∧ (0 < l.length → ∃ b o, p = some ⟨b, o, none⟩ ∧ RowAt w ok G.B b o l) := by
  cases x with
  | own k =>
    simp only [sliceLst] at h
    split at h
    · rename_i ow l' hk
      injection h with h; subst h
      obtain ⟨L, h1, h2, h3, h4⟩ := hs.objs _ _ hk
      cases hx with
      | own g g1 =>
        rw [h1] at g; injection g with g; subst g
        obtain ⟨vs, t, fr, a1, a2, a3, a4, a5⟩ := h4 g1
        exact ⟨_, _, by rw [← h2], by omega, fun _ => ⟨_, _, rfl, a5⟩⟩
      | own0 g g1 g2 =>
        rw [h1] at g; injection g with g; subst g
        exact ⟨_, 0, by rw [← h2, g2], by omega, fun hh => by omega⟩
    · cases h
  | sl k sz off len =>
    simp only [sliceLst] at h
    split at h
    · rename_i ow l' hk
      obtain ⟨e, h⟩ := cond_none h
      have e := beq_eq e
      injection h with h; subst h
      obtain ⟨L, h1, h2, h3, h4⟩ := hs.objs _ _ hk
      cases hx with
      | sl g g1 g2 g3 g4 =>
        rename_i c L'
        rw [h1] at g; injection g with g; subst g
        obtain ⟨vs, t, fr, a1, a2, a3, a4, a5⟩ := h4 (by omega)
        have hl : ((l'.drop off).take len).length = len := by rw [Lst.length_take, Lst.length_drop]; omega
        refine ⟨_, _, by rw [hl], by rw [hl]; exact g2, fun _ => ⟨_, _, rfl, ?_⟩⟩
        have := a5.part off len
        rw [e]; exact this
      | sl0 g g1 g2 =>
        subst g1
        exact ⟨_, 0, by rw [show ((l'.drop off).take 0).length = 0 by rw [Lst.length_take]; omega], by rw [Lst.length_take]; omega, fun hh => by rw [Lst.length_take] at hh; omega⟩
    · cases h
  | ro nw l' =>
    injection h with h; subst h
    cases hx with
    | ro val g1 g2 g3 g4 g5 g6 g7 g8 g9 =>
      rename_i p n c
      obtain ⟨b, o, s⟩ := p
      simp only at g6; subst g6
      exact ⟨_, _, by rw [g1], by omega, fun _ => ⟨b, o, rfl, val, fun i j hi hj => g7 i j (by omega) hj, fun i j hi hj => g8 i j (by omega) hj, fun i hi => g9 i (by omega)⟩⟩
    | ro0 g1 g2 => exact ⟨_, _, by rw [g1], by omega, fun hh => by omega⟩
  | _ => cases h
theorem row_cells {b o : Nat} {l : Lst} (h : RowAt w ok B b o l) (hz : 0 < l.sz) : ∃ f : Nat → Value, (∀ q, q < l.length * l.sz → w.cell? ⟨b, o + q, none⟩ = some (f q)) ∧
    ∀ i j, i < l.length → j < l.sz → Rep w ok B (fun _ => none) ((l.elem i).cell j) (f (i * l.sz + j)) := by
  obtain ⟨val, h1, h2, h3⟩ := h
  refine ⟨fun q => val (q / l.sz) (q % l.sz), fun q hq => ?_, fun i j hi hj => ?_⟩
  · have g1 : q / l.sz < l.length := Nat.div_lt_of_lt_mul (by rw [Nat.mul_comm]; exact hq)
    have := h1 (q / l.sz) (q % l.sz) g1 (Nat.mod_lt _ hz)
    rw [show q / l.sz * l.sz + q % l.sz = q by rw [Nat.mul_comm]; exact Nat.div_add_mod q l.sz] at this
    exact this
  · have e1 : (i * l.sz + j) / l.sz = i := by
      rw [Nat.mul_comm, Nat.mul_add_div hz, Nat.div_eq_of_lt hj, Nat.add_zero]
    have e2 : (i * l.sz + j) % l.sz = j := by
      rw [Nat.mul_comm, Nat.mul_add_mod, Nat.mod_eq_of_lt hj]
    show Rep w ok B _ _ (val ((i * l.sz + j) / l.sz) ((i * l.sz + j) % l.sz))
    rw [e1, e2]; exact h2 i j hi hj
end
/-! ### bytes and strings -/
def strOf (l : List Int) : ByteArray := ⟨(l.map fun n => UInt8.ofNat n.toNat).toArray⟩
def bytesOf (s : ByteArray) : List Int := s.data.toList.map fun b => ((b.toNat : Nat) : Int)
def newRowSt (st : St) (l : Lst) : St := { st with nk := st.nk + 1, ar := (st.nk, .row true l) :: st.ar }
def evConv2 {R : Type} (P : Program) (o : Oper) (src dst : TypeId) (x : Operand) (st : St) (K : X → St → Option R) : Option R :=
  match P.underlying src, P.underlying dst, opnd st x with
  | some (.slice e), some .string, some y => match P.underlying e, y with
    | some (.int .u8), .nils => fin o st K (.v (.string ByteArray.empty))
    | some (.int .u8), y => match sliceLst st y with
      | some (.I .u8 l) => fin o st K (.v (.string (strOf l)))
      | _ => none
    | _, _ => none
  | some .string, some (.slice e), some (.v (.string s)) => match P.underlying e with
    | some (.int .u8) => bif Nat.beq e u8T then fin o (newRowSt st (.I .u8 (bytesOf s))) K (.own st.nk) else none
    | _ => none
  | _, _, _ => none
theorem forIn_push {P : Program} {w : World} (f : Value → ByteArray → Sem (ForInStep ByteArray)) (hf : ∀ n s, (f (.int .u8 n) s).run P w = .ok (ForInStep.yield (s.push (UInt8.ofNat n.toNat))) w) : ∀ (l : List Int) (s : ByteArray),
    (forIn (l.map fun n => Value.int .u8 n) s f).run P w = .ok ⟨(s.data.toList ++ l.map fun n => UInt8.ofNat n.toNat).toArray⟩ w
  | [], s => by
    show Result.ok s w = _
    simp
  | n :: l, s => by
    have ih := forIn_push f hf l (s.push (UInt8.ofNat n.toNat))
    simp only [List.map_cons, List.forIn_cons]
    rw [run_ok (hf n s)]
    show (forIn _ _ _ : Sem ByteArray).run P w = _
    rw [ih]
    congr 1
    simp [ByteArray.push]

section
variable {R : Type} {P : Program} {o : Oper} {st : St} {K : X → St → Option R} {r : R}
theorem run_bytesToString {w : World} {b ob : Nat} {l : List Int} {c : Nat} (h : ∀ q, q < l.length → w.cell? ⟨b, ob + q, none⟩ = some (.int .u8 (l.getD q 0))) :
    (Conv.bytesToString (.slice (some ⟨b, ob, none⟩) l.length c)).run P w = .ok (.string (strOf l)) w := by
  unfold Conv.bytesToString
  have h1 := run_loadCells (P := P) w ⟨b, ob, none⟩ l.length (fun q => .int .u8 (l.getD q 0)) (fun q hq => by rw [addr_add]; exact h q hq)
  have e : ((List.range l.length).map fun q => Value.int .u8 (l.getD q 0)) = l.map fun n => Value.int .u8 n := by
    apply List.ext_getElem
    · simp
    · intro i h1 h2
      simp at h1
      simp [List.getD_eq_getElem?_getD, h1]
  rw [e] at h1
  simp only
  rw [run_ok h1, ← Array.forIn_toList]
  simp only [List.toList_toArray]
  rw [run_ok (forIn_push _ (fun n s => rfl) l ByteArray.empty)]
  show Result.ok _ w = _
  simp [strOf]
theorem run_stringToBytes {w : World} (e : TypeId) (s : ByteArray) : ∃ (c : Nat) (w' : World), (Conv.stringToBytes e s).run P w = .ok (.slice (some ⟨w.heap.size, 0, none⟩) s.size c) w' ∧ s.size ≤ c ∧
    w'.os = w.os ∧ w'.tape = w.tape ∧ w'.output = w.output ∧ w'.heap = w.heap.push (Obj.cells ((s.data.map fun (b : UInt8) => Value.int .u8 (b.toNat : Int)) ++ Array.replicate (c - s.size) (Value.int .u8 0)) e (c, c + 1)) := by
  let q : Question := .appendCap s.size 0 e
  let c := q.cut (w.tape w.drawn q)
  have hc : s.size ≤ c := by show s.size ≤ s.size + _; omega
  have h1 : (choose q).run P w = .ok c w.drew := by
    show (if q.forced then _ else _ : Result Nat) = _
    rfl
  have hsz : ((s.data.map fun (b : UInt8) => Value.int .u8 (b.toNat : Int)) ++ Array.replicate (c - s.size) (Value.int .u8 0)).size = c := by
    have : s.data.size = s.size := rfl
    simp [this]; omega
  refine ⟨c, (w.drew.alloc (.cells ((s.data.map fun (b : UInt8) => Value.int .u8 (b.toNat : Int)) ++ Array.replicate (c - s.size) (Value.int .u8 0)) e)).freeze ⟨w.heap.size, c, none⟩ 1, ?_, hc, ?_⟩
  · unfold Conv.stringToBytes
    rw [run_ok h1]
    have h2 : (newRow e ((s.data.map fun (b : UInt8) => Value.int .u8 (b.toNat : Int)) ++ Array.replicate (c - s.size) (Value.int .u8 0))).run P w.drew =
        .ok ⟨w.heap.size, 0, none⟩ (w.drew.alloc (.cells ((s.data.map fun (b : UInt8) => Value.int .u8 (b.toNat : Int)) ++ Array.replicate (c - s.size) (Value.int .u8 0)) e)) := rfl
    rw [run_ok h2]
    have h3 : (markStringish ⟨w.heap.size, 0, none⟩).run P (w.drew.alloc (.cells ((s.data.map fun (b : UInt8) => Value.int .u8 (b.toNat : Int)) ++ Array.replicate (c - s.size) (Value.int .u8 0)) e)) =
        .ok () ((w.drew.alloc (.cells ((s.data.map fun (b : UInt8) => Value.int .u8 (b.toNat : Int)) ++ Array.replicate (c - s.size) (Value.int .u8 0)) e)).freeze ⟨w.heap.size, c, none⟩ 1) := by
      unfold markStringish
      have hs : (shape w.heap.size).run P (w.drew.alloc (.cells ((s.data.map fun (b : UInt8) => Value.int .u8 (b.toNat : Int)) ++ Array.replicate (c - s.size) (Value.int .u8 0)) e)) =
          .ok (some (e, c)) (w.drew.alloc (.cells ((s.data.map fun (b : UInt8) => Value.int .u8 (b.toNat : Int)) ++ Array.replicate (c - s.size) (Value.int .u8 0)) e)) := by
        show Result.ok (World.shape? _ w.heap.size) _ = _
        congr 1
        unfold World.shape?
        have : (w.drew.alloc (.cells ((s.data.map fun (b : UInt8) => Value.int .u8 (b.toNat : Int)) ++ Array.replicate (c - s.size) (Value.int .u8 0)) e)).heap[w.heap.size]? = some (.cells ((s.data.map fun (b : UInt8) => Value.int .u8 (b.toNat : Int)) ++ Array.replicate (c - s.size) (Value.int .u8 0)) e) :=
          heap_alloc_new' (w := w.drew)
        rw [this]
        simp only
        rw [hsz]
      rw [run_ok hs]; rfl
    rw [run_ok h3]; rfl
  · refine ⟨rfl, rfl, rfl, ?_⟩
    unfold World.freeze
    rw [if_neg (by decide)]
    simp only [World.alloc, World.drew]
    apply Array.ext
    · simp
    · intro i hi1 hi2
      simp only [Array.getElem_modify]
      by_cases e : w.heap.size = i
      · subst e; simp
      · rw [if_neg e]
        have : i < w.heap.size := by simp at hi2; omega
        simp [Array.getElem_push, this]
theorem evConv2_ok {src dst : TypeId} {x : Operand} (ho : o.op = .convert src dst x) (h : evConv2 P o src dst x st K = some r) : ∃ x st', RunsOp P o st x st' ∧ K x st' = some r := by
  unfold evConv2 at h
  split at h
  · rename_i e y hs1 hd hx
    split at h
    · rename_i hu
      refine runs_fin h (fun G ι ok a w hs => ⟨_, ?_, .v _⟩)
      unfold execOp; rw [ho]
      refine exec_v ?_
      have := hs.opnd hx
      generalize a.eval x = v at this
      cases this
      unfold convert
      rw [run_ok (run_under hs1), run_ok (run_under hd)]
      show (do match ← underlying e with | .int .u8 => Conv.bytesToString (.slice none 0 0) | .int .i32 => Conv.runesToString (.slice none 0 0) | _ => stuck _ : Sem Value).run P w = _
      rw [run_ok (run_under hu)]; rfl
    · rename_i y' hu hne
      split at h
      · rename_i l hl
        refine runs_fin h (fun G ι ok a w hs => ⟨_, ?_, .v _⟩)
        unfold execOp; rw [ho]
        refine exec_v ?_
        obtain ⟨p, c, e1, _, e2⟩ := sliceLst_ok hs (hs.opnd hx) hl
        rw [e1]
        unfold convert
        rw [run_ok (run_under hs1), run_ok (run_under hd)]
        show (do match ← underlying e with | .int .u8 => Conv.bytesToString (.slice p l.length c) | .int .i32 => Conv.runesToString (.slice p l.length c) | _ => stuck _ : Sem Value).run P w = _
        rw [run_ok (run_under hu)]
        show (Conv.bytesToString (.slice p l.length c)).run P w = _
        by_cases h0 : 0 < l.length
        · obtain ⟨b, ob, rfl, hr⟩ := e2 h0
          obtain ⟨f, g1, g2⟩ := row_cells hr (by simp [Lst.sz])
          refine run_bytesToString (fun q hq => ?_)
          have h1 := g1 q (by simp [Lst.length, Lst.sz]; exact hq)
          have h2 := g2 q 0 hq (by simp [Lst.sz])
          simp only [Lst.sz, Nat.mul_one, Nat.add_zero] at h2
          rw [h1]
          have h3 : Rep w ok G.B (fun _ => none) (.v (.int .u8 (l.getD q 0))) (f q) := h2
          rw [rep_v_inv h3]
        · have hl0 : l = [] := List.length_eq_zero_iff.1 (by omega)
          subst hl0
          cases p with
          | none => rfl
          | some p =>
            obtain ⟨b, ob, s⟩ := p
            unfold Conv.bytesToString
            simp only [List.length_nil]
            have h1 := run_loadCells (P := P) w ⟨b, ob, s⟩ 0 (fun q => .int .u8 0) (fun q hq => by omega)
            rw [run_ok h1]; rfl
      · cases h
    · cases h
  · rename_i e s hs1 hd hx
    split at h
    · rename_i hu
      obtain ⟨hty, h⟩ := cond_none h
      have hty : e = u8T := beq_eq hty
      refine runs_new h (fun G ι ok a w hs => ?_)
      obtain ⟨c, w', h1, hc, h2, h3, h4, h5⟩ := run_stringToBytes (P := P) (w := w) e s
      have hsz : s.data.size = s.size := rfl
      have hal : SimI G (ι.set st.nk ⟨w.heap.size, 0, s.size, c⟩) ok (newRowSt st (.I .u8 (bytesOf s))) a (w.alloc (.cells ((s.data.map fun (b : UInt8) => Value.int .u8 (b.toNat : Int)) ++ Array.replicate (c - s.size) (Value.int .u8 0)) e (c, c + 1))) := by
        refine hs.alloc rfl ⟨⟨w.heap.size, 0, s.size, c⟩, Loci.set_same _ _ _, by simp [Lst.length, bytesOf, hsz], hc, fun _ => ⟨_, _, _, heap_alloc_new', fun _ => ⟨.inr ?_, hty⟩, (fun h => by cases h), ?_, ?_⟩⟩
        · simp only [Array.size_append, Array.size_map, Array.size_replicate, hsz]
          omega
        · simp [Lst.sz, hsz]; omega
        · refine ⟨fun i _ => .int .u8 ((bytesOf s).getD i 0), fun i j hi hj => ?_, fun i j hi hj => ?_, fun i hi => rfl⟩
          · have hi : i < s.size := by simpa [Lst.length, bytesOf, hsz] using hi
            have hj : j = 0 := by simp [Lst.sz] at hj; exact hj
            subst hj
            unfold World.cell?
            simp only [heap_alloc_new', Lst.sz, Nat.mul_one, Nat.add_zero, Nat.zero_add]
            simp only [Option.isSome_none, Bool.false_eq_true, if_false]
            rw [Array.getElem?_append_left (by simp [hsz, hi])]
            have hi' : i < s.data.size := hi
            rw [Array.getElem?_map, Array.getElem?_eq_getElem hi']
            have e : (bytesOf s).getD i 0 = ((s.data[i]).toNat : Int) := by
              simp only [bytesOf, List.getD_eq_getElem?_getD, List.getElem?_map, Array.getElem?_toList, Array.getElem?_eq_getElem hi']; rfl
            rw [e]; rfl
          · have hj : j = 0 := by simp [Lst.sz] at hj; exact hj
            subst hj
            exact .v _
      have hw : w' = { w' with heap := w'.heap } := rfl
      refine ⟨.slice (some ⟨w.heap.size, 0, none⟩) s.size c, w', ι.set st.nk ⟨w.heap.size, 0, s.size, c⟩, ?_, hal.same ?_ h2 h3 h4, ?_⟩
      · unfold execOp; rw [ho]
        refine exec_v ?_
        rw [rep_v_inv (hs.opnd hx)]
        unfold convert
        rw [run_ok (run_under hs1), run_ok (run_under hd)]
        show (do match ← underlying e with | .int .u8 => Conv.stringToBytes e s | .int .i32 => Conv.stringToRunes e s | _ => stuck _ : Sem Value).run P w = _
        rw [run_ok (run_under hu)]
        exact h1
      · rw [h5]; rfl
      · by_cases hc0 : 0 < c
        · exact .own (L := ⟨w.heap.size, 0, s.size, c⟩) (Loci.set_same _ _ _) hc0
        · have hc1 : c = 0 := by omega
          have hs0 : s.size = 0 := by omega
          subst hc1
          have h9 : Rep w' ok G.B (ι.set st.nk ⟨w.heap.size, 0, s.size, 0⟩) (.own st.nk) (.slice (some ⟨w.heap.size, 0, none⟩) 0 0) := .own0 (L := ⟨w.heap.size, 0, s.size, 0⟩) (Loci.set_same _ _ _) rfl hs0
          rw [show (Value.slice (some ⟨w.heap.size, 0, none⟩) s.size 0) = .slice (some ⟨w.heap.size, 0, none⟩) 0 0 by rw [hs0]]
          exact h9
    · cases h
  · cases h
end
end Go.Ev

namespace Go.Ev
set_option linter.unusedSimpArgs false
set_option linter.unusedVariables false
/-! ### cuts -/
def opI (st : St) : Option Operand → Option (Option Int)
  | none => some none
  | some x => match opnd st x with
    | some (.v (.int _ n)) => some (some n)
    | _ => none
def loN : Option Int → Nat | none => 0 | some l => l.toNat
def hiN : Option Int → Nat → Nat | none, n => n | some h, _ => h.toNat
def bounds (lo hi : Option Int) (n : Nat) : Bool :=
  (match hi with | none => true | some h => decide (0 ≤ h) && decide (h ≤ (n : Int))) && (match lo with | none => true | some l => decide (0 ≤ l) && decide (l ≤ (match hi with | none => (n : Int) | some h => h)))
def Lst.cut (l : Lst) (lo hi : Option Int) : Lst :=
  match lo, hi with
  | none, none => l
  | none, some h => l.take h.toNat
  | some i, none => l.drop i.toNat
  | some i, some h => (l.take h.toNat).drop i.toNat
def evSlice {R : Type} (P : Program) (o : Oper) (t : TypeId) (x : Operand) (lo hi : Option Operand) (st : St) (K : X → St → Option R) : Option R :=
  match P.underlying t, opnd st x, opI st lo, opI st hi with
  | some .string, some (.v (.string s)), some l, some h => bif bounds l h s.size then fin o st K (.v (.string (s.extract (loN l) (hiN h s.size)))) else none
  | some (.slice e), some y, some l, some h => match P.info? e, y with
    | some _, .nils => bif bounds l h 0 then fin o st K .nils else none
    | some i, .ro nw r => bif Nat.beq i.size r.sz then (bif bounds l h r.length then fin o st K (.ro nw (r.cut l h)) else none) else none
    | some i, .own k => match look st.ar k with
      | some (.row _ r) => bif Nat.beq i.size r.sz then (bif bounds l h r.length then fin o st K (.sl k r.sz (loN l) (hiN h r.length - loN l)) else none) else none
      | _ => none
    | some i, .sl k sz off len => bif Nat.beq i.size sz then (bif bounds l h len then fin o st K (.sl k sz (off + loN l) (hiN h len - loN l)) else none) else none
    | _, _ => none
  | _, _, _, _ => none
section
variable {P : Program} {w : World}
theorem run_sliceBound {v : Value} {k : IntKind} {i : Int} {n : Nat} {c : BoundsCode} (hv : v = .int k i) (h0 : 0 ≤ i) (h1 : i ≤ n) : (Instr.sliceBound v n c).run P w = .ok i.toNat w := by
  subst hv
  unfold Instr.sliceBound
  have : (asIntOf (.int k i)).run P w = .ok (k, i) w := rfl
  rw [run_ok this]
  simp only
  rw [if_pos ⟨h0, h1⟩]; rfl
/-- what an operand's number is -/
def IsOpt (a : Act) (x : Option Operand) (v : Option Int) : Prop :=
  match x, v with
  | none, none => True
  | some x, some n => ∃ k, a.eval x = .int k n
  | _, _ => False
theorem opI_ok {G : Base} {ι : Loci} {ok : Nat → Prop} {st : St} {a : Act} (hs : SimI G ι ok st a w) {x : Option Operand} {v : Option Int} (h : opI st x = some v) : IsOpt a x v := by
  cases x with
  | none => injection h with h; subst h; trivial
  | some x =>
    simp only [opI] at h
    split at h
    · rename_i k n hx
      injection h with h; subst h
      exact ⟨k, rep_v_inv (hs.opnd hx)⟩
    · cases h
theorem run_sliceBounds {a : Act} {lo hi : Option Operand} {l h : Option Int} {len cap : Nat} {isSlice : Bool} (hl : IsOpt a lo l) (hh : IsOpt a hi h) (hb : bounds l h len = true) (hc : len ≤ cap) :
    (Instr.sliceBounds isSlice len cap (lo.map a.eval) (hi.map a.eval) none).run P w = .ok (loN l, hiN h len, cap) w ∧ loN l ≤ hiN h len ∧ hiN h len ≤ len := by
  unfold bounds at hb
  rw [Bool.and_eq_true] at hb
  have hH : hiN h len ≤ len := by
    cases h with
    | none => exact Nat.le_refl _
    | some h => have := hb.1; simp at this; simp only [hiN]; omega
  have hLH : loN l ≤ hiN h len := by
    cases l with
    | none => exact Nat.zero_le _
    | some l =>
      cases h with
      | none => have := hb.2; simp at this; simp only [loN, hiN]; omega
      | some h => have := hb.2; simp at this; simp only [loN, hiN]; omega
  refine ⟨?_, hLH, hH⟩
  have e2 : ∀ lo', lo = some lo' → ∀ code, (Instr.sliceBound (a.eval lo') (hiN h len) code).run P w = .ok (loN l) w := by
    intro lo' e code
    subst e
    cases l with
    | none => exact hl.elim
    | some l =>
      obtain ⟨k, hk⟩ := hl
      have h2 := hb.2
      simp at h2
      refine run_sliceBound hk h2.1 ?_
      cases h with
      | none => exact h2.2
      | some h =>
        have h3 : l ≤ h := h2.2
        have := hb.1; simp at this; simp only [hiN]; omega
  have e3 : ∀ hi', hi = some hi' → ∀ code, (Instr.sliceBound (a.eval hi') cap code).run P w = .ok (hiN h len) w := by
    intro hi' e code
    subst e
    cases h with
    | none => exact hh.elim
    | some h =>
      obtain ⟨k, hk⟩ := hh
      have := hb.1; simp at this
      exact run_sliceBound hk this.1 (by omega)
  have z1 : lo = none → loN l = 0 := by
    intro e; subst e
    cases l with
    | none => rfl
    | some l => exact hl.elim
  have z2 : hi = none → hiN h len = len := by
    intro e; subst e
    cases h with
    | none => rfl
    | some h => exact hh.elim
  unfold Instr.sliceBounds
  cases hi with
  | none =>
    cases lo with
    | none => rw [z1 rfl, z2 rfl]; rfl
    | some lo' =>
      have := e2 lo' rfl .sliceB
      rw [z2 rfl] at this ⊢
      show (do let l' ← Instr.sliceBound (a.eval lo') len .sliceB; pure (l', len, cap) : Sem (Nat × Nat × Nat)).run P w = _
      rw [run_ok this]; rfl
  | some hi' =>
    cases lo with
    | none =>
      rw [z1 rfl]
      show (do let h' ← Instr.sliceBound (a.eval hi') cap (if isSlice then .sliceAcap else .sliceAlen); pure (0, h', cap) : Sem (Nat × Nat × Nat)).run P w = _
      rw [run_ok (e3 hi' rfl _)]; rfl
    | some lo' =>
      show (do let h' ← Instr.sliceBound (a.eval hi') cap (if isSlice then .sliceAcap else .sliceAlen); let l' ← Instr.sliceBound (a.eval lo') h' .sliceB; pure (l', h', cap) : Sem (Nat × Nat × Nat)).run P w = _
      rw [run_ok (e3 hi' rfl _), run_ok (e2 lo' rfl _)]; rfl
theorem Lst.cut_eq (r : Lst) (l h : Option Int) (hl : loN l ≤ hiN h r.length) (hh : hiN h r.length ≤ r.length) : (r.cut l h).length = hiN h r.length - loN l ∧ (r.cut l h).sz = r.sz ∧ ∀ i, i < hiN h r.length - loN l → (r.cut l h).elem i = r.elem (loN l + i) := by
  cases l <;> cases h <;> simp only [Lst.cut, loN, hiN] at *
  · simp
  · rename_i h
    refine ⟨by rw [Lst.length_take]; omega, Lst.sz_take _ _, fun i hi => by rw [Lst.elem_take _ _ _ (by omega), Nat.zero_add]⟩
  · rename_i l
    exact ⟨Lst.length_drop _ _, Lst.sz_drop _ _, fun i hi => Lst.elem_drop _ _ _⟩
  · rename_i l h
    refine ⟨by rw [Lst.length_drop, Lst.length_take]; omega, by rw [Lst.sz_drop, Lst.sz_take], fun i hi => by rw [Lst.elem_drop, Lst.elem_take _ _ _ (by omega)]⟩
theorem run_sliceAt {t e : TypeId} {i : TypeInfo} {a : Act} {lo hi : Option Operand} {l h : Option Int} {p : Option Addr} {len cap : Nat} (hu : P.underlying t = some (.slice e)) (hi' : P.info? e = some i) (hl : IsOpt a lo l) (hh : IsOpt a hi h)
    (hb : bounds l h len = true) (hc : len ≤ cap) : (Instr.sliceAt t (.slice p len cap) (lo.map a.eval) (hi.map a.eval) none).run P w =
      .ok (.slice (if cap = loN l then p else p.map (·.add (loN l * i.size))) (hiN h len - loN l) (cap - loN l)) w := by
  unfold Instr.sliceAt
  rw [run_ok (run_under hu)]
  show (Instr.slice t (.slice p len cap) (lo.map a.eval) (hi.map a.eval) none).run P w = _
  unfold Instr.slice
  rw [run_ok (run_under hu)]
  show (do
    let (l', h', m) ← Instr.sliceBounds true len cap (lo.map a.eval) (hi.map a.eval) none
    let size ← sizeOf e
    pure (.slice (if m = l' then p else p.map (·.add (l' * size))) (h' - l') (m - l')) : Sem Value).run P w = _
  rw [run_ok (run_sliceBounds hl hh hb hc).1]
  show (do
    let size ← sizeOf e
    pure (.slice (if cap = loN l then p else p.map (·.add (loN l * size))) (hiN h len - loN l) (cap - loN l)) : Sem Value).run P w = _
  rw [run_ok (run_size hi')]; rfl
end
section
variable {R : Type} {P : Program} {o : Oper} {st : St} {K : X → St → Option R} {r : R}
theorem evSlice_any {t : TypeId} {x : Operand} {lo hi : Option Operand} (ho : o.op = .slice t x lo hi none) (h : evSlice P o t x lo hi st K = some r) :
    FinAny P o st K r := by
  have run : ∀ (a : Act) (v : Value), (∀ w, (Instr.sliceAt t (a.eval x) (lo.map a.eval) (hi.map a.eval) none).run P w = .ok v w) → ∀ w, (execOp a.eval o).run P w = .ok (.value v) w := by
    intro a v hv w
    unfold execOp; rw [ho]
    exact exec_v (hv w)
  unfold evSlice at h
  split at h
  · rename_i s l hh hu hx hl hhi
    obtain ⟨hb, h⟩ := cond_none h
    refine finAny_intro h (fun G ι ok a w hs => ⟨_, run a _ ?_, .v _⟩)
    intro w'
    rw [rep_v_inv (hs.opnd hx)]
    unfold Instr.sliceAt
    rw [run_ok (run_under hu)]
    show (Instr.slice t (.string s) (lo.map a.eval) (hi.map a.eval) none).run P w' = _
    unfold Instr.slice
    rw [run_ok (run_under hu)]
    show (do
      let (l', h', _) ← Instr.sliceBounds false s.size s.size (lo.map a.eval) (hi.map a.eval) none
      pure (.string (s.extract l' h')) : Sem Value).run P w' = _
    rw [run_ok (run_sliceBounds (opI_ok hs hl) (opI_ok hs hhi) hb (Nat.le_refl _)).1]; rfl
  · rename_i e y l hh hu hx hl hhi
    split at h
    · rename_i i hi'
      obtain ⟨hb, h⟩ := cond_none h
      refine finAny_intro h (fun G ι ok a w hs => ?_)
      have hv := hs.opnd hx
      generalize hav : a.eval x = v at hv
      cases hv
      obtain ⟨_, g1, g2⟩ := run_sliceBounds (P := P) (w := w) (isSlice := true) (opI_ok hs hl) (opI_ok hs hhi) hb (Nat.le_refl 0)
      refine ⟨_, run a _ (fun w' => by rw [hav]; exact run_sliceAt hu hi' (opI_ok hs hl) (opI_ok hs hhi) hb (Nat.le_refl 0)), ?_⟩
      have e1 : hiN hh 0 = 0 := by omega
      have e2 : loN l = 0 := by omega
      rw [e1, e2]
      exact .nils
    · rename_i i nw rr hi'
      obtain ⟨hz, h⟩ := cond_none h
      obtain ⟨hb, h⟩ := cond_none h
      have hz := beq_eq hz
      refine finAny_intro h (fun G ι ok a w hs => ?_)
      obtain ⟨p, c, e1, e2, e3⟩ := sliceLst_ok hs (hs.opnd hx) (st := st) (x := .ro nw rr) rfl
      have hro := hs.opnd hx
      obtain ⟨_, g1, g2⟩ := run_sliceBounds (P := P) (w := w) (isSlice := true) (opI_ok hs hl) (opI_ok hs hhi) hb (Nat.le_refl rr.length)
      obtain ⟨c1, c2, c3⟩ := Lst.cut_eq rr l hh g1 g2
      refine ⟨_, run a _ (fun w' => by rw [e1]; exact run_sliceAt hu hi' (opI_ok hs hl) (opI_ok hs hhi) hb e2), ?_⟩
      by_cases h0 : hiN hh rr.length - loN l = 0
      · exact .ro0 c1.symm h0
      · have hne : ¬ c = loN l := by omega
        rw [if_neg hne, hz]
        rw [e1] at hro
        cases hro with
        | ro val a1 a2 a3 a4 a5 a6 a7 a8 a9 =>
          rename_i ad
          obtain ⟨b, ob, s⟩ := ad
          simp only at a6; subst a6
          show Rep w ok G.B ι _ (.slice (some ((⟨b, ob, none⟩ : Addr).add (loN l * rr.sz))) _ _)
          rw [addr_add]
          refine .ro (fun i j => val (loN l + i) j) c1.symm (by omega) (by omega) a4 a5 rfl (fun i j hi hj => ?_) (fun i j hi hj => ?_) (fun i hi => ?_)
          · rw [c2] at hj ⊢
            have := a7 (loN l + i) j (by omega) hj
            rw [Nat.add_mul] at this
            show w.cell? ⟨b, ob + loN l * rr.sz + (i * rr.sz + j), none⟩ = _
            rw [show ob + loN l * rr.sz + (i * rr.sz + j) = ob + (loN l * rr.sz + i * rr.sz + j) by omega]; exact this
          · rw [c2] at hj
            rw [c3 i hi]
            exact a8 (loN l + i) j (by omega) hj
          · rw [c3 i hi, c2]; exact a9 (loN l + i) (by omega)
        | ro0 a1 a2 => omega
    · rename_i i k hi'
      split at h
      · rename_i ow rr hk
        obtain ⟨hz, h⟩ := cond_none h
        obtain ⟨hb, h⟩ := cond_none h
        have hz := beq_eq hz
        refine finAny_intro h (fun G ι ok a w hs => ?_)
        have hown := hs.opnd hx
        obtain ⟨p, c, e1, e2, e3⟩ := sliceLst_ok hs hown (l := rr) (by simp only [sliceLst, hk])
        obtain ⟨_, g1, g2⟩ := run_sliceBounds (P := P) (w := w) (isSlice := true) (opI_ok hs hl) (opI_ok hs hhi) hb (Nat.le_refl rr.length)
        refine ⟨_, run a _ (fun w' => by rw [e1]; exact run_sliceAt hu hi' (opI_ok hs hl) (opI_ok hs hhi) hb e2), ?_⟩
        obtain ⟨L, h1, h2, h3, h4⟩ := hs.objs _ _ hk
        rw [e1] at hown
        generalize hpp : p = p' at hown
        generalize hlen : rr.length = n at hown
        cases hown with
        | own q1 q2 =>
          rename_i L'
          rw [h1] at q1; injection q1 with q1; subst q1
          subst hpp
          have hlen' : hiN hh rr.length = hiN hh L.n := by rw [h2]
          by_cases hne : L.cp = loN l
          · rw [if_pos hne, hne, Nat.sub_self]
            exact .sl0 h1 (by omega) (by omega)
          · rw [if_neg hne, hz]
            show Rep w ok G.B ι _ (.slice (some ((⟨L.b, L.o, none⟩ : Addr).add (loN l * rr.sz))) _ _)
            rw [addr_add]
            exact .sl h1 (by omega) (by omega) (by omega) (by omega)
        | own0 q1 q2 q3 =>
          rename_i L'
          rw [h1] at q1; injection q1 with q1; subst q1
          have hlen' : hiN hh rr.length = hiN hh 0 := by rw [hlen]
          have z1 : loN l = 0 := by omega
          rw [z1]
          refine .sl0 h1 (by omega) (by omega)
      · cases h
    · rename_i i k sz off len hi'
      obtain ⟨hz, h⟩ := cond_none h
      obtain ⟨hb, h⟩ := cond_none h
      have hz := beq_eq hz
      refine finAny_intro h (fun G ι ok a w hs => ?_)
      have hsl := hs.opnd hx
      obtain ⟨_, g1, g2⟩ := run_sliceBounds (P := P) (w := w) (isSlice := true) (opI_ok hs hl) (opI_ok hs hhi) hb (Nat.le_refl len)
      generalize hav : a.eval x = v at hsl
      cases hsl with
      | sl q1 q2 q3 q4 q5 =>
        rename_i c L
        refine ⟨_, run a _ (fun w' => by rw [hav]; exact run_sliceAt hu hi' (opI_ok hs hl) (opI_ok hs hhi) hb q3), ?_⟩
        by_cases hne : c = loN l
        · rw [if_pos hne, hne, Nat.sub_self]
          exact .sl0 q1 (by omega) (by omega)
        · rw [if_neg hne, hz]
          show Rep w ok G.B ι _ (.slice (some ((⟨L.b, L.o + off * sz, none⟩ : Addr).add (loN l * sz))) _ _)
          rw [addr_add, Nat.add_assoc, ← Nat.add_mul]
          exact .sl q1 (by omega) (by omega) (by omega) (by omega)
      | sl0 q1 q2 q3 =>
        refine ⟨_, run a _ (fun w' => by rw [hav]; exact run_sliceAt hu hi' (opI_ok hs hl) (opI_ok hs hhi) hb (by omega)), ?_⟩
        have z1 : loN l = 0 := by omega
        rw [z1]
        exact .sl0 q1 (by omega) (by omega)
    · cases h
  · cases h
theorem evSlice_fin {t : TypeId} {x : Operand} {lo hi : Option Operand} (ho : o.op = .slice t x lo hi none) (h : evSlice P o t x lo hi st K = some r) :
    Fin P o st K r := (evSlice_any ho h).fin
theorem evSlice_ok {t : TypeId} {x : Operand} {lo hi : Option Operand} (ho : o.op = .slice t x lo hi none) (h : evSlice P o t x lo hi st K = some r) :
    ∃ x st', RunsOp P o st x st' ∧ K x st' = some r := (evSlice_fin ho h).ok
/-- a row cut with its room: x[:h:m] -/
def evSlice3 (P : Program) (o : Oper) (t : TypeId) (x : Operand) (lo : Option Operand) (hi mx : Option Operand) (st : St) (K : X → St → Option R) : Option R :=
  match P.underlying t, opnd st x, lo, opI st hi, opI st mx with
  | some (.slice e), some (.own k), none, some (some h), some (some m) => match P.info? e, look st.ar k with
    | some i, some (.row _ r) => bif Nat.beq i.size r.sz && (decide (0 ≤ h) && (decide (h ≤ m) && decide (m ≤ (r.length : Int)))) then fin o st K (.sl k r.sz 0 h.toNat) else none
    | _, _ => none
  | _, _, _, _, _ => none
theorem evSlice3_fin {t : TypeId} {x : Operand} {lo hi mx : Option Operand} (ho : o.op = .slice t x lo hi mx) (h : evSlice3 P o t x lo hi mx st K = some r) : Fin P o st K r := by
  unfold evSlice3 at h
  split at h
  · rename_i e k hh m hu hx hhi hmx
    split at h
    · rename_i i ow rr hi' hk
      obtain ⟨hc, h⟩ := cond_none h
      simp only [Bool.and_eq_true, decide_eq_true_eq] at hc
      have hz := beq_eq hc.1
      refine fin_intro h (fun G ι ok a w hs => ?_)
      have hown := hs.opnd hx
      obtain ⟨p, c, e1, e2, e3⟩ := sliceLst_ok hs hown (l := rr) (by simp only [sliceLst, hk])
      have o1 := opI_ok hs hhi
      have o2 := opI_ok hs hmx
      cases hi with
      | none => exact o1.elim
      | some hi =>
        cases mx with
        | none => exact o2.elim
        | some mx =>
          obtain ⟨k1, o1⟩ := o1
          obtain ⟨k2, o2⟩ := o2
          have hrun : (execOp a.eval o).run P w = .ok (.value (.slice (if m.toNat = 0 then p else p.map (·.add (0 * i.size))) (hh.toNat - 0) (m.toNat - 0))) w := by
            unfold execOp; rw [ho]
            refine exec_v ?_
            rw [e1]
            unfold Instr.sliceAt
            rw [run_ok (run_under hu)]
            show (Instr.slice t (.slice p rr.length c) none (some (a.eval hi)) (some (a.eval mx))).run P w = _
            unfold Instr.slice
            rw [run_ok (run_under hu)]
            show (do
              let (l', h', m') ← (do
                let m' ← Instr.sliceBound (a.eval mx) c .slice3Acap
                let h' ← Instr.sliceBound (a.eval hi) m' .slice3B
                pure (0, h', m') : Sem (Nat × Nat × Nat))
              let size ← sizeOf e
              pure (.slice (if m' = l' then p else p.map (·.add (l' * size))) (h' - l') (m' - l')) : Sem Value).run P w = _
            have b1 : (do
                let m' ← Instr.sliceBound (a.eval mx) c .slice3Acap
                let h' ← Instr.sliceBound (a.eval hi) m' .slice3B
                pure (0, h', m') : Sem (Nat × Nat × Nat)).run P w = .ok (0, hh.toNat, m.toNat) w := by
              rw [run_ok (run_sliceBound o2 (by omega) (by omega)), run_ok (run_sliceBound o1 hc.2.1 (by omega))]; rfl
            rw [run_ok b1]
            show (do
              let size ← sizeOf e
              pure (.slice (if m.toNat = 0 then p else p.map (·.add (0 * size))) (hh.toNat - 0) (m.toNat - 0)) : Sem Value).run P w = _
            rw [run_ok (run_size hi')]; rfl
          refine ⟨_, hrun, ?_⟩
          obtain ⟨L, h1, h2, h3, h4⟩ := hs.objs _ _ hk
          rw [e1] at hown
          generalize hpp : p = p' at hown
          generalize hlen : rr.length = n at hown
          rw [Nat.sub_zero, Nat.sub_zero]
          by_cases hm0 : m.toNat = 0
          · rw [if_pos hm0, hm0]
            exact .sl0 h1 (by omega) (Nat.zero_le _)
          · rw [if_neg hm0]
            cases hown with
            | own q1 q2 =>
              rename_i L'
              rw [h1] at q1; injection q1 with q1; subst q1
              subst hpp
              show Rep w ok G.B ι _ (.slice (some ((⟨L.b, L.o, none⟩ : Addr).add (0 * i.size))) _ _)
              rw [addr_add, hz]
              exact .sl h1 (by omega) (by omega) (by omega) (by omega)
            | own0 q1 q2 q3 => omega
    · cases h
  · cases h
end
end Go.Ev

namespace Go.Ev
set_option linter.unusedSimpArgs false
set_option linter.unusedVariables false
/-! ### elements of rows: what may be stored there -/
def compat1 : Sh → AV → Bool
  | .int k, x => (match x with | .v (.int k' _) => k == k' | _ => false)
  | .bool, x => (match x with | .v (.bool _) => true | _ => false)
  | .str, x => (match x with | .v (.string _) => true | _ => false)
  | .roI nw k, x => (match x with | .ro nw' (.I k' _) => (!nw || nw') && k == k' | .nils => true | _ => false)
  | .roS nw, x => (match x with | .ro nw' (.S _) => !nw || nw' | .nils => true | _ => false)
  | .roA nw sh sz, x => (match x with | .ro nw' (.A sh' sz' _) => (!nw || nw') && (Nat.beq sz sz' && shLe sh sh') | .nils => true | _ => false)
  | _, _ => false
def compats : List Sh → List AV → Bool
  | [], [] => true
  | s :: r, x :: xs => compat1 s x && compats r xs
  | _, _ => false
def leafSh : Sh → Bool | .agg _ => false | .any => false | _ => true
def fitsLeaf (sh : Sh) : List AV → Bool
  | [x] => compat1 sh x
  | _ => false
/-- may these cells be an element's? -/
def fitsCells : Sh → List AV → Bool
  | .agg l, xs => compats l xs
  | sh, xs => fitsLeaf sh xs
def mkE : Sh → List AV → AV
  | .agg _, xs => .agg xs
  | _, xs => xs.headD default
section
variable {w : World} {ok : Nat → Prop} {B : Nat} {ι : Loci}
theorem compat1_ok : ∀ {sh : Sh} {x : AV} {v : Value}, compat1 sh x = true → Rep w ok B ι x v → Rep w ok B (fun _ => none) (view sh x) v ∧ (view sh x).cells = [view sh x] := by
  intro sh x v h hr
  cases sh with
  | int k =>
    simp only [compat1] at h
    split at h
    · have := eq_of_beq h; subst this; rw [rep_v_inv hr]; exact ⟨.v _, rfl⟩
    · cases h
  | bool =>
    simp only [compat1] at h
    split at h
    · rw [rep_v_inv hr]; exact ⟨.v _, rfl⟩
    · cases h
  | str =>
    simp only [compat1] at h
    split at h
    · rw [rep_v_inv hr]; exact ⟨.v _, rfl⟩
    · cases h
  | roI nw k =>
    simp only [compat1] at h
    split at h
    · rw [Bool.and_eq_true] at h
      have := eq_of_beq h.2; subst this
      refine ⟨?_, rfl⟩
      have := Rep.weaken hr (l := .I k _) rfl rfl (imp_of h.1) (fun _ h => h) (fun _ _ _ h => h)
      cases this with
      | ro val a1 a2 a3 a4 a5 a6 a7 a8 a9 => exact .ro val a1 a2 a3 a4 a5 a6 a7 a8 a9
      | ro0 a1 a2 => exact .ro0 a1 a2
    · cases hr; exact ⟨.ro0 rfl rfl, rfl⟩
    · cases h
  | roS nw =>
    simp only [compat1] at h
    split at h
    · refine ⟨?_, rfl⟩
      have := Rep.weaken hr (l := .S _) rfl rfl (imp_of h) (fun _ h => h) (fun _ _ _ h => h)
      cases this with
      | ro val a1 a2 a3 a4 a5 a6 a7 a8 a9 => exact .ro val a1 a2 a3 a4 a5 a6 a7 a8 a9
      | ro0 a1 a2 => exact .ro0 a1 a2
    · cases hr; exact ⟨.ro0 rfl rfl, rfl⟩
    · cases h
  | roA nw sh sz =>
    simp only [compat1] at h
    split at h
    · rename_i nw' sh' sz' l
      rw [Bool.and_eq_true, Bool.and_eq_true] at h
      have e := beq_eq h.2.1; subst e
      have vl := view_le (w := w) (ok := ok) (B := B) sh sh' h.2.2
      refine ⟨?_, rfl⟩
      have := Rep.weaken hr (l := .A sh sz l) rfl rfl (imp_of h.1) (fun i hc => (vl.2.2 _).trans hc) (fun i j v hv => vl.2.1 _ _ j v hv)
      cases this with
      | ro val a1 a2 a3 a4 a5 a6 a7 a8 a9 => exact .ro val a1 a2 a3 a4 a5 a6 a7 a8 a9
      | ro0 a1 a2 => exact .ro0 a1 a2
    · cases hr; exact ⟨.ro0 rfl rfl, rfl⟩
    · cases h
  | agg l => cases h
  | any => cases h
theorem compats_ok : ∀ {l : List Sh} {xs ys : List AV} {i : Nat} (f : Nat → Value), compats l xs = true → (∀ j, j < xs.length → ys.getD (i + j) default = xs.getD j default) → (∀ j, j < xs.length → Rep w ok B ι (xs.getD j default) (f j)) →
    l.length = xs.length ∧ (views l (.agg ys) i).length = xs.length ∧ ∀ j, j < xs.length → Rep w ok B (fun _ => none) ((views l (.agg ys) i).getD j default) (f j)
  | [], [], ys, i, f, h, _, _ => ⟨rfl, rfl, fun j hj => by simp at hj⟩
  | s :: r, x :: xs, ys, i, f, h, hy, hr => by
    simp only [compats, Bool.and_eq_true] at h
    have ih := compats_ok (l := r) (xs := xs) (ys := ys) (i := i + 1) (fun j => f (j + 1)) h.2 (fun j hj => by
      have := hy (j + 1) (by simp; omega)
      rw [show i + (j + 1) = i + 1 + j by omega] at this; simpa using this) (fun j hj => by have := hr (j + 1) (by simp; omega); simpa using this)
    refine ⟨by simp [ih.1], by simp [views, ih.2.1], fun j hj => ?_⟩
    cases j with
    | zero =>
      have h1 := hr 0 (by simp)
      have h2 := hy 0 (by simp)
      simp only [List.getD_cons_zero, Nat.add_zero] at h1 h2
      simp only [views, List.getD_cons_zero]
      have e : (AV.agg ys).cell i = x := h2
      rw [e]
      exact (compat1_ok h.1 h1).1
    | succ j =>
      simp only [views, List.getD_cons_succ]
      exact ih.2.2 j (by simpa using hj)
  | [], _ :: _, _, _, _, h, _, _ => by simp [compats] at h
  | _ :: _, [], _, _, _, h, _, _ => by simp [compats] at h
/-- an element made of fitting cells -/
theorem fits_ok {sh : Sh} {xs : List AV} (f : Nat → Value) (h : fitsCells sh xs = true) (hr : ∀ j, j < xs.length → Rep w ok B ι (xs.getD j default) (f j)) :
    (view sh (mkE sh xs)).cells.length = xs.length ∧ ∀ j, j < xs.length → Rep w ok B (fun _ => none) ((view sh (mkE sh xs)).cell j) (f j) := by
  have leaf : fitsLeaf sh xs = true → mkE sh xs = xs.headD default → (view sh (mkE sh xs)).cells.length = xs.length ∧ ∀ j, j < xs.length → Rep w ok B (fun _ => none) ((view sh (mkE sh xs)).cell j) (f j) := by
    intro h e
    match xs, h, hr, e with
    | [x], h, hr, e =>
      have h1 := hr 0 (by simp)
      obtain ⟨g1, g2⟩ := compat1_ok h h1
      rw [e]
      refine ⟨by rw [List.headD_cons, g2]; rfl, fun j hj => ?_⟩
      have hj : j = 0 := by simp at hj; exact hj
      subst hj
      show Rep w ok B _ ((view sh x).cells.getD 0 default) _
      rw [g2]; exact g1
    | [], h, _, _ => cases h
    | _ :: _ :: _, h, _, _ => cases h
  cases sh with
  | agg l =>
    have := compats_ok (ys := xs) (i := 0) f h (fun j _ => by rw [Nat.zero_add]) hr
    exact ⟨this.2.1, this.2.2⟩
  | _ => exact leaf h rfl
end
def setElem : Lst → Nat → Nat → List AV → Option Lst
  | .I k l, i, j, xs => (match j, xs with
    | 0, [.v (.int k' n)] => bif k == k' then some (.I k (l.set i n)) else none
    | _, _ => none)
  | .S l, i, j, xs => (match j, xs with
    | 0, [.v (.string s)] => some (.S (l.set i s))
    | _, _ => none)
  | .A sh sz l, i, j, xs => bif Nat.ble (j + xs.length) (view sh (l.getD i default)).cells.length then
      (bif fitsCells sh (splice (view sh (l.getD i default)).cells j xs) then some (.A sh sz (l.set i (mkE sh (splice (view sh (l.getD i default)).cells j xs)))) else none) else none
theorem rowTy_set : ∀ {l l' : Lst} {i j : Nat} {xs : List AV} {t : TypeId}, setElem l i j xs = some l' → rowTy l t → rowTy l' t
  | .I k l, l', i, j, xs, t, h, hr => by
    simp only [setElem] at h
    split at h
    · obtain ⟨_, h⟩ := cond_none h
      injection h with h; subst h
      cases k <;> first | exact hr | trivial
    · cases h
  | .S l, l', i, j, xs, t, h, hr => by
    simp only [setElem] at h
    split at h
    · injection h with h; subst h; trivial
    · cases h
  | .A sh sz l, l', i, j, xs, t, h, hr => by
    simp only [setElem] at h
    obtain ⟨_, h⟩ := cond_none h
    obtain ⟨_, h⟩ := cond_none h
    injection h with h; subst h; trivial
def storeElem (P : Program) (st : St) (t : TypeId) (p x : AV) : Option St :=
  match p with
  | .eptr k sz i j => match look st.ar k, P.info? t with
    | some (.row true l), some inf => bif Nat.beq sz l.sz && (Nat.beq x.cells.length inf.size && x.cells.all leafOk) then (match setElem l i j x.cells with
      | some l' => some { st with ar := (k, .row true l') :: st.ar }
      | none => none) else none
    | _, _ => none
  | _ => none
def evStore2 {R : Type} (P : Program) (o : Oper) (t : TypeId) (x y : Operand) (st : St) (K : X → St → Option R) : Option R :=
  match opnd st x, opnd st y with
  | some p, some z => match storeElem P st t p z with
    | some st' => bif dstOk st'.n o.dst then K .normal (st'.put o.dst (.v undef)) else none
    | none => none
  | _, _ => none
/-- what an element's store makes of a row -/
theorem setElem_ok {w : World} {ok : Nat → Prop} {B : Nat} {ι : Loci} {l l' : Lst} {i j : Nat} {xs : List AV} (h : setElem l i j xs = some l') (hi : i < l.length) (f : Nat → Value) (g : Nat → Value)
    (hx : ∀ q, q < xs.length → Rep w ok B ι (xs.getD q default) (g q)) (ho : ∀ q, q < l.sz → Rep w ok B (fun _ => none) ((l.elem i).cell q) (f q)) (hc : (l.elem i).cells.length = l.sz) :
    l'.length = l.length ∧ l'.sz = l.sz ∧ j + xs.length ≤ l.sz ∧ (∀ q, q ≠ i → l'.elem q = l.elem q) ∧ (l'.elem i).cells.length = l.sz ∧
      ∀ q, q < l.sz → Rep w ok B (fun _ => none) ((l'.elem i).cell q) (if j ≤ q ∧ q < j + xs.length then g (q - j) else f q) := by
  cases l with
  | I k l =>
    simp only [setElem] at h
    split at h
    · rename_i k' n
      obtain ⟨e, h5⟩ := cond_none h
      have e := eq_of_beq e; subst e
      clear h
      injection h5 with h; subst h
      have hi : i < l.length := hi
      refine ⟨by simp [Lst.length], rfl, by simp [Lst.sz], fun q hq => ?_, rfl, fun q hq => ?_⟩
      · simp only [Lst.elem, List.getD_eq_getElem?_getD, List.getElem?_set]
        rw [if_neg (fun e => hq e.symm)]
      · have hq : q = 0 := by simp [Lst.sz] at hq; exact hq
        subst hq
        rw [if_pos (by simp)]
        have := hx 0 (by simp)
        have e : (Lst.I k (l.set i n)).elem i = .v (.int k n) := by simp [Lst.elem, List.getD_eq_getElem?_getD, hi]
        rw [e]
        show Rep w ok B _ (.v (.int k n)) (g 0)
        have h2 : Rep w ok B ι (.v (.int k n)) (g 0) := this
        rw [rep_v_inv h2]; exact .v _
    · cases h
  | S l =>
    simp only [setElem] at h
    split at h
    · rename_i s
      injection h with h; subst h
      have hi : i < l.length := hi
      refine ⟨by simp [Lst.length], rfl, by simp [Lst.sz], fun q hq => ?_, rfl, fun q hq => ?_⟩
      · simp only [Lst.elem, List.getD_eq_getElem?_getD, List.getElem?_set]
        rw [if_neg (fun e => hq e.symm)]
      · have hq : q = 0 := by simp [Lst.sz] at hq; exact hq
        subst hq
        rw [if_pos (by simp)]
        have := hx 0 (by simp)
        have e : (Lst.S (l.set i s)).elem i = .v (.string s) := by simp [Lst.elem, List.getD_eq_getElem?_getD, hi]
        rw [e]
        show Rep w ok B _ (.v (.string s)) (g 0)
        have h2 : Rep w ok B ι (.v (.string s)) (g 0) := this
        rw [rep_v_inv h2]; exact .v _
    · cases h
  | A sh sz l =>
    simp only [setElem] at h
    obtain ⟨hle, h⟩ := cond_none h
    obtain ⟨hf, h⟩ := cond_none h
    injection h with h; subst h
    have hle : j + xs.length ≤ (view sh (l.getD i default)).cells.length := Nat.le_of_ble_eq_true hle
    have hc : (view sh (l.getD i default)).cells.length = sz := hc
    have hi : i < l.length := hi
    have hs : ∀ q, q < (splice (view sh (l.getD i default)).cells j xs).length → Rep w ok B ι ((splice (view sh (l.getD i default)).cells j xs).getD q default) (if j ≤ q ∧ q < j + xs.length then g (q - j) else f q) := by
      intro q hq
      rw [splice_length hle] at hq
      rw [splice_getD hle]
      by_cases hcnd : j ≤ q ∧ q < j + xs.length
      · rw [if_pos hcnd, if_pos hcnd]; exact hx _ (by omega)
      · rw [if_neg hcnd, if_neg hcnd]; exact rep_none (ho q (by show q < sz; omega))
    obtain ⟨g1, g2⟩ := fits_ok (ι := ι) _ hf hs
    have e : (Lst.A sh sz (l.set i (mkE sh (splice (view sh (l.getD i default)).cells j xs)))).elem i = view sh (mkE sh (splice (view sh (l.getD i default)).cells j xs)) := by
      simp only [Lst.elem, List.getD_eq_getElem?_getD, List.getElem?_set]
      simp [hi]
    refine ⟨by simp [Lst.length], rfl, by show _ ≤ sz; omega, fun q hq => ?_, ?_, fun q hq => ?_⟩
    · simp only [Lst.elem, List.getD_eq_getElem?_getD, List.getElem?_set]
      rw [if_neg (fun e => hq e.symm)]
    · rw [e, g1, splice_length hle]; exact hc
    · rw [e]
      exact g2 q (by rw [splice_length hle, hc]; exact hq)
section
variable {R : Type} {P : Program} {o : Oper} {st : St} {K : X → St → Option R} {r : R}
theorem storeElem_ok {G : Base} {ι : Loci} {ok : Nat → Prop} {a : Act} {w : World} (hs : SimI G ι ok st a w) {t : TypeId} {p x : AV} {pv xv : Value} {st' : St} (hp : Rep w ok G.B ι p pv) (hx : Rep w ok G.B ι x xv)
    (h : storeElem P st t p x = some st') : ∃ w', (Instr.storeAt t pv xv).run P w = .ok () w' ∧ SimI G ι ok st' a w' := by
  unfold storeElem at h
  split at h
  · rename_i k sz i j
    split at h
    · rename_i l inf hk hinf
      obtain ⟨hc, h⟩ := cond_none h
      split at h
      · rename_i l' hl'
        injection h with h; subst h
        simp only [Bool.and_eq_true] at hc
        have e0 := beq_eq hc.1; subst e0
        have e1 := beq_eq hc.2.1
        obtain ⟨c1, c2, c3⟩ := rep_cells hx hc.2.2
        obtain ⟨L, h1, h2, h3, h4⟩ := hs.objs _ _ hk
        cases hp with
        | eptr g gi gc =>
          rw [h1] at g; injection g with g; subst g
          obtain ⟨vs, ty, fr, a1, a2, a3, a4, val, b1, b2, b3⟩ := h4 gc
          have hil : i < l.length := by omega
          obtain ⟨s1, s2, s3, s4, s5, s6⟩ := setElem_ok (w := w) (ok := ok) (B := G.B) (ι := ι) hl' hil (val i) (fun q => xv.cells.getD q undef) c2 (fun q hq => b2 i q hil hq) (b3 i hil)
          have hsize : ∀ q, q < l.length * l.sz → L.o + q < vs.size := by
            intro q hq
            have : l.length * l.sz ≤ L.cp * l.sz := Nat.mul_le_mul_right _ (by omega)
            omega
          have hpos : ∀ i' j', i' < l.length → j' < l.sz → i' * l.sz + j' < l.length * l.sz := by
            intro i' j' hi' hj'
            have : (i' + 1) * l.sz ≤ l.length * l.sz := Nat.mul_le_mul_right _ hi'
            rw [Nat.add_mul, Nat.one_mul] at this
            omega
          have hcell : ∀ q, q < xv.cells.size → L.o + (i * l.sz + j) + q < vs.size := by
            intro q hq
            have := hsize (i * l.sz + (j + q)) (hpos i (j + q) hil (by omega))
            omega
          have hrun := run_storeCells_cells (P := P) L.b (L.o + (i * l.sz + j)) xv.cells.toList 0 w (fun q hq => by
            have hq : q < xv.cells.size := by simpa using hq
            rw [Nat.add_zero]
            unfold World.cell?
            simp only [a1]
            simp [hcell q hq]) (fun q hq => by
            have hq : q < xv.cells.size := by simpa using hq
            rw [Nat.add_zero]
            exact frozen_free a1 (a2 rfl).1 (hcell q hq)) c3
          rw [Nat.add_zero] at hrun
          obtain ⟨c', g1, g2, g3⟩ := setCells_block L.b xv.cells.toList (L.o + (i * l.sz + j)) w vs ty fr a1
          obtain ⟨o1, o2, o3, o4, o5⟩ := setCells_other L.b xv.cells.toList (L.o + (i * l.sz + j)) w
          have el : xv.cells.toList.length = x.cells.length := by simpa using c1
          refine ⟨w.setCells L.b (L.o + (i * l.sz + j)) xv.cells.toList, ?_, ?_⟩
          · unfold Instr.storeAt
            have : (Instr.sureAddr (.pointer (some ⟨L.b, L.o + (i * l.sz + j), none⟩))).run P w = .ok ⟨L.b, L.o + (i * l.sz + j), none⟩ w := rfl
            rw [run_ok this]
            unfold storeVar
            rw [run_ok (run_size hinf)]
            rw [if_neg (by simp only [ne_eq, Classical.not_not]; omega)]
            exact hrun
          · have hap := hs.apart k _ L hk rfl h1 gc
            have hmem : ∀ b, ok b → (w.setCells L.b (L.o + (i * l.sz + j)) xv.cells.toList).heap[b]? = w.heap[b]? := fun b hb => o5 b (fun e => hap.1 (e ▸ hb))
            refine hs.write (o' := .row true l') hk rfl h1 gc o1 o2 o3 o4 o5 ?_
            refine ⟨L, h1, by rw [s1]; exact h2, h3, fun _ => ⟨c', ty, fr, g1, fun _ => ⟨by rw [g2]; exact (a2 rfl).1, rowTy_set hl' (a2 rfl).2⟩, (fun h => by cases h), by rw [g2, s2]; exact a4, ?_⟩⟩
            · refine ⟨fun i' j' => if i' = i then (if j ≤ j' ∧ j' < j + x.cells.length then xv.cells.getD (j' - j) undef else val i j') else val i' j', fun i' j' hi' hj' => ?_, fun i' j' hi' hj' => ?_, fun i' hi' => ?_⟩
              · rw [s1] at hi'
                rw [s2] at hj' ⊢
                have hlt := hsize _ (hpos i' j' hi' hj')
                have hb := b1 i' j' hi' hj'
                unfold World.cell? at hb ⊢
                simp only [a1] at hb
                simp only [g1]
                simp only [Option.isSome_none, Bool.false_eq_true, if_false] at hb ⊢
                rw [g3 _ hlt, el]
                by_cases e : i' = i
                · subst e
                  rw [if_pos rfl]
                  by_cases hcnd : j ≤ j' ∧ j' < j + x.cells.length
                  · rw [if_pos (by omega), if_pos hcnd]
                    rw [show L.o + (i' * l.sz + j') - (L.o + (i' * l.sz + j)) = j' - j by omega]
                    have : j' - j < xv.cells.size := by omega
                    simp [Array.getD_eq_getD_getElem?, this]
                  · rw [if_neg (by omega), if_neg hcnd]; exact hb
                · rw [if_neg e, if_neg]
                  · exact hb
                  · intro hcnd
                    rcases Nat.lt_or_gt_of_ne e with e | e
                    · have : (i' + 1) * l.sz ≤ i * l.sz := Nat.mul_le_mul_right _ e
                      rw [Nat.add_mul, Nat.one_mul] at this
                      omega
                    · have : (i + 1) * l.sz ≤ i' * l.sz := Nat.mul_le_mul_right _ e
                      rw [Nat.add_mul, Nat.one_mul] at this
                      omega
              · rw [s1] at hi'
                rw [s2] at hj'
                simp only
                by_cases e : i' = i
                · subst e
                  rw [if_pos rfl]
                  exact (s6 j' hj').mono hmem (fun _ h => h) (fun _ _ h => h)
                · rw [if_neg e, s4 i' e]
                  exact (b2 i' j' hi' hj').mono hmem (fun _ h => h) (fun _ _ h => h)
              · rw [s1] at hi'
                rw [s2]
                by_cases e : i' = i
                · subst e; exact s5
                · rw [s4 i' e]; exact b3 i' hi'
      · cases h
    · cases h
  · cases h
theorem evStore2_ok {t : TypeId} {x y : Operand} (ho : o.op = .store t x y) (h : evStore2 P o t x y st K = some r) : ∃ x st', RunsOp P o st x st' ∧ K x st' = some r := by
  unfold evStore2 at h
  split at h
  · rename_i p z hp hz
    split at h
    · rename_i st' hst
      obtain ⟨hd, h⟩ := cond_none h
      refine ⟨.normal, _, ?_, h⟩
      rintro G a w next Q ⟨ι, ok, hs⟩ hk
      obtain ⟨w', hr, hs'⟩ := storeElem_ok (P := P) hs (hs.opnd hp) (hs.opnd hz) hst
      unfold Oper.wp execOp
      rw [ho]
      show o.upon P a next Q ((do Instr.storeAt t (a.eval x) (a.eval y); pure Next.skip : Sem Next).run P w)
      rw [run_ok hr]
      exact hk .normal _ _ ⟨rfl, ι, ok, hs'.put hd (.v undef)⟩
    · cases h
  · cases h
end
end Go.Ev

