/- An evaluator of the model's code over abstract values, and its soundness, part 4: what it tells of a piece of code, each run of that code does. -/
import Derived.Test.YtcblodlmddeamaaDoorEv3
import Derived.Laws.RangeString
import Derived.Laws.RangeAny
import Derived.Laws.BitsLemmas
import Derived.Laws.Strings2
import Derived.Deep.Slices
import Derived.OpenShut
set_option linter.unusedVariables false
set_option linter.unusedSimpArgs false
/-! Plain helpers: strings as lists of bytes, whole numbers as words of 64 bits. -/
namespace Go.Ev
/-- A string of its bytes. -/
def arr (l : List UInt8) : ByteArray := ⟨⟨l⟩⟩
theorem arr_eta (s : ByteArray) : s = arr s.data.toList := rfl
theorem arr_size (l : List UInt8) : (arr l).size = l.length := rfl
theorem arr_get (l : List UInt8) (i : Nat) : (arr l).data.getD i 0 = l.getD i 0 := by
  simp [arr, Array.getD_eq_getD_getElem?, List.getD_eq_getElem?_getD]
theorem arr_append (a b : List UInt8) : (arr a).append (arr b) = arr (a ++ b) := by
  have : arr a ++ arr b = arr (a ++ b) := by
    apply ByteArray.ext; simp [arr, ByteArray.data_append]
  exact this
theorem arr_extract (l : List UInt8) (i j : Nat) : (arr l).extract i j = arr ((l.drop i).take (j - i)) := ByteArray.extract_mk l i j
theorem arr_extract_size (l : List UInt8) (i : Nat) : (arr l).extract i (arr l).size = arr (l.drop i) := by
  rw [arr_extract, arr_size, ← List.length_drop, List.take_length]
theorem arr_toList (l : List UInt8) : (arr l).toList = l := ByteArray.toList_mk l
theorem wB64 (b : BitVec 64) : IntKind.wrap .i64 (↑b.toNat) = b.toInt := by
  rw [IntKind.wrap_i64, BitVec.toInt_eq_toNat_cond]
  have := b.isLt
  split <;> omega
theorem wB (b : BitVec (IntKind.bits .i64)) : IntKind.wrap .i64 (↑b.toNat) = b.toInt := wB64 b
theorem oB (b : BitVec (IntKind.bits .i64)) : BitVec.ofInt (IntKind.bits .i64) b.toInt = b := BitVec.ofInt_toInt
theorem wrap_id {n : Int} (h : -9223372036854775808 ≤ n) (h' : n ≤ 9223372036854775807) : IntKind.wrap .i64 n = n := by
  rw [IntKind.wrap_i64]; omega
theorem dec_lo (l : List UInt8) (i : Nat) (h : i < l.length) (ha : (l[i]).toNat < 128) : Utf8.decode (arr l) i = ((l[i]).toNat, 1) :=
  decode_ascii (arr l) i h ha
theorem dec_hi (l : List UInt8) (i : Nat) (h : i < l.length) (ha : 128 ≤ (l[i]).toNat) : 128 ≤ (Utf8.decode (arr l) i).1 :=
  (decode_high (arr l) i h ha).1
theorem get_in {α : Type} {l : List α} {i : Nat} (h : i < l.length) : l.get?Internal i = some l[i] := List.getElem?_eq_getElem h
theorem getD_in {α : Type} {l : List α} {i : Nat} {d : α} (h : i < l.length) : l.getD i d = l[i] := by rw [List.getD_eq_getElem?_getD, List.getElem?_eq_getElem h]; rfl
end Go.Ev

/-! What comes in: an argument's reading opened into an abstract value, whatever its type (numbers, bools, strings, slices, structs, one in another). -/
namespace Go.Ev
open Go.Deep
set_option linter.unusedVariables false
def leavesSh : Sh → List Sh
  | .agg l => l
  | s => [s]
mutual
/-- The shape of a type; none, where the layout is not the plain one. -/
def shL (P : Program) : Nat → TypeId → Option Sh
  | 0, _ => none
  | n + 1, t => match P.underlying t with
    | some (.int k) => some (.int k)
    | some .bool => some .bool
    | some .string => some .str
    | some (.slice e) => bif Nat.ble 1 (P.bytesOf e) then (match P.underlying e with
      | some (.int k) => bif Nat.beq (P.cellsOf e) 1 then some (.roI false k) else none
      | some .string => bif Nat.beq (P.cellsOf e) 1 then some (.roS false) else none
      | some _ => match shL P n e with
        | some sh => bif Nat.beq (leavesSh sh).length (P.cellsOf e) && Nat.ble 1 (P.cellsOf e) then some (.roA false sh (P.cellsOf e)) else none
        | none => none
      | none => none) else none
    | some (.struct fs) => match shLs P n fs.toList 0 (P.cellsOf t) with
      | some l => some (.agg l)
      | none => none
    | _ => none
def shLs (P : Program) : Nat → List Field → Nat → Nat → Option (List Sh)
  | 0, _, _, _ => none
  | _ + 1, [], off, tot => bif Nat.beq off tot then some [] else none
  | n + 1, f :: r, off, tot => bif Nat.beq f.offset off then (match shL P n f.type, shLs P n r (off + P.cellsOf f.type) tot with
    | some s, some l => some (leavesSh s ++ l)
    | _, _ => none) else none
end
mutual
/-- An abstract value of a shape, within the form's reach. -/
def Fit : Sh → AV → Prop
  | .int k, y => ∃ n, y = .v (.int k n) ∧ (Lit.int k n).wf = true
  | .bool, y => ∃ b, y = .v (.bool b)
  | .str, y => ∃ s : ByteArray, y = .v (.string s) ∧ s.size ≤ reachBytes
  | .roI nw k, y => ∃ l : List Int, y = .ro nw (.I k l) ∧ l.length ≤ reachBytes ∧ ∀ n ∈ l, (Lit.int k n).wf = true
  | .roS nw, y => ∃ l : List ByteArray, y = .ro nw (.S l) ∧ l.length ≤ reachBytes ∧ ∀ s ∈ l, s.size ≤ reachBytes
  | .roA nw sh sz, y => ∃ l : List AV, y = .ro nw (.A sh sz l) ∧ l.length ≤ reachBytes ∧ ∀ e ∈ l, Fit sh e
  | .agg shs, y => ∃ l : List AV, y = .agg l ∧ Fits shs l
  | .any, _ => False
def Fits : List Sh → List AV → Prop
  | [], [] => True
  | s :: r, y :: l => Fit s y ∧ Fits r l
  | _, _ => False
end
theorem Fits.length : ∀ {shs : List Sh} {l : List AV}, Fits shs l → shs.length = l.length
  | [], [], _ => rfl
  | [], _ :: _, h => h.elim
  | _ :: _, [], h => h.elim
  | _ :: r, _ :: l, h => congrArg (· + 1) (Fits.length (shs := r) (l := l) h.2)
theorem Fits.append : ∀ {a : List Sh} {x : List AV} {b : List Sh} {y : List AV}, Fits a x → Fits b y → Fits (a ++ b) (x ++ y)
  | [], [], _, _, _, h => h
  | [], _ :: _, _, _, h, _ => h.elim
  | _ :: _, [], _, _, h, _ => h.elim
  | _ :: r, _ :: l, _, _, h, h' => ⟨h.1, Fits.append (a := r) (x := l) h.2 h'⟩
mutual
theorem fit_view : ∀ (s : Sh) (y : AV), Fit s y → view s y = y
  | .int k, y, h => by obtain ⟨n, rfl, _⟩ := h; rfl
  | .bool, y, h => by obtain ⟨b, rfl⟩ := h; rfl
  | .str, y, h => by obtain ⟨s, rfl, _⟩ := h; rfl
  | .roI nw k, y, h => by obtain ⟨l, rfl, _⟩ := h; rfl
  | .roS nw, y, h => by obtain ⟨l, rfl, _⟩ := h; rfl
  | .roA nw sh sz, y, h => by obtain ⟨l, rfl, _⟩ := h; rfl
  | .agg shs, y, h => by
    obtain ⟨l, rfl, hl⟩ := h
    show AV.agg (views shs (.agg l) 0) = .agg l
    have := fits_views shs l [] hl
    exact congrArg AV.agg this
  | .any, y, h => h.elim
theorem fits_views : ∀ (shs : List Sh) (l pre : List AV), Fits shs l → views shs (.agg (pre ++ l)) pre.length = l
  | [], [], pre, _ => rfl
  | [], _ :: _, _, h => h.elim
  | _ :: _, [], _, h => h.elim
  | s :: r, y :: l, pre, h => by
    have e : (AV.agg (pre ++ y :: l)).cell pre.length = y := by
      show (pre ++ y :: l).getD pre.length default = y
      rw [List.getD_eq_getElem?_getD, List.getElem?_append_right (Nat.le_refl _), Nat.sub_self]; rfl
    show view s ((AV.agg (pre ++ y :: l)).cell pre.length) :: views r (.agg (pre ++ y :: l)) (pre.length + 1) = y :: l
    rw [e, fit_view s y h.1]
    have := fits_views r l (pre ++ [y]) h.2
    rw [List.append_assoc, List.length_append] at this
    exact congrArg (y :: ·) this
end
/-- The value of these leaves. -/
def mkSh : Sh → List AV → AV
  | .agg _, ys => .agg ys
  | _, ys => ys.headD default
theorem leaf_one {s : Sh} (h : ∀ l, s ≠ .agg l) {ys : List AV} (hf : Fits (leavesSh s) ys) : ∃ y, ys = [y] ∧ Fit s y := by
  have e : leavesSh s = [s] := by cases s <;> first | rfl | exact absurd rfl (h _)
  rw [e] at hf
  match ys, hf with
  | [y], hf => exact ⟨y, rfl, hf.1⟩
theorem mk_fit {s : Sh} {ys : List AV} (hf : Fits (leavesSh s) ys) : Fit s (mkSh s ys) ∧ (mkSh s ys).cells = ys := by
  by_cases h : ∃ l, s = .agg l
  · obtain ⟨l, rfl⟩ := h
    exact ⟨⟨ys, rfl, hf⟩, rfl⟩
  · obtain ⟨y, rfl, hy⟩ := leaf_one (fun l e => h ⟨l, e⟩) hf
    have e : mkSh s [y] = y := by cases s <;> first | rfl | exact absurd ⟨_, rfl⟩ h
    rw [e]
    refine ⟨hy, ?_⟩
    cases s with
    | int k => obtain ⟨n, rfl, _⟩ := hy; rfl
    | bool => obtain ⟨b, rfl⟩ := hy; rfl
    | str => obtain ⟨x, rfl, _⟩ := hy; rfl
    | roI nw k => obtain ⟨l, rfl, _⟩ := hy; rfl
    | roS nw => obtain ⟨l, rfl, _⟩ := hy; rfl
    | roA nw sh sz => obtain ⟨l, rfl, _⟩ := hy; rfl
    | agg l => exact absurd ⟨_, rfl⟩ h
    | any => exact hy.elim
theorem leaf_mk {s : Sh} {y : AV} (h : ∀ l, s ≠ .agg l) (hy : Fit s y) : Fits (leavesSh s) [y] := by
  have e : leavesSh s = [s] := by cases s <;> first | rfl | exact absurd rfl (h _)
  rw [e]; exact ⟨hy, trivial⟩
section
variable {H : Type} {enc : TypeId × Value → H} {P : Program} {w : World} {sp : Nat → Bool}
def okB (w : World) : Nat → Prop := fun b => b < w.heap.size
/-- Cells and what they stand for. -/
def Stands (w : World) (cs : List Value) (ys : List AV) : Prop :=
  ys.length = cs.length ∧ ∀ i, i < cs.length → Rep w (okB w) 0 (fun _ => none) (ys.getD i default) (cs.getD i undef)
theorem stands_one {y : AV} {c : Value} (h : Rep w (okB w) 0 (fun _ => none) y c) : Stands w [c] [y] :=
  ⟨rfl, fun i hi => by
    match i, hi with
    | 0, _ => exact h⟩
theorem stands_append {a b : List Value} {x y : List AV} (h : Stands w a x) (h' : Stands w b y) : Stands w (a ++ b) (x ++ y) := by
  refine ⟨by simp [h.1, h'.1], fun i hi => ?_⟩
  rw [List.length_append] at hi
  rcases Nat.lt_or_ge i a.length with c | c
  · have := h.2 i c
    simp only [List.getD_eq_getElem?_getD] at this ⊢
    rw [List.getElem?_append_left (by rw [h.1]; exact c), List.getElem?_append_left c]
    exact this
  · have := h'.2 (i - a.length) (by omega)
    simp only [List.getD_eq_getElem?_getD] at this ⊢
    rw [List.getElem?_append_right (by rw [h.1]; exact c), List.getElem?_append_right c, h.1]
    exact this
theorem weightsAll_mem {e : TypeId} {p : Nat → Bool} : ∀ {l : List (DataW H)} {d : DataW H}, d ∈ l → (DataW.weightsAll P e l).all p = true → (d.weights P e).all p = true
  | x :: r, d, hd, h => by
    rw [DataW.weightsAll, List.all_append, Bool.and_eq_true] at h
    rcases List.mem_cons.1 hd with rfl | hd
    · exact h.1
    · exact weightsAll_mem hd h.2
theorem mapM_cons_some {α β : Type} {g : α → Option β} {a : α} {l : List α} {r : List β} (h : (a :: l).mapM g = some r) : ∃ b r', g a = some b ∧ l.mapM g = some r' ∧ r = b :: r' := by
  rw [List.mapM_cons] at h
  cases hb : g a with
  | none => rw [hb] at h; cases h
  | some b =>
    rw [hb] at h
    cases hr : l.mapM g with
    | none =>
      have h : (l.mapM g).bind (fun r' => some (b :: r')) = some r := h
      rw [hr] at h; cases h
    | some r' =>
      have h : (l.mapM g).bind (fun r' => some (b :: r')) = some r := h
      rw [hr] at h; injection h with h
      exact ⟨b, r', rfl, rfl, h.symm⟩
mutual
/-- how much an abstract value holds -/
def avBulk : AV → Nat
  | .v (.string s) => s.size + 1
  | .ro _ l => lstBulk l + 1
  | .agg cs => avBulks cs
  | _ => 1
def lstBulk : Lst → Nat
  | .I _ l => l.length
  | .S l => strBulk l
  | .A _ _ l => avBulks l
def strBulk : List ByteArray → Nat
  | [] => 0
  | s :: r => s.size + 1 + strBulk r
def avBulks : List AV → Nat
  | [] => 0
  | x :: r => avBulk x + avBulks r
end
theorem avBulks_append : ∀ (a b : List AV), avBulks (a ++ b) = avBulks a + avBulks b
  | [], b => by simp [avBulks]
  | x :: a, b => by rw [List.cons_append, avBulks, avBulks, avBulks_append a b]; omega
theorem avBulks_map {α : Type} (f : α → AV) : ∀ l : List α, avBulks (l.map f) = (l.map fun i => avBulk (f i)).sum
  | [] => rfl
  | x :: l => by rw [List.map_cons, avBulks, avBulks_map f l]; rfl
theorem strBulk_map {α : Type} (f : α → ByteArray) : ∀ l : List α, strBulk (l.map f) = (l.map fun i => (f i).size + 1).sum
  | [] => rfl
  | x :: l => by rw [List.map_cons, strBulk, strBulk_map f l]; rfl
theorem sum_range_le {α : Type} (es : List α) (f : Nat → Nat) (g : α → Nat) (h : ∀ i (hi : i < es.length), f i ≤ g es[i]) : ((List.range es.length).map f).sum ≤ (es.map g).sum := by
  induction es generalizing f with
  | nil => exact Nat.le_refl _
  | cons x r ih =>
    rw [List.length_cons, List.range_succ_eq_map, List.map_cons, List.map_cons, List.map_map, List.sum_cons, List.sum_cons]
    have h1 := h 0 (by simp)
    have h2 := ih (f ∘ Nat.succ) (fun i hi => h (i + 1) (by simp; omega))
    have h1 : f 0 ≤ g x := h1
    omega
theorem sum_range_mono (n : Nat) (f g : Nat → Nat) (h : ∀ i, i < n → f i ≤ g i) : ((List.range n).map f).sum ≤ ((List.range n).map g).sum := by
  induction n with
  | zero => exact Nat.le_refl _
  | succ n ih =>
    rw [List.range_succ, List.map_append, List.map_append, List.sum_append, List.sum_append]
    have h1 := h n (Nat.lt_succ_self n)
    have h2 := ih (fun i hi => h i (by omega))
    simp only [List.map_cons, List.map_nil, List.sum_cons, List.sum_nil]
    omega
theorem sum_range_ge (n : Nat) (f : Nat → Nat) (h : ∀ i, i < n → 1 ≤ f i) : n ≤ ((List.range n).map f).sum := by
  induction n with
  | zero => exact Nat.le_refl _
  | succ n ih =>
    rw [List.range_succ, List.map_append, List.sum_append]
    have h1 := h n (Nat.lt_succ_self n)
    have h2 := ih (fun i hi => h i (by omega))
    simp only [List.map_cons, List.map_nil, List.sum_cons, List.sum_nil]
    omega
theorem mk_bulk {s : Sh} {ys : List AV} (hf : Fits (leavesSh s) ys) : avBulk (mkSh s ys) = avBulks ys := by
  have one : (∀ l, s ≠ .agg l) → avBulk (mkSh s ys) = avBulks ys := by
    intro h
    obtain ⟨y, rfl, _⟩ := leaf_one h hf
    have : mkSh s [y] = y := by cases s <;> first | rfl | exact absurd rfl (h _)
    rw [this]; rfl
  cases s with
  | agg l => rfl
  | _ => exact one (fun l e => by cases e)
/-- a measure of data that sees all that is held -/
structure BulkOK {H : Type} (bulk : DataW H → Nat) : Prop where
  pos : ∀ d, 1 ≤ bulk d
  str : ∀ s : ByteArray, s.size + 1 ≤ bulk (.lit (.string s.data.toList))
  slice : ∀ es ss, (es.map bulk).sum + 1 ≤ bulk (.slice es ss)
  agg : ∀ ps, (ps.map bulk).sum ≤ bulk (.agg ps)
/-- One type's opening, at a number of steps. -/
def Opens (H : Type) (enc : TypeId × Value → H) (P : Program) (w : World) (sp : Nat → Bool) (bulk : DataW H → Nat) (fuel : Nat) : Prop :=
  ∀ (t : TypeId) (cs : List Value) (x : DataW H × List MemPlace), DataW.trod enc P w 0 sp true fuel t cs = some x → ∀ (n : Nat) (sh : Sh), shL P n t = some sh → (x.1.weights P t).all (· ≤ reachBytes) = true →
    ∃ ys, Stands w cs ys ∧ Fits (leavesSh sh) ys ∧ avBulks ys ≤ bulk x.1
variable {bulk : DataW H → Nat}
theorem opens_fields {fuel : Nat} (ih : Opens H enc P w sp bulk fuel) (cs : List Value) : ∀ (n : Nat) (fs : List Field) (off : Nat) (l : List Sh) (xs : List (DataW H × List MemPlace)),
    shLs P n fs off cs.length = some l → (fs.mapM fun f => DataW.trod enc P w 0 sp true fuel f.type ((cs.drop f.offset).take (P.cellsOf f.type))) = some xs →
    (DataW.weightsEach P (fs.map (·.type)) (xs.map (·.1))).all (· ≤ reachBytes) = true → off ≤ cs.length ∧ ∃ ys, Stands w (cs.drop off) ys ∧ Fits l ys ∧ avBulks ys ≤ ((xs.map (·.1)).map bulk).sum
  | 0, _, _, _, _, h, _, _ => by cases h
  | n + 1, [], off, l, xs, h, _, _ => by
    obtain ⟨e, h⟩ := cond_none h
    have e := Nat.eq_of_beq_eq_true e
    injection h with h; subst h; subst e
    refine ⟨Nat.le_refl _, [], ⟨?_, fun i hi => ?_⟩, trivial, Nat.zero_le _⟩
    · rw [List.drop_length]; rfl
    · rw [List.drop_length] at hi; exact absurd hi (Nat.not_lt_zero _)
  | n + 1, f :: r, off, l, xs, h, hm, hw => by
    obtain ⟨e, h⟩ := cond_none h
    have e := Nat.eq_of_beq_eq_true e
    cases hs : shL P n f.type with
    | none => rw [hs] at h; cases h
    | some s =>
      cases hr : shLs P n r (off + P.cellsOf f.type) cs.length with
      | none => rw [hs, hr] at h; cases h
      | some l' =>
        rw [hs, hr] at h
        injection h with h; subst h
        obtain ⟨b, r', h1, h2, rfl⟩ := mapM_cons_some hm
        rw [List.map_cons, List.map_cons, DataW.weightsEach, List.all_append, Bool.and_eq_true] at hw
        obtain ⟨hle, ys', k1, k2, k3⟩ := opens_fields ih cs n r (off + P.cellsOf f.type) l' r' hr h2 hw.2
        obtain ⟨ys, g1, g2, g3⟩ := ih _ _ _ h1 n s hs hw.1
        refine ⟨by omega, ys ++ ys', ?_, g2.append k2, by rw [avBulks_append, List.map_cons, List.map_cons, List.sum_cons]; omega⟩
        have : cs.drop off = (cs.drop f.offset).take (P.cellsOf f.type) ++ cs.drop (off + P.cellsOf f.type) := by
          rw [e, ← List.drop_drop, List.take_append_drop]
        rw [this]
        exact stands_append g1 k1
theorem trod_int' {t : TypeId} {k : IntKind} {n : Nat} {cs : List Value} {x : DataW H × List MemPlace} (hu : P.underlying t = some (.int k)) (h : DataW.trod enc P w 0 sp true (n + 1) t cs = some x) : ∃ m, cs = [.int k m] ∧ (Lit.int k m).wf = true := by
  unfold DataW.trod at h
  rw [hu] at h
  split at h <;> simp_all
theorem trod_bool' {t : TypeId} {n : Nat} {cs : List Value} {x : DataW H × List MemPlace} (hu : P.underlying t = some .bool) (h : DataW.trod enc P w 0 sp true (n + 1) t cs = some x) : ∃ b, cs = [.bool b] := by
  unfold DataW.trod at h
  rw [hu] at h
  split at h <;> simp_all
theorem trod_string' {t : TypeId} {n : Nat} {cs : List Value} {x : DataW H × List MemPlace} (hu : P.underlying t = some .string) (h : DataW.trod enc P w 0 sp true (n + 1) t cs = some x) : ∃ s : ByteArray, cs = [.string s] ∧ x.1 = .lit (.string s.data.toList) := by
  unfold DataW.trod at h
  rw [hu] at h
  split at h <;> simp_all
  rw [← h.2]
theorem trod_struct' {t : TypeId} {fs : Array Field} {n : Nat} {cs : List Value} {x : DataW H × List MemPlace} (hu : P.underlying t = some (.struct fs)) (h : DataW.trod enc P w 0 sp true (n + 1) t cs = some x) :
    cs.length = P.cellsOf t ∧ ∃ xs, (fs.toList.mapM fun f => DataW.trod enc P w 0 sp true n f.type ((cs.drop f.offset).take (P.cellsOf f.type))) = some xs ∧ x.1 = .agg (xs.map (·.1)) := by
  unfold DataW.trod at h
  rw [hu] at h
  split at h <;> simp_all
  obtain ⟨h0, xs, h1, h2⟩ := h
  exact ⟨xs, h1, by rw [← h2]⟩
theorem ro_rep {ι : Loci} {l : Lst} {len cap c : Nat} {a : Addr} (hlen : l.length = len) (hsz : l.sz = c) (hc : 1 ≤ c) (hl : len ≤ cap) (csf : Nat → List Value) (ysf : Nat → List AV)
    (h : ∀ i, i < len → w.cells? 0 (a.add (i * c)) c = some (csf i) ∧ Stands w (csf i) (ysf i) ∧ (l.elem i).cells = ysf i) : Rep w (okB w) 0 ι (.ro false l) (.slice (some a) len cap) := by
  rcases Nat.eq_zero_or_pos len with h0 | h0
  · exact .ro0 hlen.symm h0
  · have cell : ∀ i j, i < len → j < c → w.cell? ((a.add (i * c)).add j) = some ((csf i).getD j undef) := by
      intro i j hi hj
      obtain ⟨h1, _, _⟩ := h i hi
      obtain ⟨_, k1, k2⟩ := World.cells?_some h1
      rw [k2 j hj, List.getD_eq_getElem?_getD, List.getElem?_eq_getElem (by omega)]; rfl
    have hspot : a.spot = none := by
      have := World.cell?_spot (cell 0 0 h0 hc)
      simpa [Addr.add] using this
    obtain ⟨b, o, s⟩ := a
    simp only at hspot
    subst hspot
    have cell' : ∀ i j, i < len → j < c → w.cell? ⟨b, o + (i * c + j), none⟩ = some ((csf i).getD j undef) := by
      intro i j hi hj
      have := cell i j hi hj
      rw [addr_add, addr_add] at this
      rw [← Nat.add_assoc]; exact this
    have hb : b < w.heap.size := by
      have := cell' 0 0 h0 hc
      unfold World.cell? at this
      rcases Nat.lt_or_ge b w.heap.size with g | g
      · exact g
      · simp only [Array.getElem?_eq_none g] at this
        cases this
    have hcl : ∀ i, i < len → (csf i).length = c := by
      intro i hi
      obtain ⟨h1, _, _⟩ := h i hi
      obtain ⟨_, k1, k2⟩ := World.cells?_some h1
      exact k1
    refine .ro (fun i j => (csf i).getD j undef) hlen.symm h0 hl hb (fun e => by cases e) rfl (fun i j hi hj => ?_) (fun i j hi hj => ?_) (fun i hi => ?_)
    · rw [hsz] at hj ⊢; exact cell' i j hi hj
    · rw [hsz] at hj
      obtain ⟨_, h2, h3⟩ := h i hi
      have := h2.2 j (by rw [hcl i hi]; exact hj)
      show Rep w (okB w) 0 (fun _ => none) ((l.elem i).cells.getD j default) _
      rw [h3]; exact this
    · obtain ⟨_, h2, h3⟩ := h i hi
      rw [h3, h2.1, hcl i hi, hsz]
theorem opens_slice {fuel : Nat} (ih : Opens H enc P w sp bulk fuel) {t e : TypeId} {cs : List Value} {x : DataW H × List MemPlace} (hu : P.underlying t = some (.slice e)) (h : DataW.trod enc P w 0 sp true (fuel + 1) t cs = some x)
    (hb : 1 ≤ P.bytesOf e) {m : Nat} {sh : Sh} (hsh : shL P m e = some sh) (hw : (x.1.weights P t).all (· ≤ reachBytes) = true) :
    (cs = [.slice none 0 0]) ∨ ∃ (a : Addr) (len cap : Nat) (csf : Nat → List Value) (ysf : Nat → List AV), cs = [.slice (some a) len cap] ∧ len ≤ cap ∧ len ≤ reachBytes ∧
      (∀ i, i < len → w.cells? 0 (a.add (i * P.cellsOf e)) (P.cellsOf e) = some (csf i) ∧ Stands w (csf i) (ysf i) ∧ Fits (leavesSh sh) (ysf i)) ∧
      ∃ (es ss : List (DataW H)), x.1 = .slice es ss ∧ es.length = len ∧ ∀ i (h : i < es.length), avBulks (ysf i) ≤ bulk es[i] := by
  rcases DataW.trod_slice hu h with ⟨h0, _⟩ | ⟨a, len, cap, elems, rest, n, hn, rfl, rfl, _, hl, hm, hlen, hel, _, _⟩
  · exact .inl h0
  right
  have hn : fuel = n := by omega
  subst hn
  rw [DataW.weights, hu] at hw
  simp only [List.all_cons, List.all_append, Bool.and_eq_true, decide_eq_true_eq] at hw
  obtain ⟨w1, w2, _⟩ := hw
  have hlr : len ≤ reachBytes := by
    refine Nat.le_trans ?_ w1
    rw [List.length_map, hlen]
    exact Nat.le_trans (Nat.le_add_right len _) (Nat.le_mul_of_pos_right _ hb)
  have each : ∀ i, i < len → ∃ p : List Value × List AV, w.cells? 0 (a.add (i * P.cellsOf e)) (P.cellsOf e) = some p.1 ∧ Stands w p.1 p.2 ∧ Fits (leavesSh sh) p.2 ∧ ∀ (h : i < (elems.map (·.1)).length), avBulks p.2 ≤ bulk (elems.map (·.1))[i] := by
    intro i hi
    have := hel i hi
    rw [List.getElem?_eq_getElem (by omega)] at this
    obtain ⟨cs', h1, h2⟩ := Option.bind_eq_some_iff.1 this
    obtain ⟨ys, g1, g2, g3⟩ := ih e cs' _ h2 m sh hsh (weightsAll_mem (List.mem_map_of_mem (List.getElem_mem _)) w2)
    exact ⟨(cs', ys), h1, g1, g2, fun h => by rw [List.getElem_map]; exact g3⟩
  obtain ⟨f, hf⟩ := choose_lt each
  exact ⟨a, len, cap, fun i => (f i).1, fun i => (f i).2, rfl, hl, hlr, fun i hi => ⟨(hf i hi).1, (hf i hi).2.1, (hf i hi).2.2.1⟩, _, _, rfl, by rw [List.length_map]; exact hlen, fun i h => (hf i (by rw [List.length_map] at h; omega)).2.2.2 h⟩
theorem elem_A {sh : Sh} {c len : Nat} {A : Nat → AV} {i : Nat} (hi : i < len) (hA : Fit sh (A i)) : (Lst.A sh c ((List.range len).map A)).elem i = A i := by
  show view sh (((List.range len).map A).getD i default) = A i
  have : ((List.range len).map A).getD i default = A i := by simp [List.getD_eq_getElem?_getD, hi]
  rw [this, fit_view sh _ hA]
theorem opens (hb : BulkOK bulk) : ∀ fuel, Opens H enc P w sp bulk fuel
  | 0 => fun t cs x h => by simp [DataW.trod] at h
  | fuel + 1 => by
    have hbulk := hb
    have ih := opens hb fuel
    intro t cs x h n sh hsh hw
    match n, hsh with
    | n + 1, hsh =>
    unfold shL at hsh
    split at hsh
    · rename_i k hu
      injection hsh with hsh; subst hsh
      obtain ⟨m, rfl, hm⟩ := trod_int' hu h
      exact ⟨[.v (.int k m)], stands_one (.v _), ⟨⟨m, rfl, hm⟩, trivial⟩, hbulk.pos _⟩
    · rename_i hu
      injection hsh with hsh; subst hsh
      obtain ⟨b, rfl⟩ := trod_bool' hu h
      exact ⟨[.v (.bool b)], stands_one (.v _), ⟨⟨b, rfl⟩, trivial⟩, hbulk.pos _⟩
    · rename_i hu
      injection hsh with hsh; subst hsh
      obtain ⟨s, rfl, hx⟩ := trod_string' hu h
      rw [hx, DataW.weights] at hw
      exact ⟨[.v (.string s)], stands_one (.v _), ⟨⟨s, rfl, by simpa using hw⟩, trivial⟩, by rw [hx]; exact hbulk.str _⟩
    · rename_i e hu
      obtain ⟨hb, hsh⟩ := cond_none hsh
      have hb := Nat.le_of_ble_eq_true hb
      have one : ∀ {m : Nat} {sh : Sh}, shL P m e = some sh → (∀ l, sh ≠ .agg l) → P.cellsOf e = 1 → ∀ (L : (Nat → AV) → Nat → Lst), (∀ A len, (L A len).length = len ∧ (L A len).sz = 1) → (∀ A len i, i < len → Fit sh (A i) → (L A len).elem i = A i) →
          ∀ (R : Sh), (∀ A len, len ≤ reachBytes → (∀ i, i < len → Fit sh (A i)) → Fits (leavesSh R) [.ro false (L A len)]) → (∀ A len, (∀ i, i < len → Fit sh (A i)) → lstBulk (L A len) ≤ ((List.range len).map fun i => avBulk (A i)).sum) → ∃ ys, Stands w cs ys ∧ Fits (leavesSh R) ys ∧ avBulks ys ≤ bulk x.1 := by
        intro m sh hs hleaf hc L hL hE R hR hBk
        rcases opens_slice ih hu h hb hs hw with rfl | ⟨a, len, cap, csf, ysf, rfl, hl, hlr, hf, es, ss, hxs, hel, hes⟩
        · refine ⟨[.ro false (L (fun _ => default) 0)], stands_one (.ro0 (hL _ 0).1.symm rfl), hR _ 0 (Nat.zero_le _) (fun i hi => absurd hi (Nat.not_lt_zero _)), ?_⟩
          have := hBk (fun _ => default) 0 (fun i hi => absurd hi (Nat.not_lt_zero _))
          have h0 : lstBulk (L (fun _ => default) 0) = 0 := Nat.le_zero.1 this
          show lstBulk (L (fun _ => default) 0) + 1 + 0 ≤ _
          rw [h0]; exact hbulk.pos _
        · have hA : ∀ i, i < len → Fit sh (mkSh sh (ysf i)) := fun i hi => (mk_fit (hf i hi).2.2).1
          have hBk' : lstBulk (L (fun i => mkSh sh (ysf i)) len) + 1 + 0 ≤ bulk x.1 := by
            have h1 := hBk (fun i => mkSh sh (ysf i)) len hA
            have h2 := sum_range_le es (fun i => avBulk (mkSh sh (ysf i))) bulk (fun i hi => by rw [mk_bulk (hf i (by omega)).2.2]; exact hes i hi)
            have h3 := hbulk.slice es ss
            rw [hxs]; rw [hel] at h2; omega
          refine ⟨[.ro false (L (fun i => mkSh sh (ysf i)) len)], stands_one (ro_rep (hL _ len).1 (hL _ len).2 (Nat.le_refl 1) hl csf ysf (fun i hi => ?_)), hR _ len hlr hA, hBk'⟩
          obtain ⟨h1, h2, h3⟩ := hf i hi
          rw [hc] at h1
          refine ⟨h1, h2, ?_⟩
          rw [hE _ len i hi (hA i hi)]
          exact (mk_fit h3).2
      split at hsh
      · rename_i k hue
        obtain ⟨hc, hsh⟩ := cond_none hsh
        injection hsh with hsh; subst hsh
        refine one (m := 1) (sh := .int k) (by unfold shL; rw [hue]) (fun l e => by cases e) (Nat.eq_of_beq_eq_true hc) (fun A len => .I k ((List.range len).map fun i => (A i).int!)) (fun A len => ⟨by simp [Lst.length], rfl⟩) (fun A len i hi hA => ?_) _ (fun A len hlr hA => ?_) (fun A len hA => ?_)
        rotate_left 2
        · show ((List.range len).map fun i => (A i).int!).length ≤ _
          rw [List.length_map, List.length_range]
          have := sum_range_ge len (fun i => avBulk (A i)) (fun i hi => by obtain ⟨z, hz, _⟩ := hA i hi; rw [hz]; exact Nat.le_refl 1)
          exact this
        · obtain ⟨z, hz, _⟩ := hA
          show AV.v (.int k (((List.range len).map fun i => (A i).int!).getD i 0)) = A i
          have : ((List.range len).map fun i => (A i).int!).getD i 0 = (A i).int! := by simp [List.getD_eq_getElem?_getD, hi]
          rw [this, hz]; rfl
        · refine ⟨⟨_, rfl, by simpa using hlr, fun z hz => ?_⟩, trivial⟩
          obtain ⟨i, hi, rfl⟩ := List.mem_map.1 hz
          obtain ⟨z', hz', hwf⟩ := hA i (List.mem_range.1 hi)
          rw [hz']; exact hwf
      · rename_i hue
        obtain ⟨hc, hsh⟩ := cond_none hsh
        injection hsh with hsh; subst hsh
        refine one (m := 1) (sh := .str) (by unfold shL; rw [hue]) (fun l e => by cases e) (Nat.eq_of_beq_eq_true hc) (fun A len => .S ((List.range len).map fun i => (A i).str!)) (fun A len => ⟨by simp [Lst.length], rfl⟩) (fun A len i hi hA => ?_) _ (fun A len hlr hA => ?_) (fun A len hA => ?_)
        rotate_left 2
        · show strBulk ((List.range len).map fun i => (A i).str!) ≤ _
          rw [strBulk_map]
          exact sum_range_mono len _ _ (fun i hi => by obtain ⟨z, hz, _⟩ := hA i hi; rw [hz]; exact Nat.le_refl _)
        · obtain ⟨z, hz, _⟩ := hA
          show AV.v (.string (((List.range len).map fun i => (A i).str!).getD i ByteArray.empty)) = A i
          have : ((List.range len).map fun i => (A i).str!).getD i ByteArray.empty = (A i).str! := by simp [List.getD_eq_getElem?_getD, hi]
          rw [this, hz]; rfl
        · refine ⟨⟨_, rfl, by simpa using hlr, fun z hz => ?_⟩, trivial⟩
          obtain ⟨i, hi, rfl⟩ := List.mem_map.1 hz
          obtain ⟨z', hz', hwf⟩ := hA i (List.mem_range.1 hi)
          rw [hz']; exact hwf
      · split at hsh
        · rename_i sh' hs
          obtain ⟨hc, hsh⟩ := cond_none hsh
          rw [Bool.and_eq_true] at hc
          have hc1 := Nat.le_of_ble_eq_true hc.2
          injection hsh with hsh; subst hsh
          rcases opens_slice ih hu h hb hs hw with rfl | ⟨a, len, cap, csf, ysf, rfl, hl, hlr, hf, es, ss, hxs, hel, hes⟩
          · exact ⟨[.ro false (.A sh' (P.cellsOf e) [])], stands_one (.ro0 rfl rfl), ⟨⟨[], rfl, Nat.zero_le _, fun e he => by cases he⟩, trivial⟩, hbulk.pos _⟩
          · have hA : ∀ i, i < len → Fit sh' (mkSh sh' (ysf i)) := fun i hi => (mk_fit (hf i hi).2.2).1
            have hBk' : avBulks ((List.range len).map fun i => mkSh sh' (ysf i)) + 1 + 0 ≤ bulk x.1 := by
              have h2 := sum_range_le es (fun i => avBulk (mkSh sh' (ysf i))) bulk (fun i hi => by rw [mk_bulk (hf i (by omega)).2.2]; exact hes i hi)
              have h3 := hbulk.slice es ss
              rw [avBulks_map, hxs]; rw [hel] at h2; omega
            refine ⟨[.ro false (.A sh' (P.cellsOf e) ((List.range len).map fun i => mkSh sh' (ysf i)))], stands_one (ro_rep (by simp [Lst.length]) rfl hc1 hl csf ysf (fun i hi => ?_)), ⟨⟨_, rfl, by simpa using hlr, fun z hz => ?_⟩, trivial⟩, hBk'⟩
            · obtain ⟨h1, h2, h3⟩ := hf i hi
              refine ⟨h1, h2, ?_⟩
              rw [elem_A hi (hA i hi)]
              exact (mk_fit h3).2
            · obtain ⟨i, hi, rfl⟩ := List.mem_map.1 hz
              exact hA i (List.mem_range.1 hi)
        · cases hsh
      · cases hsh
    · rename_i fs hu
      split at hsh
      · rename_i l hs
        injection hsh with hsh; subst hsh
        obtain ⟨hlen, xs, hm, hx⟩ := trod_struct' hu h
        rw [hx, DataW.weights, hu] at hw
        rw [← hlen] at hs
        obtain ⟨_, ys, h1, h2, h3⟩ := opens_fields ih cs n fs.toList 0 l xs hs hm hw
        rw [List.drop_zero] at h1
        exact ⟨ys, h1, h2, by rw [hx]; exact Nat.le_trans h3 (hbulk.agg _)⟩
      · cases hsh
    · cases hsh
/-! the same reading afterwards -/
theorem mapM_imp {α β : Type} {f g : α → Option β} : ∀ {l : List α} {r : List β}, l.mapM f = some r → (∀ a ∈ l, ∀ b, f a = some b → g a = some b) → l.mapM g = some r
  | [], r, h, _ => by
    have h : some [] = some r := h
    rw [← h]; rfl
  | a :: l, r, h, hfg => by
    obtain ⟨b, r', h1, h2, rfl⟩ := mapM_cons_some h
    rw [List.mapM_cons, hfg a List.mem_cons_self b h1]
    have := mapM_imp h2 (fun a ha => hfg a (List.mem_cons_of_mem _ ha))
    show (l.mapM g).bind (fun r' => some (b :: r')) = some (b :: r')
    rw [this]; rfl
theorem cells_grown {w w' : World} (hg : Grown w w') {base : Nat} {a : Addr} {n : Nat} {cs : List Value} (h : w.cells? base a n = some cs) : w'.cells? base a n = some cs := by
  unfold World.cells? at h ⊢
  split at h
  · rename_i hb
    rw [if_pos hb]
    exact mapM_imp h (fun i _ b hb => hg.cell hb)
  · cases h
def Again (H : Type) (enc : TypeId × Value → H) (P : Program) (w w' : World) (fuel : Nat) : Prop :=
  ∀ (t : TypeId) (cs : List Value) (x : DataW H × List MemPlace), DataW.trod enc P w 0 (fun _ => true) true fuel t cs = some x → ∀ (n : Nat) (sh : Sh), shL P n t = some sh →
    DataW.trod enc P w' 0 (fun b => decide (b < w.heap.size)) true fuel t cs = some x
theorem shLs_mem {P : Program} : ∀ {n : Nat} {fs : List Field} {off tot : Nat} {l : List Sh}, shLs P n fs off tot = some l → ∀ f ∈ fs, ∃ m s, shL P m f.type = some s
  | 0, _, _, _, _, h, _, _ => by cases h
  | n + 1, [], _, _, _, _, f, hf => by cases hf
  | n + 1, g :: r, off, tot, l, h, f, hf => by
    obtain ⟨_, h⟩ := cond_none h
    cases hs : shL P n g.type with
    | none => rw [hs] at h; cases h
    | some s =>
      cases hr : shLs P n r (off + P.cellsOf g.type) tot with
      | none => rw [hs, hr] at h; cases h
      | some l' =>
        rcases List.mem_cons.1 hf with rfl | hf
        · exact ⟨n, s, hs⟩
        · exact shLs_mem hr f hf
theorem again {w w' : World} (hg : Grown w w') : ∀ fuel, Again H enc P w w' fuel
  | 0 => fun t cs x h => by simp [DataW.trod] at h
  | fuel + 1 => by
    have ih := again hg fuel
    intro t cs x h n sh hsh
    match n, hsh with
    | n + 1, hsh =>
    unfold shL at hsh
    split at hsh
    · rename_i k hu
      unfold DataW.trod at h ⊢
      rw [hu] at h ⊢
      split at h <;> simp_all
    · rename_i hu
      unfold DataW.trod at h ⊢
      rw [hu] at h ⊢
      split at h <;> simp_all
    · rename_i hu
      unfold DataW.trod at h ⊢
      rw [hu] at h ⊢
      split at h <;> simp_all
    · rename_i e hu
      obtain ⟨hb, hsh⟩ := cond_none hsh
      have elem : ∃ m s, shL P m e = some s ∧ 1 ≤ P.cellsOf e := by
        split at hsh
        · rename_i k hue; exact ⟨1, .int k, by unfold shL; rw [hue], Nat.le_of_eq (Nat.eq_of_beq_eq_true (cond_none hsh).1).symm⟩
        · rename_i hue; exact ⟨1, .str, by unfold shL; rw [hue], Nat.le_of_eq (Nat.eq_of_beq_eq_true (cond_none hsh).1).symm⟩
        · split at hsh
          · obtain ⟨hc, _⟩ := cond_none hsh
            rw [Bool.and_eq_true] at hc
            exact ⟨_, _, ‹_›, Nat.le_of_ble_eq_true hc.2⟩
          · cases hsh
        · cases hsh
      obtain ⟨m, s, hs, hce⟩ := elem
      have ea : ∀ (a : Addr) (i : Nat) (y : DataW H × List MemPlace), (w.cells? 0 (a.add (i * P.cellsOf e)) (P.cellsOf e)).bind (DataW.trod enc P w 0 (fun _ => true) true fuel e) = some y →
          (w'.cells? 0 (a.add (i * P.cellsOf e)) (P.cellsOf e)).bind (DataW.trod enc P w' 0 (fun b => decide (b < w.heap.size)) true fuel e) = some y := by
        intro a i y hy
        obtain ⟨cs', h1, h2⟩ := Option.bind_eq_some_iff.1 hy
        rw [cells_grown hg h1]
        exact ih e cs' y h2 m s hs
      unfold DataW.trod at h ⊢
      rw [hu] at h ⊢
      split at h <;> try (simp_all; done)
      rename_i e' a len cap hu2
      injection hu2 with hu2; injection hu2 with hu2; subst hu2
      simp only at h ⊢
      split at h
      · rename_i hc
        rw [if_pos hc]
        obtain ⟨elems, h1, h2⟩ := Option.bind_eq_some_iff.1 h
        rw [mapM_imp h1 (fun i _ y hy => ea a i y hy)]
        simp only [Option.bind_some]
        rw [if_pos trivial] at h2
        obtain ⟨rest, h3, h4⟩ := Option.map_eq_some_iff.1 h2
        have h3' := mapM_imp h3 (fun j _ y hy => ea a (len + j) y hy)
        by_cases hblk : a.block < w.heap.size
        · rw [if_pos (by simpa using hblk), h3', Option.map_some, h4]
        · rw [if_neg (by simpa using hblk)]
          have hz : cap - len = 0 := by
            rcases Nat.eq_zero_or_pos (cap - len) with z | z
            · exact z
            · exfalso
              obtain ⟨k, hk⟩ : ∃ k, cap - len = k + 1 := ⟨cap - len - 1, by omega⟩
              rw [hk, List.range_succ_eq_map] at h3
              obtain ⟨b, r', g1, _, _⟩ := mapM_cons_some h3
              obtain ⟨cs', k1, k2⟩ := Option.bind_eq_some_iff.1 g1
              obtain ⟨_, k5, k3⟩ := World.cells?_some k1
              have k4 := k3 0 (by omega)
              rw [List.getElem?_eq_getElem (by omega)] at k4
              unfold World.cell? at k4
              have : ((a.add ((len + 0) * P.cellsOf e)).add 0).block = a.block := by
                unfold Addr.add; split <;> split <;> rfl
              rw [this, Array.getElem?_eq_none (by omega)] at k4
              cases k4
          rw [hz] at h3
          have : rest = [] := by
            have h3 : some [] = some rest := h3
            injection h3 with h3; exact h3.symm
          subst this
          exact congrArg some (by simpa using h4)
      · cases h
    · rename_i fs hu
      split at hsh
      · rename_i l hs
        unfold DataW.trod at h ⊢
        rw [hu] at h ⊢
        split at h <;> try (simp_all; done)
        rename_i fs' cs' hu2
        injection hu2 with hu2; injection hu2 with hu2; subst hu2
        split at h
        · rename_i hc
          rw [if_pos hc]
          obtain ⟨xs, h1, h2⟩ := Option.map_eq_some_iff.1 h
          rw [mapM_imp h1 (fun f hf y hy => by
            obtain ⟨m, s, hs'⟩ := shLs_mem hs f hf
            exact ih _ _ y hy m s hs')]
          exact congrArg some h2
        · cases h
      · cases hsh
    · cases hsh
/-! one argument, all arguments -/
theorem okWide_leaf {r : Reach} {base : Nat} {t : TypeId} {v : Value} (h : Value.okWide P w r base t v) (hu : ∃ d, P.underlying t = some d ∧ (match d with | .int _ | .bool | .string | .slice _ => True | _ => False)) : v.cells = #[v] := by
  obtain ⟨d, hu, hd⟩ := hu
  cases v with
  | agg cs =>
    exfalso
    unfold Value.okWide Cell.okWide Cell.ok at h
    cases d <;> simp [hu] at h hd
  | _ => rfl
theorem open_argB {base : Nat} {t : TypeId} {v : Value} {d : DataW H} {p : List MemPlace} {n : Nat} {sh : Sh} (hsh : shL P n t = some sh) (hval : Value.okWide P w .any base t v) (hT : DataW.Trod enc P w 0 (fun _ => true) true t v d p)
    (hw : (d.weights P t).all (· ≤ reachBytes) = true) (hb : BulkOK bulk) : ∃ y, Fit sh y ∧ Rep w (fun b => b < w.heap.size) 0 (fun _ => none) y v ∧ avBulk y ≤ bulk d := by
  obtain ⟨fuel, hf⟩ := hT
  obtain ⟨ys, hS, hF, hBk⟩ := opens hb fuel t v.cells.toList (d, p) hf n sh hsh hw
  have leaf : (∀ l, sh ≠ .agg l) → v.cells = #[v] → ∃ y, Fit sh y ∧ Rep w (fun b => b < w.heap.size) 0 (fun _ => none) y v ∧ avBulk y ≤ bulk d := by
    intro h1 h2
    obtain ⟨y, rfl, hy⟩ := leaf_one h1 hF
    refine ⟨y, hy, ?_, by simpa [avBulks] using hBk⟩
    have := hS.2 0 (by rw [h2]; exact Nat.zero_lt_one)
    rw [h2] at this
    exact this
  match n, hsh with
  | n + 1, hsh =>
  unfold shL at hsh
  split at hsh
  · rename_i k hu
    injection hsh with hsh; subst hsh
    exact leaf (fun l e => by cases e) (okWide_leaf hval ⟨_, hu, trivial⟩)
  · rename_i hu
    injection hsh with hsh; subst hsh
    exact leaf (fun l e => by cases e) (okWide_leaf hval ⟨_, hu, trivial⟩)
  · rename_i hu
    injection hsh with hsh; subst hsh
    exact leaf (fun l e => by cases e) (okWide_leaf hval ⟨_, hu, trivial⟩)
  · rename_i e hu
    obtain ⟨_, hsh⟩ := cond_none hsh
    refine leaf (fun l e => ?_) (okWide_leaf hval ⟨_, hu, trivial⟩)
    subst e
    split at hsh
    · obtain ⟨_, hsh⟩ := cond_none hsh; cases hsh
    · obtain ⟨_, hsh⟩ := cond_none hsh; cases hsh
    · split at hsh
      · obtain ⟨_, hsh⟩ := cond_none hsh; cases hsh
      · cases hsh
    · cases hsh
  · rename_i fs hu
    split at hsh
    · injection hsh with hsh; subst hsh
      obtain ⟨cs, rfl, _⟩ : ∃ cs, v = .agg cs ∧ True := by
        unfold Value.okWide at hval
        rw [hu] at hval
        obtain ⟨cs, h, _⟩ := hval
        exact ⟨cs, h, trivial⟩
      refine ⟨.agg ys, ⟨ys, rfl, hF⟩, .agg (by rw [hS.1]; rfl) (fun i hi => ?_), hBk⟩
      have := hS.2 i (by rw [← hS.1]; exact hi)
      have e : (Value.agg cs).cells.toList.getD i undef = cs.getD i undef := by
        show cs.toList.getD i undef = _
        simp [List.getD_eq_getElem?_getD, Array.getD_eq_getD_getElem?]
      rw [e] at this; exact this
    · cases hsh
  · cases hsh
/-- what data hold -/
def dBulk {H : Type} : DataW H → Nat
  | .lit (.string b) => b.length + 1
  | .slice es _ => dBulks es + 1
  | .agg ps => dBulks ps + 1
  | _ => 1
where dBulks : List (DataW H) → Nat
  | [] => 0
  | x :: r => dBulk x + dBulks r
theorem dBulks_eq {H : Type} : ∀ l : List (DataW H), dBulk.dBulks l = (l.map dBulk).sum
  | [] => by simp [dBulk.dBulks]
  | x :: r => by rw [dBulk.dBulks, dBulks_eq r]; rfl
theorem dBulk_ok {H : Type} : BulkOK (dBulk (H := H)) where
  pos := fun d => by unfold dBulk; split <;> omega
  str := fun s => by simp only [dBulk]; exact Nat.le_refl _
  slice := fun es ss => by simp only [dBulk, dBulks_eq]; exact Nat.le_refl _
  agg := fun ps => by simp only [dBulk, dBulks_eq]; omega
theorem open_arg {base : Nat} {t : TypeId} {v : Value} {d : DataW H} {p : List MemPlace} {n : Nat} {sh : Sh} (hsh : shL P n t = some sh) (hval : Value.okWide P w .any base t v) (hT : DataW.Trod enc P w 0 (fun _ => true) true t v d p)
    (hw : (d.weights P t).all (· ≤ reachBytes) = true) : ∃ y, Fit sh y ∧ Rep w (fun b => b < w.heap.size) 0 (fun _ => none) y v := by
  obtain ⟨y, h1, h2, _⟩ := open_argB hsh hval hT hw dBulk_ok
  exact ⟨y, h1, h2⟩
theorem again_all {w' : World} (hg : Grown w w') : ∀ {ts : List TypeId} {vs : List Value} {ds : List (DataW H)} {ps : List MemPlace}, ts.all (fun t => (shL P 30 t).isSome) = true → DataW.TrodAll enc P w 0 (fun _ => true) true ts vs ds ps →
    DataW.TrodAll enc P w' 0 (fun b => decide (b < w.heap.size)) true ts vs ds ps
  | [], [], [], ps, _, h => h
  | t :: ts, v :: vs, d :: ds, ps, hs, h => by
    rw [List.all_cons, Bool.and_eq_true] at hs
    obtain ⟨p, q, ⟨fuel, h1⟩, h2, h3⟩ := h
    obtain ⟨sh, hsh⟩ := Option.isSome_iff_exists.1 hs.1
    exact ⟨p, q, ⟨fuel, again hg fuel t _ _ h1 30 sh hsh⟩, again_all hg hs.2 h2, h3⟩
  | [], _ :: _, _, _, _, h => h.elim
  | [], [], _ :: _, _, _, h => h.elim
  | _ :: _, [], _, _, _, h => by cases h
  | _ :: _, _ :: _, [], _, _, h => by cases h
theorem weights_cons {q : Nat → Bool} {t : TypeId} {ts : List TypeId} {d : DataW H} {ds : List (DataW H)} (h : (DataW.weightsEach P (t :: ts) (d :: ds)).all q = true) : (d.weights P t).all q = true ∧ (DataW.weightsEach P ts ds).all q = true := by
  rw [DataW.weightsEach, List.all_append, Bool.and_eq_true] at h; exact h
theorem Fits.cons {s : Sh} {r : List Sh} {l : List AV} (h : Fits (s :: r) l) : ∃ y l', l = y :: l' ∧ Fit s y ∧ Fits r l' := by
  match l, h with
  | y :: l', h => exact ⟨y, l', rfl, h.1, h.2⟩
theorem Fits.nil {l : List AV} (h : Fits [] l) : l = [] := by
  match l, h with
  | [], _ => rfl
theorem below_grown {w w' : World} (h : Go.RowKit.Below w.heap.size w w') : Grown w w' := ⟨h.os, h.tape, h.output, h.size, h.block⟩
/-! what an argument's reading says of its length -/
theorem cells_one {v : Value} (h : ∀ cs, v ≠ .agg cs) : v.cells.toList = [v] := by
  cases v <;> first | rfl | exact absurd rfl (h _)
theorem slice_dat {t e : TypeId} {v : Value} {d : DataW H} {p : List MemPlace} {nw : Bool} {l : Lst} {ok : Nat → Prop} {B : Nat} {ι : Loci} (hu : P.underlying t = some (.slice e)) (hT : DataW.Trod enc P w 0 sp true t v d p) (hr : Rep w ok B ι (.ro nw l) v) :
    (d = .nil ∧ l.length = 0) ∨ ∃ es ss, d = .slice es ss ∧ l.length = es.length := by
  obtain ⟨fuel, hf⟩ := hT
  obtain ⟨a, n, c, rfl, hn⟩ : ∃ a n c, v = .slice a n c ∧ n = l.length := by
    cases hr with
    | ro val h1 => exact ⟨_, _, _, rfl, h1⟩
    | ro0 h1 => exact ⟨_, _, _, rfl, h1⟩
  rw [cells_one (fun cs e => by cases e)] at hf
  rcases DataW.trod_slice hu hf with ⟨h0, hx⟩ | ⟨a', len, cap, elems, rest, n', _, hc, hx, _, _, _, hlen, _⟩
  · injection h0 with h0; injection h0 with _ h0
    injection hx with hx
    exact .inl ⟨hx, by omega⟩
  · injection hc with hc; injection hc with _ hc
    injection hx with hx
    exact .inr ⟨_, _, hx, by rw [List.length_map]; omega⟩
theorem str_dat {t : TypeId} {v : Value} {d : DataW H} {p : List MemPlace} {s : ByteArray} {ok : Nat → Prop} {B : Nat} {ι : Loci} (hu : P.underlying t = some .string) (hT : DataW.Trod enc P w 0 sp true t v d p) (hr : Rep w ok B ι (.v (.string s)) v) :
    d = .lit (.string s.data.toList) := by
  obtain ⟨fuel, hf⟩ := hT
  rw [rep_v_inv hr] at hf
  match fuel, hf with
  | n + 1, hf =>
    obtain ⟨s', h1, h2⟩ := trod_string' hu hf
    have h1 : [Value.string s] = [Value.string s'] := h1
    injection h1 with h1; injection h1 with h1; subst h1
    exact h2
end
end Go.Ev

