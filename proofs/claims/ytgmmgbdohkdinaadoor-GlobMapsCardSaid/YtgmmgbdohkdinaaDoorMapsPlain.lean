/- The plain law: what the functions that the law compares make is the same, over lists and numbers alone. -/
import Derived.Test.YtgmmgbdohkdinaaDoorMapsWalk2
import Derived.Test.YtgmmgbdohkdinaaDoorEv4
set_option linter.unusedVariables false
set_option linter.unusedSimpArgs false
set_option linter.unusedSectionVars false
set_option maxRecDepth 100000
namespace Go.Proofs.Tryd.S
open Go Go.Ev
/-! ### loops that count, over lists of bytes -/
theorem loopN_inr {A B : Type} {f : A → Option (A ⊕ B)} {k : Nat} {x : A} {y : B} (h : f x = some (.inr y)) : loopN f (k + 1) x = some y := by
  unfold loopN; rw [h]
theorem loopN_inl {A B : Type} {f : A → Option (A ⊕ B)} {k : Nat} {x x' : A} (h : f x = some (.inl x')) : loopN f (k + 1) x = loopN f k x' := by
  rw [loopN, h]
/-- a loop that goes through its states one by one -/
theorem loopN_iter {A B : Type} {f : A → Option (A ⊕ B)} (st : Nat → A) (n : Nat) (y : B) (h : ∀ i, i < n → f (st i) = some (.inl (st (i + 1)))) (hy : f (st n) = some (.inr y)) : ∀ k, n < k → loopN f k (st 0) = some y := by
  have key : ∀ m i k, i + m = n → m < k → loopN f k (st i) = some y := by
    intro m
    induction m with
    | zero =>
      intro i k hi hk
      obtain ⟨k, rfl⟩ : ∃ k', k = k' + 1 := ⟨k - 1, by omega⟩
      have : i = n := by omega
      subst this
      exact loopN_inr hy
    | succ m ih =>
      intro i k hi hk
      obtain ⟨k, rfl⟩ : ∃ k', k = k' + 1 := ⟨k - 1, by omega⟩
      rw [loopN_inl (h i (by omega))]
      exact ih (i + 1) k (by omega) (by omega)
  intro k hk
  exact key n 0 k (by omega) hk
theorem getD_in {α : Type} {l : List α} {i : Nat} {d : α} (h : i < l.length) : l.getD i d = l[i] := by
  simp [List.getD_eq_getElem?_getD, List.getElem?_eq_getElem h]
theorem take_succ {α : Type} {l : List α} {i : Nat} (h : i < l.length) : l.take (i + 1) = l.take i ++ [l[i]] := by
  rw [List.take_add_one, List.getElem?_eq_getElem h]; rfl
abbrev big : Nat := 140737488351232
theorem bleB {n : Nat} (h : n ≤ big) : (Nat.ble (n * 1) 140737488355328 && Nat.ble n 9223372036854775807) = true := by
  have h : n ≤ 140737488351232 := h
  rw [Nat.ble_eq_true_of_le (by omega), Nat.ble_eq_true_of_le (by omega)]; rfl
/-! ### is it among them -/
def hasL (l : List Int) (x : Int) : Bool := l.any (· == x)
theorem hasL_cons (c : Int) (r : List Int) (x : Int) : hasL (c :: r) x = (c == x || hasL r x) := rfl
def isB (l : List Int) : Prop := ∀ n ∈ l, 0 ≤ n ∧ n < 256
theorem isB_get {l : List Int} (h : isB l) {i : Nat} (hi : i < l.length) : 0 ≤ l[i] ∧ l[i] < 256 := h _ (List.getElem_mem hi)
/-- where it stands first -/
def posL (x : Int) : List Int → Int
  | [] => -1
  | c :: r => bif c == x then 0 else bif posL x r == -1 then -1 else posL x r + 1
theorem posL_cons (x c : Int) (r : List Int) : posL x (c :: r) = bif c == x then 0 else bif posL x r == -1 then -1 else posL x r + 1 := rfl
theorem posL_ge (x : Int) : ∀ l, -1 ≤ posL x l
  | [] => Int.le_refl _
  | c :: r => by
    have := posL_ge x r
    unfold posL
    cases c == x <;> simp only [cond_true, cond_false]
    · cases h : posL x r == -1 <;> simp only [cond_true, cond_false]
      · omega
      · omega
    · omega
theorem posL_has (x : Int) : ∀ l, (decide (posL x l < 0) = !hasL l x)
  | [] => rfl
  | c :: r => by
    have ih := posL_has x r
    have hg := posL_ge x r
    rw [hasL_cons]
    unfold posL
    cases hc : c == x <;> simp only [cond_true, cond_false, Bool.false_or, Bool.true_or]
    · cases h : posL x r == -1 <;> simp only [cond_true, cond_false]
      · have h' : posL x r ≠ -1 := by simpa using h
        rw [← ih]
        have a1 : ¬ posL x r + 1 < 0 := by omega
        have a2 : ¬ posL x r < 0 := by omega
        simp [a1, a2]
      · have h' : posL x r = -1 := by simpa using h
        rw [← ih, h']
    · rfl
theorem u8_eq {a b : Int} (ha : 0 ≤ a) (ha' : a < 256) (hb : 0 ≤ b) (hb' : b < 256) : (UInt8.ofNat a.toNat == b.toNat.toUInt8) = (a == b) := by
  have h1 : (UInt8.ofNat a.toNat).toNat = a.toNat := by rw [UInt8.toNat_ofNat']; omega
  have h2 : (b.toNat.toUInt8).toNat = b.toNat := by rw [Nat.toUInt8, UInt8.toNat_ofNat']; omega
  by_cases e : a = b
  · subst e; simp [Nat.toUInt8]
  · have : ¬ UInt8.ofNat a.toNat = b.toNat.toUInt8 := fun h => by
      have := congrArg UInt8.toNat h
      rw [h1, h2] at this
      omega
    rw [beq_eq_false_iff_ne.2 this, beq_eq_false_iff_ne.2 e]
theorem ix_eq (x : Int) (hx : 0 ≤ x) (hx' : x < 256) : ∀ l : List Int, isB l → ixS (strOf l) x = posL x l
  | [], _ => rfl
  | c :: r, h => by
    have ih := ix_eq x hx hx' r (fun n hn => h n (List.mem_cons_of_mem _ hn))
    have hc := h c (List.mem_cons_self ..)
    have h2 : ixS (strOf (c :: r)) x = if UInt8.ofNat c.toNat == x.toNat.toUInt8 then 0 else if ixS (strOf r) x == -1 then -1 else ixS (strOf r) x + 1 := rfl
    rw [h2, ih, u8_eq hc.1 hc.2 hx hx', posL_cons]
    cases c == x
    · cases posL x r == -1 <;> rfl
    · rfl
/-- F38: Has -/
theorem F38_eq (k : Nat) (l : List Int) (x : Int) (hk : l.length < k) (hl : l.length ≤ big) : F38.go k l x = some ((hasL l x, ()), (), ()) := by
  have key : ∀ (m i : Nat) (k' : Nat), i + m = l.length → m < k' → F38.l_26 k (((i : Int), x, l, (l.length : Int), ()), (), ()) = F38.l_26 k (((i : Int), x, l, (l.length : Int), ()), (), ()) := fun _ _ _ _ _ => rfl
  have loop : ∀ (m i fu : Nat), i + m = l.length → m < fu → loopN (F38.s26 k) fu (((i : Int), x, l, (l.length : Int), ()), (), ()) = some (if hasL (l.drop i) x then .inl ((true, ()), (), ()) else .inr ((), (), ())) := by
    intro m
    induction m with
    | zero =>
      intro i fu hi hf
      obtain ⟨fu, rfl⟩ : ∃ f', fu = f' + 1 := ⟨fu - 1, by omega⟩
      have hd : l.drop i = [] := List.drop_eq_nil_of_le (by omega)
      refine loopN_inr ?_
      have e : decide ((i : Int) < (l.length : Int)) = false := by simp; omega
      simp only [F38.s26, F38.go26, e, cond_false, hd]
      rfl
    | succ m ih =>
      intro i fu hi hf
      obtain ⟨fu, rfl⟩ : ∃ f', fu = f' + 1 := ⟨fu - 1, by omega⟩
      have hil : i < l.length := by omega
      have e1 : decide ((i : Int) < (l.length : Int)) = true := by simp; omega
      have e2 : (decide ((0 : Int) ≤ (i : Int)) && decide ((i : Int) < (l.length : Int))) = true := by simp; omega
      have hdr : l.drop i = l[i] :: l.drop (i + 1) := List.drop_eq_getElem_cons hil
      have hb : l.length ≤ 140737488351232 := hl
      cases hc : (l[i] == x)
      · rw [loopN_inl (x' := ((((i + 1 : Nat) : Int), x, l, (l.length : Int), ()), (), ()))]
        · rw [ih (i + 1) fu (by omega) (by omega), hdr, hasL_cons, hc, Bool.false_or]
        · simp only [F38.s26, F38.go26, e1, e2, cond_true, Int.toNat_natCast, getD_in hil, hc, cond_false]
          rw [wrap_id (by omega) (by omega)]; rfl
      · refine loopN_inr ?_
        simp only [F38.s26, F38.go26, e1, e2, cond_true, Int.toNat_natCast, getD_in hil, hc]
        rw [hdr, hasL_cons, hc]; rfl
  have := loop l.length 0 k (by omega) hk
  unfold F38.go F38.l_26
  have e0 : ((0 : Nat) : Int) = 0 := rfl
  rw [e0] at this
  rw [this, List.drop_zero]
  cases hasL l x <;> rfl
end Go.Proofs.Tryd.S

namespace Go.Proofs.Tryd.S
open Go Go.Ev
theorem lt_dec {i n : Nat} (h : i < n) : decide ((i : Int) < (n : Int)) = true := by simp; omega
theorem lt_dec' {n : Nat} : decide ((n : Int) < (n : Int)) = false := by simp
theorem in_dec {i n : Nat} (h : i < n) : (decide ((0 : Int) ≤ (i : Int)) && decide ((i : Int) < (n : Int))) = true := by simp; omega
theorem wrap1 {i : Nat} (h : i ≤ big) : IntKind.i64.wrap ((i : Int) + 1) = ((i + 1 : Nat) : Int) := by
  have h : i ≤ 140737488351232 := h
  rw [wrap_id (by omega) (by omega)]; rfl
theorem wrapm1 {i : Nat} (h : i ≤ big) (h0 : 0 < i) : IntKind.i64.wrap ((i : Int) - 1) = ((i - 1 : Nat) : Int) := by
  have h : i ≤ 140737488351232 := h
  rw [wrap_id (by omega) (by omega)]; omega
/-! ### without a set's bytes -/
def delL (set l : List Int) : List Int := l.filter fun x => !hasL set x
theorem delL_len (set l : List Int) : (delL set l).length ≤ l.length := List.length_filter_le _ _
theorem delL_take (set : List Int) {l : List Int} {i : Nat} (h : i < l.length) : delL set (l.take (i + 1)) = bif hasL set l[i] then delL set (l.take i) else delL set (l.take i) ++ [l[i]] := by
  unfold delL
  rw [take_succ h, List.filter_append]
  cases hh : hasL set l[i] <;> simp [hh]
theorem F33_eq (k : Nat) (b set : List Int) (hk : b.length < k) (hk2 : set.length < k) (hb : b.length ≤ big) (hs : set.length ≤ big) : F33.go k b set = some (((), ()), (delL set b, ()), ()) := by
  have loop := loopN_iter (f := F33.s58 k) (fun i => (((i : Int), (), set, b, (b.length : Int), ()), (delL set (b.take i), ()), ())) b.length (((), ()), (delL set b, ()), ()) (fun i hi => ?_) ?_ k hk
  · unfold F33.go F33.l_58
    have e0 : ((0 : Nat) : Int) = 0 := rfl
    have e1 : delL set (b.take 0) = [] := rfl
    simp only [e0, e1] at loop
    rw [loop]; rfl
  · have hg := getD_in (d := (0 : Int)) hi
    simp only [F33.s58, F33.go58, lt_dec hi, in_dec hi, cond_true, Int.toNat_natCast, hg, F38_eq k set _ hk2 hs, Option.bind_some]
    have hl : (delL set (b.take i) ++ [b[i]]).length ≤ big := by
      have := delL_len set (b.take i)
      rw [List.length_take] at this
      rw [List.length_append, List.length_singleton]
      have hb' : b.length ≤ 140737488351232 := hb
      show _ ≤ 140737488351232
      omega
    rw [delL_take set hi, wrap1 (Nat.le_trans (Nat.le_of_lt hi) hb)]
    cases hasL set b[i]
    · simp only [Bool.not_false, cond_true, bleB hl]; rfl
    · rfl
  · simp only [F33.s58, F33.go58, lt_dec', cond_false, List.take_length]
theorem F31_eq (k : Nat) (b set rb rs : List Int) (ob os : Nat) (hb0 : (rb.drop ob).take b.length = b) (hs0 : (rs.drop os).take set.length = set) (h1 : isB b) (h2 : isB set) (hk : b.length < k) (hb : b.length ≤ big) :
    F31.go k (ob, b.length) (os, set.length) rb rs = some (((), ()), (rb, rs, delL set b, ()), ()) := by
  have loop := loopN_iter (f := F31.s58 k) (fun i => (((i : Int), (), (os, set.length), (ob, b.length), (b.length : Int), ()), (rb, rs, delL set (b.take i), ()), ())) b.length (((), ()), (rb, rs, delL set b, ()), ()) (fun i hi => ?_) ?_ k hk
  · unfold F31.go F31.l_58
    have e0 : ((0 : Nat) : Int) = 0 := rfl
    have e1 : delL set (b.take 0) = [] := rfl
    simp only [e0, e1] at loop
    rw [loop]; rfl
  · have hg : rb.getD (ob + i) 0 = b[i] := by
      have := congrArg (fun q => q.getD i 0) hb0
      simp only [List.getD_eq_getElem?_getD, List.getElem?_take, if_pos hi, List.getElem?_drop] at this
      rw [List.getD_eq_getElem?_getD, this, List.getElem?_eq_getElem hi]; rfl
    have hx := isB_get h1 hi
    simp only [F31.s58, F31.go58, lt_dec hi, in_dec hi, cond_true, Int.toNat_natCast, hg, F57.go, hs0, ix_eq _ hx.1 hx.2 set h2, Option.bind_some, posL_has]
    have hl : (delL set (b.take i) ++ [b[i]]).length ≤ big := by
      have := delL_len set (b.take i)
      rw [List.length_take] at this
      rw [List.length_append, List.length_singleton]
      have hb' : b.length ≤ 140737488351232 := hb
      show _ ≤ 140737488351232
      omega
    rw [delL_take set hi, wrap1 (Nat.le_trans (Nat.le_of_lt hi) hb)]
    cases hasL set b[i]
    · simp only [Bool.not_false, cond_true, bleB hl]; rfl
    · rfl
  · simp only [F31.s58, F31.go58, lt_dec', cond_false, List.take_length]
end Go.Proofs.Tryd.S

namespace Go.Proofs.Tryd.S
open Go Go.Ev
/-! ### of a run one -/
def keepN (set b : List Int) (i : Nat) : Bool := Nat.beq i 0 || (b.getD (i - 1) 0 != b.getD i 0 || !hasL set (b.getD i 0))
def sqN (set b : List Int) : Nat → List Int
  | 0 => []
  | i + 1 => bif keepN set b i then sqN set b i ++ [b.getD i 0] else sqN set b i
theorem sqN_len (set b : List Int) : ∀ i, (sqN set b i).length ≤ i
  | 0 => Nat.le_refl _
  | i + 1 => by
    have := sqN_len set b i
    unfold sqN
    cases keepN set b i
    · exact Nat.le_succ_of_le this
    · simp only [cond_true, List.length_append, List.length_singleton]; omega
theorem sq_ble {set b : List Int} {i : Nat} (hi : i < b.length) (hb : b.length ≤ big) (x : Int) : (sqN set b i ++ [x]).length ≤ big := by
  have := sqN_len set b i
  rw [List.length_append, List.length_singleton]
  have hb' : b.length ≤ 140737488351232 := hb
  show _ ≤ 140737488351232
  omega
theorem bne_comm' (a b : Int) : (a != b) = (b != a) := by
  by_cases h : a = b
  · subst h; rfl
  · have h' : ¬ b = a := fun e => h e.symm
    simp [bne, beq_eq_false_iff_ne.2 h, beq_eq_false_iff_ne.2 h']
theorem F34_eq (k : Nat) (b set : List Int) (hk : b.length < k) (hk2 : set.length < k) (hb : b.length ≤ big) (hs : set.length ≤ big) : F34.go k b set = some (((), ()), (sqN set b b.length, ()), ()) := by
  have loop := loopN_iter (f := F34.s58 k) (fun i => (((i : Int), (), set, b, b, (b.length : Int), ()), (sqN set b i, ()), ())) b.length (((), ()), (sqN set b b.length, ()), ()) (fun i hi => ?_) ?_ k hk
  · unfold F34.go F34.l_58
    have e0 : ((0 : Nat) : Int) = 0 := rfl
    have e1 : sqN set b 0 = [] := rfl
    simp only [e0, e1] at loop
    rw [loop]; rfl
  · have hl := fun x => sq_ble (set := set) hi hb x
    simp only [F34.s58, F34.go58, lt_dec hi, in_dec hi, cond_true, Int.toNat_natCast, F38_eq k set _ hk2 hs, Option.bind_some, bleB (hl _)]
    rw [wrap1 (Nat.le_trans (Nat.le_of_lt hi) hb)]
    cases i with
    | zero => rfl
    | succ j =>
      have hz : (((j + 1 : Nat) : Int) == 0) = false := by simp; omega
      have hz2 : decide ((0:Int) ≤ ((j+1:Nat):Int)) = true := decide_eq_true (by omega)
      have hw : IntKind.i64.wrap (((j + 1 : Nat) : Int) - 1) = (j : Int) := by rw [wrapm1 (Nat.le_trans (Nat.le_of_lt hi) hb) (by omega)]; rfl
      have hj : j < b.length := by omega
      simp only [hz, hz2, Bool.and_true, cond_false, hw, in_dec hj, cond_true, Int.toNat_natCast]
      have hk : keepN set b (j + 1) = (b.getD j 0 != b.getD (j + 1) 0 || !hasL set (b.getD (j + 1) 0)) := rfl
      have he : sqN set b ((j + 1) + 1) = (bif keepN set b (j + 1) then sqN set b (j + 1) ++ [b.getD (j + 1) 0] else sqN set b (j + 1)) := rfl
      show _ = some (Sum.inl (((((j + 1) + 1 : Nat) : Int), (), set, b, b, (b.length : Int), ()), (sqN set b ((j + 1) + 1), ()), ()))
      rw [he, hk]
      generalize sqN set b (j + 1) = Q
      cases b.getD j 0 != b.getD (j + 1) 0
      · cases hasL set (b.getD (j + 1) 0) <;> rfl
      · rfl
  · simp only [F34.s58, F34.go58, lt_dec', cond_false]
theorem F32_eq (k : Nat) (b set rb rs : List Int) (ob os : Nat) (hb0 : (rb.drop ob).take b.length = b) (hs0 : (rs.drop os).take set.length = set) (h1 : isB b) (h2 : isB set) (hk : b.length < k) (hb : b.length ≤ big) :
    F32.go k (ob, b.length) (os, set.length) rb rs = some (((), ()), (rb, rs, sqN set b b.length, ()), ()) := by
  have hgd : ∀ i, i < b.length → rb.getD (ob + i) 0 = b.getD i 0 := by
    intro i hi
    have := congrArg (fun q => q.getD i 0) hb0
    simp only [List.getD_eq_getElem?_getD, List.getElem?_take, if_pos hi, List.getElem?_drop] at this
    rw [List.getD_eq_getElem?_getD, this, List.getD_eq_getElem?_getD]
  have loop := loopN_iter (f := F32.s58 k) (fun i => (((i : Int), (), (os, set.length), (ob, b.length), (ob, b.length), (b.length : Int), ()), (rb, rs, sqN set b i, ()), ())) b.length (((), ()), (rb, rs, sqN set b b.length, ()), ()) (fun i hi => ?_) ?_ k hk
  · unfold F32.go F32.l_58
    have e0 : ((0 : Nat) : Int) = 0 := rfl
    have e1 : sqN set b 0 = [] := rfl
    simp only [e0, e1] at loop
    rw [loop]; rfl
  · have hl := fun x => sq_ble (set := set) hi hb x
    have hx : 0 ≤ b.getD i 0 ∧ b.getD i 0 < 256 := by rw [getD_in hi]; exact isB_get h1 hi
    simp only [F32.s58, F32.go58, lt_dec hi, in_dec hi, cond_true, Int.toNat_natCast, hgd i hi, F57.go, hs0, ix_eq _ hx.1 hx.2 set h2, Option.bind_some, posL_has, bleB (hl _)]
    rw [wrap1 (Nat.le_trans (Nat.le_of_lt hi) hb)]
    cases i with
    | zero => rfl
    | succ j =>
      have hz : (((j + 1 : Nat) : Int) == 0) = false := by simp; omega
      have hz2 : decide ((0:Int) ≤ ((j+1:Nat):Int)) = true := decide_eq_true (by omega)
      have hw : IntKind.i64.wrap (((j + 1 : Nat) : Int) - 1) = (j : Int) := by rw [wrapm1 (Nat.le_trans (Nat.le_of_lt hi) hb) (by omega)]; rfl
      have hj : j < b.length := by omega
      simp only [hz, hz2, Bool.and_true, cond_false, hw, in_dec hj, cond_true, Int.toNat_natCast, hgd j hj]
      have hk : keepN set b (j + 1) = (b.getD j 0 != b.getD (j + 1) 0 || !hasL set (b.getD (j + 1) 0)) := rfl
      have he : sqN set b ((j + 1) + 1) = (bif keepN set b (j + 1) then sqN set b (j + 1) ++ [b.getD (j + 1) 0] else sqN set b (j + 1)) := rfl
      show _ = some (Sum.inl (((((j + 1) + 1 : Nat) : Int), (), (os, set.length), (ob, b.length), (ob, b.length), (b.length : Int), ()), (rb, rs, sqN set b ((j + 1) + 1), ()), ()))
      rw [he, hk, bne_comm' (b.getD j 0)]
      generalize sqN set b (j + 1) = Q
      cases b.getD (j + 1) 0 != b.getD j 0
      · cases hasL set (b.getD (j + 1) 0) <;> rfl
      · rfl
  · simp only [F32.s58, F32.go58, lt_dec', cond_false]
/-! ### the others -/
def coN (set : List Int) : Nat → List Int
  | 0 => []
  | i + 1 => bif hasL set (i : Int) then coN set i else coN set i ++ [(i : Int)]
theorem coN_len (set : List Int) : ∀ i, (coN set i).length ≤ i
  | 0 => Nat.le_refl _
  | i + 1 => by
    have := coN_len set i
    unfold coN
    cases hasL set (i : Int)
    · simp only [cond_false, List.length_append, List.length_singleton]; omega
    · exact Nat.le_succ_of_le this
theorem wrap8 {i : Nat} (h : i < 256) : IntKind.u8.wrap (i : Int) = (i : Int) := by
  unfold IntKind.wrap
  simp [IntKind.bits, IntKind.signed]
  omega
theorem lt256 {i : Nat} (h : i < 256) : decide ((i : Int) < 256) = true := by simp; omega
theorem co_ble {set : List Int} {i : Nat} (h : i < 256) (x : Int) : (coN set i ++ [x]).length ≤ big := by
  have := coN_len set i
  rw [List.length_append, List.length_singleton]
  show _ ≤ 140737488351232
  omega
theorem F36_eq (k : Nat) (set : List Int) (hk : 256 < k) (hk2 : set.length < k) (hs : set.length ≤ big) : F36.go k set = some (((), ()), (coN set 256, ()), ()) := by
  have loop := loopN_iter (f := F36.s58 k) (fun i => (((i : Int), (), set, ()), (coN set i, ()), ())) 256 (((), ()), (coN set 256, ()), ()) (fun i hi => ?_) ?_ k hk
  · unfold F36.go F36.l_58
    have e0 : ((0 : Nat) : Int) = 0 := rfl
    have e1 : coN set 0 = [] := rfl
    simp only [e0, e1] at loop
    rw [loop]; rfl
  · simp only [F36.s58, F36.go58, lt256 hi, cond_true, wrap8 hi, F38_eq k set _ hk2 hs, Option.bind_some, bleB (co_ble hi _)]
    rw [wrap1 (by show i ≤ 140737488351232; omega)]
    rw [coN]
    cases hasL set (i : Int) <;> rfl
  · rfl
theorem F35_eq (k : Nat) (set rs : List Int) (os : Nat) (hs0 : (rs.drop os).take set.length = set) (h2 : isB set) (hk : 256 < k) : F35.go k (os, set.length) rs = some (((), ()), (rs, coN set 256, ()), ()) := by
  have loop := loopN_iter (f := F35.s58 k) (fun i => (((i : Int), (), (os, set.length), ()), (rs, coN set i, ()), ())) 256 (((), ()), (rs, coN set 256, ()), ()) (fun i hi => ?_) ?_ k hk
  · unfold F35.go F35.l_58
    have e0 : ((0 : Nat) : Int) = 0 := rfl
    have e1 : coN set 0 = [] := rfl
    simp only [e0, e1] at loop
    rw [loop]; rfl
  · simp only [F35.s58, F35.go58, lt256 hi, cond_true, wrap8 hi, F57.go, hs0, ix_eq (i : Int) (by omega) (by omega) set h2, Option.bind_some, posL_has, bleB (co_ble hi _)]
    rw [wrap1 (by show i ≤ 140737488351232; omega)]
    rw [coN]
    cases hasL set (i : Int) <;> rfl
  · rfl
end Go.Proofs.Tryd.S

namespace Go.Proofs.Tryd.S
open Go Go.Ev
/-! ### lent -/
theorem wrap2 {i : Nat} (h : i ≤ big) : IntKind.i64.wrap ((i : Int) + 2) = ((i + 2 : Nat) : Int) := by
  have h' : i ≤ 140737488351232 := h
  rw [wrap_id (by omega) (by omega)]; rfl
def lend (b : List Int) : List Int := 165 :: (b ++ [90])
theorem lend_len (b : List Int) : (lend b).length = b.length + 2 := by simp [lend]
theorem lend_in (b : List Int) : ((lend b).drop 1).take b.length = b := by simp [lend]
def rowL (b : List Int) (i : Nat) : List Int := 165 :: (b.take i ++ (List.replicate (b.length - i) 0 ++ [90]))
theorem rowL_len {b : List Int} {i : Nat} (h : i ≤ b.length) : (rowL b i).length = b.length + 2 := by
  have e : (b.take i).length = i := by rw [List.length_take]; omega
  unfold rowL
  rw [List.length_cons, List.length_append, e, List.length_append, List.length_replicate]
  show i + (b.length - i + 1) + 1 = b.length + 2
  omega
theorem rowL_set {b : List Int} {i : Nat} (h : i < b.length) : (rowL b i).set (i + 1) (b.getD i 0) = rowL b (i + 1) := by
  have e : b.length - i = (b.length - (i + 1)) + 1 := by omega
  have hl : (b.take i).length = i := by rw [List.length_take]; omega
  rw [rowL, rowL, List.set_cons_succ, take_succ h, getD_in h, List.set_append_right _ _ (by omega), hl, Nat.sub_self, e, List.replicate_succ, List.append_assoc]
  rfl
theorem rowL_zero (b : List Int) : ((List.replicate (b.length + 2) (0 : Int)).set 0 165).set (b.length + 1) 90 = rowL b 0 := by
  have e : List.replicate (b.length + 2) (0 : Int) = 0 :: (List.replicate b.length 0 ++ [0]) := by
    rw [List.replicate_succ, List.replicate_succ']
  rw [e, List.set_cons_zero, List.set_cons_succ, List.set_append_right _ _ (by simp)]
  simp [rowL]
theorem rowL_end (b : List Int) : rowL b b.length = lend b := by simp [rowL, lend]
theorem F28_eq (k : Nat) (b : List Int) (hk : b.length < k) (hb : b.length ≤ big) : F28.go k b = some ((((), (1, b.length), ()), ()), (lend b, ()), ()) := by
  have hb' : b.length ≤ 140737488351232 := hb
  have loop := loopN_iter (f := F28.s122 k) (fun i => (((i : Int), (), b, b, (b.length : Int), ()), (rowL b i, ()), ())) b.length ((b, (), ()), (rowL b b.length, ()), ()) (fun i hi => ?_) ?_ k hk
  · have e0 : ((0 : Nat) : Int) = 0 := rfl
    simp only [e0, rowL_end] at loop
    have h1 : decide ((0 : Int) ≤ ((b.length + 2 : Nat) : Int)) = true := decide_eq_true (by omega)
    have h2 : decide (1 * ((b.length + 2 : Nat) : Int) ≤ 281474976710656) = true := decide_eq_true (by omega)
    have h3 : decide (((b.length + 2 : Nat) : Int) ≤ 9223372036854775807) = true := decide_eq_true (by omega)
    have h4 : decide (((b.length + 2 : Nat) : Int) ≤ ((b.length + 2 : Nat) : Int)) = true := decide_eq_true (by omega)
    have h5 : decide ((0 : Int) < ((b.length + 2 : Nat) : Int)) = true := decide_eq_true (by omega)
    have h6 : (decide ((0 : Int) ≤ ((b.length + 1 : Nat) : Int)) && decide (((b.length + 1 : Nat) : Int) < ((b.length + 2 : Nat) : Int))) = true := in_dec (by omega)
    have h10 : decide (((b.length + 1 : Nat) : Int) < ((b.length + 2 : Nat) : Int)) = true := decide_eq_true (by omega)
    have h7 : decide ((0 : Int) ≤ ((b.length + 1 : Nat) : Int)) = true := decide_eq_true (by omega)
    have h8 : decide (((b.length + 1 : Nat) : Int) ≤ ((b.length + 2 : Nat) : Int)) = true := decide_eq_true (by omega)
    have h9 : decide ((1 : Int) ≤ ((b.length + 1 : Nat) : Int)) = true := decide_eq_true (by omega)
    unfold F28.go F28.l_122
    simp only [wrap2 hb, wrap1 hb, h10, h1, h2, h3, h4, h5, h6, List.length_set, List.length_replicate, Int.toNat_natCast, Bool.and_true, Bool.true_and, cond_true, rowL_zero, loop, Option.bind_some, lend_len, h7, h8, h9]
    rfl
  · have h11 : decide ((0 : Int) ≤ (i : Int)) = true := decide_eq_true (by omega)
    have h12 : decide ((0 : Int) ≤ ((i + 1 : Nat) : Int)) = true := decide_eq_true (by omega)
    have h13 : decide (((i + 1 : Nat) : Int) < ((b.length + 2 : Nat) : Int)) = true := decide_eq_true (by omega)
    have hi' : i ≤ big := Nat.le_trans (Nat.le_of_lt hi) hb
    have h6 : (decide ((0 : Int) ≤ ((i + 1 : Nat) : Int)) && decide (((i + 1 : Nat) : Int) < ((rowL b i).length : Int))) = true := in_dec (by rw [rowL_len (Nat.le_of_lt hi)]; omega)
    simp only [F28.s122, F28.go122, lt_dec hi, h11, h12, h13, rowL_len (Nat.le_of_lt hi), Bool.true_and, cond_true, wrap1 hi', Int.toNat_natCast, rowL_set hi]
  · simp only [F28.s122, F28.go122, lt_dec', cond_false]
/-! ### kept -/
theorem F37_eq (k : Nat) (b : List Int) (hb : b.length ≤ big) : F37.go k b (lend b) = some ((true, ()), (lend b, ()), ()) := by
  have hb' : b.length ≤ 140737488351232 := hb
  have h0 : (((b.length + 2 : Nat) : Int) == ((b.length + 2 : Nat) : Int)) = true := by simp
  have h5 : decide ((0 : Int) < ((b.length + 2 : Nat) : Int)) = true := decide_eq_true (by omega)
  have h6 : (decide ((0 : Int) ≤ ((b.length + 1 : Nat) : Int)) && decide (((b.length + 1 : Nat) : Int) < ((b.length + 2 : Nat) : Int))) = true := in_dec (by omega)
  have h10 : decide (((b.length + 1 : Nat) : Int) < ((b.length + 2 : Nat) : Int)) = true := decide_eq_true (by omega)
  have h7 : decide ((0 : Int) ≤ ((b.length + 1 : Nat) : Int)) = true := decide_eq_true (by omega)
  have h8 : decide (((b.length + 1 : Nat) : Int) ≤ ((b.length + 2 : Nat) : Int)) = true := decide_eq_true (by omega)
  have h9 : decide ((1 : Int) ≤ ((b.length + 1 : Nat) : Int)) = true := decide_eq_true (by omega)
  have g0 : ((lend b).getD 0 0 == 165) = true := rfl
  have g1 : ((lend b).getD (b.length + 1) 0 == 90) = true := by simp [lend]
  have g2 : List.take (b.length + 1 - 1) (List.drop 1 (lend b)) = b := lend_in b
  unfold F37.go
  simp only [wrap2 hb, wrap1 hb, h10, Bool.true_and, lend_len, h0, h5, g0, h6, Int.toNat_natCast, g1, h7, h8, h9, g2, Bool.and_true, cond_true, beq_self_eq_true]
end Go.Proofs.Tryd.S

namespace Go.Proofs.Tryd.S
open Go Go.Ev
/-! ### spoilt -/
def spN (l : List Int) : Nat → List Int
  | 0 => l
  | i + 1 => (spN l i).set i 7
theorem spN_len (l : List Int) : ∀ i, (spN l i).length = l.length
  | 0 => rfl
  | i + 1 => by rw [spN, List.length_set, spN_len l i]
theorem F17_1_eq (k : Nat) (l : List Int) (hk : l.length < k) (hl : l.length ≤ big) : F17_1.go k l = some (((), ()), (spN l l.length, ()), ()) := by
  have loop := loopN_iter (f := F17_1.s6 k) (fun i => (((i : Int), (), (l.length : Int), ()), (spN l i, ()), ())) l.length ((), (spN l l.length, ()), ()) (fun i hi => ?_) ?_ k hk
  · unfold F17_1.go F17_1.l_6
    have e0 : ((0 : Nat) : Int) = 0 := rfl
    have e1 : spN l 0 = l := rfl
    simp only [e0, e1] at loop
    rw [loop]; rfl
  · have hi' : i ≤ big := Nat.le_trans (Nat.le_of_lt hi) hl
    have h11 : decide ((0 : Int) ≤ (i : Int)) = true := decide_eq_true (by omega)
    simp only [F17_1.s6, F17_1.go6, lt_dec hi, h11, spN_len, Bool.true_and, cond_true, wrap1 hi', Int.toNat_natCast]
    rfl
  · simp only [F17_1.s6, F17_1.go6, lt_dec', cond_false]
theorem F17_eq (k : Nat) (hk : 0 < k) : F17.go k = some (((), ()), (), ()) := by
  cases k with
  | zero => exact absurd hk (Nat.lt_irrefl _)
  | succ j => rfl
/-! ### translated -/
def trF (to : List Int) (c d : Int) : List Int → Nat → Int
  | [], _ => d
  | s :: r, p => bif s == c then to.getD (min p (to.length - 1)) 0 else trF to c d r (p + 1)
theorem posL_no (x : Int) (r : List Int) : (posL x r == -1) = !decide (posL x r ≥ 0) := by
  have := posL_ge x r
  by_cases h : posL x r = -1
  · rw [h]; rfl
  · have h1 : (posL x r == -1) = false := by simp [h]
    have h2 : decide (posL x r ≥ 0) = true := decide_eq_true (by omega)
    rw [h1, h2]; rfl
theorem trF_pos (to : List Int) (c d : Int) : ∀ (set : List Int) (p : Nat), trF to c d set p = bif decide (posL c set ≥ 0) then to.getD (min (p + (posL c set).toNat) (to.length - 1)) 0 else d
  | [], p => rfl
  | s :: r, p => by
    rw [trF, posL_cons, posL_no, trF_pos to c d r (p + 1)]
    cases s == c
    · by_cases h : posL c r ≥ 0
      · have h2 : decide (posL c r ≥ 0) = true := decide_eq_true h
        have h3 : decide (posL c r + 1 ≥ 0) = true := decide_eq_true (by omega)
        have h4 : p + (posL c r + 1).toNat = p + 1 + (posL c r).toNat := by omega
        simp only [h2, h3, h4, Bool.not_true, cond_false, cond_true]
      · have h2 : decide (posL c r ≥ 0) = false := decide_eq_false h
        simp only [h2, Bool.not_false, cond_false, cond_true]
        rfl
    · rfl
def tr (set to : List Int) (c : Int) : Int := trF to c c set 0
def fillT (g : Int → Int) (b : List Int) (i : Nat) : List Int := (b.take i).map g ++ List.replicate (b.length - i) 0
theorem fillT_len {g : Int → Int} {b : List Int} {i : Nat} (h : i ≤ b.length) : (fillT g b i).length = b.length := by
  have e : (b.take i).length = i := by rw [List.length_take]; omega
  rw [fillT, List.length_append, List.length_map, e, List.length_replicate]; omega
theorem fillT_set {g : Int → Int} {b : List Int} {i : Nat} (h : i < b.length) : (fillT g b i).set i (g b[i]) = fillT g b (i + 1) := by
  have e : b.length - i = (b.length - (i + 1)) + 1 := by omega
  have hl : ((b.take i).map g).length = i := by rw [List.length_map, List.length_take]; omega
  rw [fillT, fillT, take_succ h, List.set_append_right _ _ (by omega), hl, Nat.sub_self, e, List.replicate_succ, List.map_append, List.append_assoc]
  rfl
theorem fillT_end (g : Int → Int) (b : List Int) : fillT g b b.length = b.map g := by simp [fillT]
theorem F29_loop (k : Nat) (b set to rb rs : List Int) (ob os : Nat) (ht : set = [] ∨ to ≠ []) (hb0 : (rb.drop ob).take b.length = b) (hs0 : (rs.drop os).take set.length = set) (h1 : isB b) (h2 : isB set) (hk : b.length < k) (hb : b.length ≤ big) (hto : to.length ≤ big) :
    F29.l_122 k ((0, (), to, (os, set.length), (ob, b.length), (b.length : Int), ()), (rb, rs, List.replicate b.length 0, ()), ()) = some (((), ()), (rb, rs, b.map (tr set to), ()), ()) := by
  have hgd : ∀ i, i < b.length → rb.getD (ob + i) 0 = b.getD i 0 := by
    intro i hi
    have := congrArg (fun q => q.getD i 0) hb0
    simp only [List.getD_eq_getElem?_getD, List.getElem?_take, if_pos hi, List.getElem?_drop] at this
    rw [List.getD_eq_getElem?_getD, this, List.getD_eq_getElem?_getD]
  have loop := loopN_iter (f := F29.s122 k) (fun i => (((i : Int), (), to, (os, set.length), (ob, b.length), (b.length : Int), ()), (rb, rs, fillT (tr set to) b i, ()), ())) b.length (((), ()), (rb, rs, b.map (tr set to), ()), ()) (fun i hi => ?_) ?_ k hk
  · unfold F29.l_122
    have e0 : ((0 : Nat) : Int) = 0 := rfl
    have e1 : fillT (tr set to) b 0 = List.replicate b.length 0 := by simp [fillT]
    simp only [e0, e1] at loop
    exact loop
  · have hi' : i ≤ big := Nat.le_trans (Nat.le_of_lt hi) hb
    have h11 : decide ((0 : Int) ≤ (i : Int)) = true := decide_eq_true (by omega)
    have hx : 0 ≤ b[i] ∧ b[i] < 256 := isB_get h1 hi
    have hset := fillT_set (g := tr set to) hi
    simp only [F29.s122, F29.go122, lt_dec hi, h11, Bool.true_and, cond_true, Int.toNat_natCast, hgd i hi, getD_in hi, F57.go, hs0, ix_eq _ hx.1 hx.2 set h2, Option.bind_some, fillT_len (Nat.le_of_lt hi), wrap1 hi']
    rw [← hset, tr, trF_pos, Nat.zero_add]
    by_cases h : posL b[i] set ≥ 0
    · have hto0 : 0 < to.length := by
        cases ht with
        | inl h => subst h; exact absurd h (show ¬ ((-1 : Int) ≥ 0) by decide)
        | inr h => exact List.length_pos_iff.2 h
      have h3 : decide (posL b[i] set ≥ 0) = true := decide_eq_true h
      obtain ⟨m, hm⟩ : ∃ m : Nat, posL b[i] set = m := ⟨_, (Int.toNat_of_nonneg h).symm⟩
      have h4 : (bif decide (((to.length - 1 : Nat) : Int) < (m : Int)) then ((to.length - 1 : Nat) : Int) else (m : Int)) = ((min m (to.length - 1) : Nat) : Int) := by
        by_cases h5 : to.length - 1 < m
        · rw [decide_eq_true (by omega)]; simp only [cond_true]; omega
        · rw [decide_eq_false (by omega)]; simp only [cond_false]; omega
      have h6 : (decide ((0 : Int) ≤ ((min m (to.length - 1) : Nat) : Int))) = true := decide_eq_true (by omega)
      have h7 : decide (((min m (to.length - 1) : Nat) : Int) < (to.length : Int)) = true := decide_eq_true (by omega)
      rw [hm] at h3 ⊢
      simp only [h3, wrapm1 hto hto0, h4, h6, h7, Bool.true_and, cond_true, Int.toNat_natCast]
    · have h3 : decide (posL b[i] set ≥ 0) = false := decide_eq_false h
      simp only [h3, cond_false]
  · simp only [F29.s122, F29.go122, lt_dec', cond_false, fillT_end]
end Go.Proofs.Tryd.S

namespace Go.Proofs.Tryd.S
open Go Go.Ev
theorem dec0 (p : Nat) : decide ((0 : Int) ≤ (p : Int)) = true := decide_eq_true (by omega)
theorem wrapm (p : Nat) (h : p ≤ big) : IntKind.i64.wrap ((p : Int) - 1) = (p : Int) - 1 := by
  have h' : p ≤ 140737488351232 := h
  rw [wrap_id (by omega) (by omega)]
theorem F30_in (k : Nat) (b set to row : List Int) (c bl idx : Int) (ht : set = [] ∨ to ≠ []) (hk : set.length < k) (hs : set.length ≤ big) (hto : to.length ≤ big) :
    F30.l_125338 k (((set.length : Int) - 1, to, c, set, b, bl, idx, c, (), ()), (row, ()), ()) = some ((to, set, b, bl, idx, tr set to c, (), ()), (row, ()), ()) := by
  have loop := loopN_iter (f := F30.s125338 k) (fun i => (((set.length : Int) - 1 - (i : Int), to, c, set, b, bl, idx, trF to c c (set.drop (set.length - i)) (set.length - i), (), ()), (row, ()), ())) set.length ((to, set, b, bl, idx, tr set to c, (), ()), (row, ()), ()) (fun i hi => ?_) ?_ k hk
  · unfold F30.l_125338
    have e0 : (set.length : Int) - 1 - ((0 : Nat) : Int) = (set.length : Int) - 1 := by omega
    have e1 : trF to c c (set.drop (set.length - 0)) (set.length - 0) = c := by simp [trF]
    simp only [e0, e1] at loop
    exact loop
  · have hto0 : 0 < to.length := by
      cases ht with
      | inl h => subst h; exact absurd hi (Nat.not_lt_zero _)
      | inr h => exact List.length_pos_iff.2 h
    have hto' : to.length ≤ 140737488351232 := hto
    have hs' : set.length ≤ 140737488351232 := hs
    obtain ⟨p, hp⟩ : ∃ p, p = set.length - 1 - i := ⟨_, rfl⟩
    have hp1 : set.length - i = p + 1 := by omega
    have hp2 : set.length - (i + 1) = p := by omega
    have hp3 : (set.length : Int) - 1 - (i : Int) = (p : Int) := by omega
    have hp4 : (set.length : Int) - 1 - ((i + 1 : Nat) : Int) = (p : Int) - 1 := by omega
    have hpl : p < set.length := by omega
    have hd : set.drop p = set[p] :: set.drop (p + 1) := List.drop_eq_getElem_cons hpl
    have hge : decide ((p : Int) ≥ 0) = true := dec0 p
    simp only [F30.s125338, F30.go125338, hp1, hp2, hp3, hp4, hd, trF, hge, dec0, lt_dec hpl, Bool.true_and, cond_true, Int.toNat_natCast, getD_in hpl, wrapm p (by show p ≤ 140737488351232; omega), wrapm1 hto hto0]
    have hq : decide (((to.length - 1 : Nat) : Int) < (to.length : Int)) = true := decide_eq_true (by omega)
    cases set[p] == c
    · simp only [cond_false]
    · by_cases h5 : p < to.length
      · have h6 : min p (to.length - 1) = p := by omega
        simp only [cond_true, lt_dec h5, h6]
      · have h6 : min p (to.length - 1) = to.length - 1 := by omega
        have h7 : decide ((p : Int) < (to.length : Int)) = false := decide_eq_false (by omega)
        simp only [cond_true, cond_false, h7, h6, hq]
  · have e2 : (set.length : Int) - 1 - (set.length : Int) = -1 := by omega
    simp only [F30.s125338, F30.go125338, e2, Nat.sub_self, List.drop_zero]
    rfl
theorem F30_loop (k : Nat) (b set to : List Int) (ht : set = [] ∨ to ≠ []) (hk : b.length < k) (hk2 : set.length < k) (hb : b.length ≤ big) (hs : set.length ≤ big) (hto : to.length ≤ big) :
    F30.l_122 k ((to, set, 0, (), b, (b.length : Int), ()), ([], ()), ()) = some (((), ()), (b.map (tr set to), ()), ()) := by
  have loop := loopN_iter (f := F30.s122 k) (fun i => ((to, set, (i : Int), (), b, (b.length : Int), ()), ((b.take i).map (tr set to), ()), ())) b.length (((), ()), (b.map (tr set to), ()), ()) (fun i hi => ?_) ?_ k hk
  · unfold F30.l_122
    have e0 : ((0 : Nat) : Int) = 0 := rfl
    simp only [e0, List.take_zero, List.map_nil] at loop
    exact loop
  · have hi' : i ≤ big := Nat.le_trans (Nat.le_of_lt hi) hb
    have hl : ((b.take i).map (tr set to) ++ [tr set to b[i]]).length ≤ big := by
      have e : (b.take i).length = i := by rw [List.length_take]; omega
      have hb' : b.length ≤ 140737488351232 := hb
      rw [List.length_append, List.length_map, e, List.length_singleton]
      show i + 1 ≤ 140737488351232
      omega
    simp only [F30.s122, F30.go122, lt_dec hi, dec0, Bool.true_and, cond_true, Int.toNat_natCast, getD_in hi, wrapm set.length hs, F30_in k b set to _ _ _ _ ht hk2 hs hto, Option.bind_some, bleB hl, wrap1 hi']
    rw [take_succ hi, List.map_append]; rfl
  · simp only [F30.s122, F30.go122, lt_dec', cond_false, List.take_length]
end Go.Proofs.Tryd.S

namespace Go.Proofs.Tryd.S
open Go Go.Ev
theorem awakeK (k : Nat) : F12.go (k + 300) = some ((true, ()), (), ()) := by kernel_rfl
end Go.Proofs.Tryd.S

namespace Go.Proofs.Tryd.S
open Go Go.Ev
theorem isNilB {l : List Int} (h : l ≠ []) : ((l.length : Int) == 0) = false := by
  cases l with
  | nil => exact absurd rfl h
  | cons x r => simp; omega
theorem F16_1_eq (k : Nat) (l : List Int) : F16_1.go k l l = some ((true, ()), (l, l, ()), ()) := by
  unfold F16_1.go; rw [beq_self_eq_true]
theorem F16_eq (k : Nat) : F16.go k = some ((true, ()), (), ()) := by unfold F16.go; rw [beq_self_eq_true]
theorem rowOK {n : Nat} (h : n ≤ big) : (decide ((0 : Int) ≤ (n : Int)) && (decide ((n : Int) ≤ (n : Int)) && (decide (1 * (n : Int) ≤ 281474976710656) && (decide ((n : Int) ≤ 9223372036854775807) && true)))) = true := by
  have h' : n ≤ 140737488351232 := h
  rw [decide_eq_true (by omega), decide_eq_true (by omega), decide_eq_true (by omega), decide_eq_true (by omega)]; rfl
theorem F29_bad (k : Nat) (ob os nb : Nat) (set rb rs : List Int) (h : set ≠ []) : F29.go k (ob, nb) (os, set.length) [] rb rs = some (.inl ((((), 22, ()), ()), (rb, rs, ()), ())) := by
  have h1 : decide ((set.length : Int) > 0) = true := decide_eq_true (by have := List.length_pos_iff.2 h; omega)
  unfold F29.go
  simp only [h1, cond_true]; rfl
theorem F30_bad (k : Nat) (b set : List Int) (h : set ≠ []) : F30.go k b set [] = some (.inl ((((), 22, ()), ()), (), ())) := by
  have h1 : decide ((set.length : Int) > 0) = true := decide_eq_true (by have := List.length_pos_iff.2 h; omega)
  unfold F30.go
  simp only [h1, cond_true]; rfl
theorem F29_eq (k : Nat) (b set to rb rs : List Int) (ob os : Nat) (ht : set = [] ∨ to ≠ []) (hb0 : (rb.drop ob).take b.length = b) (hs0 : (rs.drop os).take set.length = set) (h1 : isB b) (h2 : isB set) (hk : b.length < k) (hb : b.length ≤ big) (hto : to.length ≤ big) :
    F29.go k (ob, b.length) (os, set.length) to rb rs = some (.inr ((((), 0, ()), ()), (rb, rs, b.map (tr set to), ()), ())) := by
  have loop := F29_loop k b set to rb rs ob os ht hb0 hs0 h1 h2 hk hb hto
  unfold F29.go
  rw [rowOK hb]
  simp only [Int.toNat_natCast, loop, Option.bind_some, cond_true]
  cases ht with
  | inl h => subst h; cases (to.length : Int) == 0 <;> rfl
  | inr h => rw [isNilB h]; rfl
theorem F30_eq (k : Nat) (b set to : List Int) (ht : set = [] ∨ to ≠ []) (hk : b.length < k) (hk2 : set.length < k) (hb : b.length ≤ big) (hs : set.length ≤ big) (hto : to.length ≤ big) :
    F30.go k b set to = some (.inr ((((), 0, ()), ()), (b.map (tr set to), ()), ())) := by
  have loop := F30_loop k b set to ht hk hk2 hb hs hto
  unfold F30.go
  simp only [loop, Option.bind_some]
  cases ht with
  | inl h => subst h; cases (to.length : Int) == 0 <;> rfl
  | inr h => rw [isNilB h]; rfl
theorem globMaps (b set to : List Int) (h1 : isB b) (h2 : isB set) (hb : b.length ≤ big) (hs : set.length ≤ big) (hto : to.length ≤ big) :
    F9.go (b.length + set.length + 300) b set to = some ((true, ()), (), ()) := by
  have hA := awakeK (b.length + set.length)
  obtain ⟨k, hk⟩ : ∃ k, k = b.length + set.length + 300 := ⟨_, rfl⟩
  rw [← hk] at hA ⊢
  have kb : b.length < k := by omega
  have ks : set.length < k := by omega
  have k2 : 256 < k := by omega
  have k0 : 0 < k := by omega
  have d1 := delL_len set b
  have d2 := sqN_len set b b.length
  have e31 := F31_eq k b set (lend b) (lend set) 1 1 (lend_in b) (lend_in set) h1 h2 kb hb
  have e32 := F32_eq k b set (lend b) (lend set) 1 1 (lend_in b) (lend_in set) h1 h2 kb hb
  have e35 := F35_eq k set (lend set) 1 (lend_in set) h2 k2
  have e33 := F33_eq k b set kb ks hb hs
  have e34 := F34_eq k b set kb ks hb hs
  have e36 := F36_eq k set k2 ks hs
  have e17a := F17_1_eq k (delL set b) (by omega) (Nat.le_trans d1 hb)
  have e17b := F17_1_eq k (sqN set b b.length) (by omega) (Nat.le_trans d2 hb)
  have e37a := F37_eq k b hb
  have e37b := F37_eq k set hs
  unfold F9.go
  simp only [F28_eq k b kb hb, F28_eq k set ks hs, Option.bind_some]
  by_cases ht : set = [] ∨ to ≠ []
  · have e29 := F29_eq k b set to (lend b) (lend set) 1 1 ht (lend_in b) (lend_in set) h1 h2 kb hb hto
    have e30 := F30_eq k b set to ht kb ks hb hs hto
    have e17c := F17_1_eq k (b.map (tr set to)) (by rw [List.length_map]; exact kb) (by rw [List.length_map]; exact hb)
    simp only [e29, e30, Option.bind_some, Sum.elim_inr, Sum.elim_inl, e31, e32, e33, e34, e35, e36, F16_1_eq, F11.go, e17a, e17b, e17c, e37a, e37b, hA, bne_self_eq_false, Bool.not_true, cond_false, cond_true]
  · have hs0 : set ≠ [] := fun h => ht (Or.inl h)
    have ht0 : to = [] := Classical.byContradiction fun h => ht (Or.inr h)
    subst ht0
    simp only [F29_bad k 1 1 b.length set (lend b) (lend set) hs0, F30_bad k b set hs0, Option.bind_some, Sum.elim_inr, Sum.elim_inl, e31, e32, e33, e34, e35, e36, F16_eq, F16_1_eq, F11.go, F17_eq k k0, e17a, e17b, e37a, e37b, hA, bne_self_eq_false, Bool.not_true, cond_false, cond_true]
theorem isB_of_wf {l : List Int} (h : ∀ n ∈ l, (Lit.int .u8 n).wf = true) : isB l := by
  intro n hn
  have := h n hn
  have h2 : (IntKind.u8.min ≤ n ∧ n ≤ IntKind.u8.max) := by
    simpa only [Lit.wf, Bool.and_eq_true, decide_eq_true_eq] using this
  exact ⟨h2.1, Int.lt_add_one_of_le h2.2⟩
end Go.Proofs.Tryd.S

