/- The plain law: what the functions that the law compares make is the same, over lists and numbers alone. -/
import Derived.Test.YtgmmgbdohkdinaaDoorTurnsWalk2
import Derived.Test.YtgmmgbdohkdinaaDoorEv4
set_option linter.unusedVariables false
set_option linter.unusedSimpArgs false
set_option linter.unusedSectionVars false
set_option maxRecDepth 100000
namespace Go.Proofs.Tryd.S
open Go Go.Ev
theorem loopN_inr {A B : Type} {f : A → Option (A ⊕ B)} {k : Nat} {x : A} {y : B} (h : f x = some (.inr y)) : loopN f (k + 1) x = some y := by
  unfold loopN; rw [h]
theorem loopN_inl {A B : Type} {f : A → Option (A ⊕ B)} {k : Nat} {x x' : A} (h : f x = some (.inl x')) : loopN f (k + 1) x = loopN f k x' := by
  rw [loopN, h]
/-- a loop that goes through its states one by one -/
theorem loopN_iter {A B : Type} {f : A → Option (A ⊕ B)} (st : Nat → A) (n : Nat) (y : B) (h : ∀ i, i < n → f (st i) = some (.inl (st (i + 1)))) (hy : f (st n) = some (.inr y)) : ∀ k, n < k → loopN f k (st 0) = some y := by
  have key : ∀ m i k, i + m = n → m < k → loopN f k (st i) = some y := by
    intro m
    induction m with
    | zero =>
      intro i k hi hk
      obtain ⟨k, rfl⟩ : ∃ k', k = k' + 1 := ⟨k - 1, by omega⟩
      have : i = n := by omega
      subst this
      exact loopN_inr hy
    | succ m ih =>
      intro i k hi hk
      obtain ⟨k, rfl⟩ : ∃ k', k = k' + 1 := ⟨k - 1, by omega⟩
      rw [loopN_inl (h i (by omega))]
      exact ih (i + 1) k (by omega) (by omega)
  intro k hk
  exact key n 0 k (by omega) hk
theorem getD_in {α : Type} {l : List α} {i : Nat} {d : α} (h : i < l.length) : l.getD i d = l[i] := by
  simp [List.getD_eq_getElem?_getD, List.getElem?_eq_getElem h]
theorem take_succ {α : Type} {l : List α} {i : Nat} (h : i < l.length) : l.take (i + 1) = l.take i ++ [l[i]] := by
  rw [List.take_add_one, List.getElem?_eq_getElem h]; rfl
abbrev big : Nat := 140737488351232
theorem bleB {n : Nat} (h : n ≤ big) : (Nat.ble (n * 1) 140737488355328 && Nat.ble n 9223372036854775807) = true := by
  have h : n ≤ 140737488351232 := h
  rw [Nat.ble_eq_true_of_le (by omega), Nat.ble_eq_true_of_le (by omega)]; rfl
def hasL (l : List Int) (x : Int) : Bool := l.any (· == x)
theorem hasL_cons (c : Int) (r : List Int) (x : Int) : hasL (c :: r) x = (c == x || hasL r x) := rfl
def isB (l : List Int) : Prop := ∀ n ∈ l, 0 ≤ n ∧ n < 256
theorem isB_get {l : List Int} (h : isB l) {i : Nat} (hi : i < l.length) : 0 ≤ l[i] ∧ l[i] < 256 := h _ (List.getElem_mem hi)
/-- where it stands first -/
def posL (x : Int) : List Int → Int
  | [] => -1
  | c :: r => bif c == x then 0 else bif posL x r == -1 then -1 else posL x r + 1
theorem posL_cons (x c : Int) (r : List Int) : posL x (c :: r) = bif c == x then 0 else bif posL x r == -1 then -1 else posL x r + 1 := rfl
theorem posL_ge (x : Int) : ∀ l, -1 ≤ posL x l
  | [] => Int.le_refl _
  | c :: r => by
    have := posL_ge x r
    unfold posL
    cases c == x <;> simp only [cond_true, cond_false]
    · cases h : posL x r == -1 <;> simp only [cond_true, cond_false]
      · omega
      · omega
    · omega
theorem posL_has (x : Int) : ∀ l, (decide (posL x l < 0) = !hasL l x)
  | [] => rfl
  | c :: r => by
    have ih := posL_has x r
    have hg := posL_ge x r
    rw [hasL_cons]
    unfold posL
    cases hc : c == x <;> simp only [cond_true, cond_false, Bool.false_or, Bool.true_or]
    · cases h : posL x r == -1 <;> simp only [cond_true, cond_false]
      · have h' : posL x r ≠ -1 := by simpa using h
        rw [← ih]
        have a1 : ¬ posL x r + 1 < 0 := by omega
        have a2 : ¬ posL x r < 0 := by omega
        simp [a1, a2]
      · have h' : posL x r = -1 := by simpa using h
        rw [← ih, h']
    · rfl
theorem u8_eq {a b : Int} (ha : 0 ≤ a) (ha' : a < 256) (hb : 0 ≤ b) (hb' : b < 256) : (UInt8.ofNat a.toNat == b.toNat.toUInt8) = (a == b) := by
  have h1 : (UInt8.ofNat a.toNat).toNat = a.toNat := by rw [UInt8.toNat_ofNat']; omega
  have h2 : (b.toNat.toUInt8).toNat = b.toNat := by rw [Nat.toUInt8, UInt8.toNat_ofNat']; omega
  by_cases e : a = b
  · subst e; simp [Nat.toUInt8]
  · have : ¬ UInt8.ofNat a.toNat = b.toNat.toUInt8 := fun h => by
      have := congrArg UInt8.toNat h
      rw [h1, h2] at this
      omega
    rw [beq_eq_false_iff_ne.2 this, beq_eq_false_iff_ne.2 e]
theorem ix_eq (x : Int) (hx : 0 ≤ x) (hx' : x < 256) : ∀ l : List Int, isB l → ixS (strOf l) x = posL x l
  | [], _ => rfl
  | c :: r, h => by
    have ih := ix_eq x hx hx' r (fun n hn => h n (List.mem_cons_of_mem _ hn))
    have hc := h c (List.mem_cons_self ..)
    have h2 : ixS (strOf (c :: r)) x = if UInt8.ofNat c.toNat == x.toNat.toUInt8 then 0 else if ixS (strOf r) x == -1 then -1 else ixS (strOf r) x + 1 := rfl
    rw [h2, ih, u8_eq hc.1 hc.2 hx hx', posL_cons]
    cases c == x
    · cases posL x r == -1 <;> rfl
    · rfl
/-- F38: Has -/
theorem F38_eq (k : Nat) (l : List Int) (x : Int) (hk : l.length < k) (hl : l.length ≤ big) : F38.go k l x = some ((hasL l x, ()), (), ()) := by
  have key : ∀ (m i : Nat) (k' : Nat), i + m = l.length → m < k' → F38.l_26 k (((i : Int), x, l, (l.length : Int), ()), (), ()) = F38.l_26 k (((i : Int), x, l, (l.length : Int), ()), (), ()) := fun _ _ _ _ _ => rfl
  have loop : ∀ (m i fu : Nat), i + m = l.length → m < fu → loopN (F38.s26 k) fu (((i : Int), x, l, (l.length : Int), ()), (), ()) = some (if hasL (l.drop i) x then .inl ((true, ()), (), ()) else .inr ((), (), ())) := by
    intro m
    induction m with
    | zero =>
      intro i fu hi hf
      obtain ⟨fu, rfl⟩ : ∃ f', fu = f' + 1 := ⟨fu - 1, by omega⟩
      have hd : l.drop i = [] := List.drop_eq_nil_of_le (by omega)
      refine loopN_inr ?_
      have e : decide ((i : Int) < (l.length : Int)) = false := by simp; omega
      simp only [F38.s26, F38.go26, e, cond_false, hd]
      rfl
    | succ m ih =>
      intro i fu hi hf
      obtain ⟨fu, rfl⟩ : ∃ f', fu = f' + 1 := ⟨fu - 1, by omega⟩
      have hil : i < l.length := by omega
      have e1 : decide ((i : Int) < (l.length : Int)) = true := by simp; omega
      have e2 : (decide ((0 : Int) ≤ (i : Int)) && decide ((i : Int) < (l.length : Int))) = true := by simp; omega
      have hdr : l.drop i = l[i] :: l.drop (i + 1) := List.drop_eq_getElem_cons hil
      have hb : l.length ≤ 140737488351232 := hl
      cases hc : (l[i] == x)
      · rw [loopN_inl (x' := ((((i + 1 : Nat) : Int), x, l, (l.length : Int), ()), (), ()))]
        · rw [ih (i + 1) fu (by omega) (by omega), hdr, hasL_cons, hc, Bool.false_or]
        · simp only [F38.s26, F38.go26, e1, e2, cond_true, Int.toNat_natCast, getD_in hil, hc, cond_false]
          rw [wrap_id (by omega) (by omega)]; rfl
      · refine loopN_inr ?_
        simp only [F38.s26, F38.go26, e1, e2, cond_true, Int.toNat_natCast, getD_in hil, hc]
        rw [hdr, hasL_cons, hc]; rfl
  have := loop l.length 0 k (by omega) hk
  unfold F38.go F38.l_26
  have e0 : ((0 : Nat) : Int) = 0 := rfl
  rw [e0] at this
  rw [this, List.drop_zero]
  cases hasL l x <;> rfl
theorem lt_dec {i n : Nat} (h : i < n) : decide ((i : Int) < (n : Int)) = true := by simp; omega
theorem lt_dec' {n : Nat} : decide ((n : Int) < (n : Int)) = false := by simp
theorem in_dec {i n : Nat} (h : i < n) : (decide ((0 : Int) ≤ (i : Int)) && decide ((i : Int) < (n : Int))) = true := by simp; omega
theorem wrap1 {i : Nat} (h : i ≤ big) : IntKind.i64.wrap ((i : Int) + 1) = ((i + 1 : Nat) : Int) := by
  have h : i ≤ 140737488351232 := h
  rw [wrap_id (by omega) (by omega)]; rfl
theorem wrapm1 {i : Nat} (h : i ≤ big) (h0 : 0 < i) : IntKind.i64.wrap ((i : Int) - 1) = ((i - 1 : Nat) : Int) := by
  have h : i ≤ 140737488351232 := h
  rw [wrap_id (by omega) (by omega)]; omega
def delL (set l : List Int) : List Int := l.filter fun x => !hasL set x
theorem delL_len (set l : List Int) : (delL set l).length ≤ l.length := List.length_filter_le _ _
theorem delL_take (set : List Int) {l : List Int} {i : Nat} (h : i < l.length) : delL set (l.take (i + 1)) = bif hasL set l[i] then delL set (l.take i) else delL set (l.take i) ++ [l[i]] := by
  unfold delL
  rw [take_succ h, List.filter_append]
  cases hh : hasL set l[i] <;> simp [hh]
def keepN (set b : List Int) (i : Nat) : Bool := Nat.beq i 0 || (b.getD (i - 1) 0 != b.getD i 0 || !hasL set (b.getD i 0))
def sqN (set b : List Int) : Nat → List Int
  | 0 => []
  | i + 1 => bif keepN set b i then sqN set b i ++ [b.getD i 0] else sqN set b i
theorem sqN_len (set b : List Int) : ∀ i, (sqN set b i).length ≤ i
  | 0 => Nat.le_refl _
  | i + 1 => by
    have := sqN_len set b i
    unfold sqN
    cases keepN set b i
    · exact Nat.le_succ_of_le this
    · simp only [cond_true, List.length_append, List.length_singleton]; omega
theorem sq_ble {set b : List Int} {i : Nat} (hi : i < b.length) (hb : b.length ≤ big) (x : Int) : (sqN set b i ++ [x]).length ≤ big := by
  have := sqN_len set b i
  rw [List.length_append, List.length_singleton]
  have hb' : b.length ≤ 140737488351232 := hb
  show _ ≤ 140737488351232
  omega
theorem bne_comm' (a b : Int) : (a != b) = (b != a) := by
  by_cases h : a = b
  · subst h; rfl
  · have h' : ¬ b = a := fun e => h e.symm
    simp [bne, beq_eq_false_iff_ne.2 h, beq_eq_false_iff_ne.2 h']
def coN (set : List Int) : Nat → List Int
  | 0 => []
  | i + 1 => bif hasL set (i : Int) then coN set i else coN set i ++ [(i : Int)]
theorem coN_len (set : List Int) : ∀ i, (coN set i).length ≤ i
  | 0 => Nat.le_refl _
  | i + 1 => by
    have := coN_len set i
    unfold coN
    cases hasL set (i : Int)
    · simp only [cond_false, List.length_append, List.length_singleton]; omega
    · exact Nat.le_succ_of_le this
theorem wrap8 {i : Nat} (h : i < 256) : IntKind.u8.wrap (i : Int) = (i : Int) := by
  unfold IntKind.wrap
  simp [IntKind.bits, IntKind.signed]
  omega
theorem lt256 {i : Nat} (h : i < 256) : decide ((i : Int) < 256) = true := by simp; omega
theorem co_ble {set : List Int} {i : Nat} (h : i < 256) (x : Int) : (coN set i ++ [x]).length ≤ big := by
  have := coN_len set i
  rw [List.length_append, List.length_singleton]
  show _ ≤ 140737488351232
  omega
def trF (to : List Int) (c d : Int) : List Int → Nat → Int
  | [], _ => d
  | s :: r, p => bif s == c then to.getD (min p (to.length - 1)) 0 else trF to c d r (p + 1)
theorem posL_no (x : Int) (r : List Int) : (posL x r == -1) = !decide (posL x r ≥ 0) := by
  have := posL_ge x r
  by_cases h : posL x r = -1
  · rw [h]; rfl
  · have h1 : (posL x r == -1) = false := by simp [h]
    have h2 : decide (posL x r ≥ 0) = true := decide_eq_true (by omega)
    rw [h1, h2]; rfl
theorem trF_pos (to : List Int) (c d : Int) : ∀ (set : List Int) (p : Nat), trF to c d set p = bif decide (posL c set ≥ 0) then to.getD (min (p + (posL c set).toNat) (to.length - 1)) 0 else d
  | [], p => rfl
  | s :: r, p => by
    rw [trF, posL_cons, posL_no, trF_pos to c d r (p + 1)]
    cases s == c
    · by_cases h : posL c r ≥ 0
      · have h2 : decide (posL c r ≥ 0) = true := decide_eq_true h
        have h3 : decide (posL c r + 1 ≥ 0) = true := decide_eq_true (by omega)
        have h4 : p + (posL c r + 1).toNat = p + 1 + (posL c r).toNat := by omega
        simp only [h2, h3, h4, Bool.not_true, cond_false, cond_true]
      · have h2 : decide (posL c r ≥ 0) = false := decide_eq_false h
        simp only [h2, Bool.not_false, cond_false, cond_true]
        rfl
    · rfl
def tr (set to : List Int) (c : Int) : Int := trF to c c set 0
def fillT (g : Int → Int) (b : List Int) (i : Nat) : List Int := (b.take i).map g ++ List.replicate (b.length - i) 0
theorem fillT_len {g : Int → Int} {b : List Int} {i : Nat} (h : i ≤ b.length) : (fillT g b i).length = b.length := by
  have e : (b.take i).length = i := by rw [List.length_take]; omega
  rw [fillT, List.length_append, List.length_map, e, List.length_replicate]; omega
theorem fillT_set {g : Int → Int} {b : List Int} {i : Nat} (h : i < b.length) : (fillT g b i).set i (g b[i]) = fillT g b (i + 1) := by
  have e : b.length - i = (b.length - (i + 1)) + 1 := by omega
  have hl : ((b.take i).map g).length = i := by rw [List.length_map, List.length_take]; omega
  rw [fillT, fillT, take_succ h, List.set_append_right _ _ (by omega), hl, Nat.sub_self, e, List.replicate_succ, List.map_append, List.append_assoc]
  rfl
theorem fillT_end (g : Int → Int) (b : List Int) : fillT g b b.length = b.map g := by simp [fillT]
theorem dec0 (p : Nat) : decide ((0 : Int) ≤ (p : Int)) = true := decide_eq_true (by omega)
theorem awakeK (k : Nat) : F12.go (k + 300) = some ((true, ()), (), ()) := by kernel_rfl
theorem isNilB {l : List Int} (h : l ≠ []) : ((l.length : Int) == 0) = false := by
  cases l with
  | nil => exact absurd rfl h
  | cons x r => simp; omega
theorem F16_1_eq (k : Nat) (l : List Int) : F16_1.go k l l = some ((true, ()), (l, l, ()), ()) := by
  unfold F16_1.go; rw [beq_self_eq_true]
theorem rowOK {n : Nat} (h : n ≤ big) : (decide ((0 : Int) ≤ (n : Int)) && (decide ((n : Int) ≤ (n : Int)) && (decide (1 * (n : Int) ≤ 281474976710656) && (decide ((n : Int) ≤ 9223372036854775807) && true)))) = true := by
  have h' : n ≤ 140737488351232 := h
  rw [decide_eq_true (by omega), decide_eq_true (by omega), decide_eq_true (by omega), decide_eq_true (by omega)]; rfl
theorem F35_1_eq (k : Nat) (set : List Int) (h2 : isB set) (hk : 256 < k) : F35_1.go k set = some (((), ()), (coN set 256, ()), ()) := by
  have loop := loopN_iter (f := F35_1.s58 k) (fun i => (((i : Int), (), set, ()), (coN set i, ()), ())) 256 (((), ()), (coN set 256, ()), ()) (fun i hi => ?_) ?_ k hk
  · unfold F35_1.go F35_1.l_58
    have e0 : ((0 : Nat) : Int) = 0 := rfl
    have e1 : coN set 0 = [] := rfl
    simp only [e0, e1] at loop
    rw [loop]; rfl
  · simp only [F35_1.s58, F35_1.go58, lt256 hi, cond_true, wrap8 hi, F57_1.go, ix_eq (i : Int) (by omega) (by omega) set h2, Option.bind_some, posL_has, bleB (co_ble hi _)]
    rw [wrap1 (by show i ≤ 140737488351232; omega)]
    rw [coN]
    cases hasL set (i : Int) <;> rfl
  · rfl
theorem F35_2_eq (k : Nat) (set : List Int) (h2 : isB set) (hk : 256 < k) : F35_2.go k set = some (((), ()), (set, coN set 256, ()), ()) := by
  have loop := loopN_iter (f := F35_2.s58 k) (fun i => (((i : Int), (), (), ()), (set, coN set i, ()), ())) 256 (((), ()), (set, coN set 256, ()), ()) (fun i hi => ?_) ?_ k hk
  · unfold F35_2.go F35_2.l_58
    have e0 : ((0 : Nat) : Int) = 0 := rfl
    have e1 : coN set 0 = [] := rfl
    simp only [e0, e1] at loop
    rw [loop]; rfl
  · simp only [F35_2.s58, F35_2.go58, lt256 hi, cond_true, wrap8 hi, F57_2.go, ix_eq (i : Int) (by omega) (by omega) set h2, Option.bind_some, posL_has, bleB (co_ble hi _)]
    rw [wrap1 (by show i ≤ 140737488351232; omega)]
    rw [coN]
    cases hasL set (i : Int) <;> rfl
  · rfl
/-- what the complement holds -/
theorem hasL_append (a b : List Int) (x : Int) : hasL (a ++ b) x = (hasL a x || hasL b x) := List.any_append
theorem coN_has (set : List Int) (x : Int) : ∀ i : Nat, hasL (coN set i) x = (decide (0 ≤ x) && (decide (x < (i : Int)) && !hasL set x))
  | 0 => by
    by_cases h : 0 ≤ x
    · have : decide (x < ((0 : Nat) : Int)) = false := decide_eq_false (by omega)
      rw [this, Bool.false_and, Bool.and_false]; rfl
    · rw [decide_eq_false h, Bool.false_and]; rfl
  | i + 1 => by
    have ih := coN_has set x i
    by_cases hx : x = (i : Int)
    · subst hx
      have h0 : decide ((0 : Int) ≤ (i : Int)) = true := decide_eq_true (by omega)
      have h1 : decide ((i : Int) < ((i + 1 : Nat) : Int)) = true := decide_eq_true (by omega)
      have h2 : decide ((i : Int) < (i : Int)) = false := decide_eq_false (by omega)
      rw [h0, h2] at ih
      rw [h0, h1, coN]
      cases h : hasL set (i : Int)
      · rw [cond_false, hasL_append]; simp [hasL]
      · rw [cond_true, ih]; rfl
    · have h1 : decide (x < ((i + 1 : Nat) : Int)) = decide (x < (i : Int)) := by
        by_cases h : x < (i : Int)
        · rw [decide_eq_true h, decide_eq_true (by omega)]
        · rw [decide_eq_false h, decide_eq_false (by omega)]
      rw [h1, ← ih, coN]
      cases hasL set (i : Int)
      · rw [cond_false, hasL_append]
        have : hasL [(i : Int)] x = false := by simp [hasL]; exact fun e => hx e.symm
        rw [this, Bool.or_false]
      · rfl
theorem F31_1_eq (k : Nat) (b set : List Int) (h1 : isB b) (h2 : isB set) (hk : b.length < k) (hb : b.length ≤ big) : F31_1.go k b set = some (((), ()), (delL set b, ()), ()) := by
  have loop := loopN_iter (f := F31_1.s58 k) (fun i => (((i : Int), (), set, b, (b.length : Int), ()), (delL set (b.take i), ()), ())) b.length (((), ()), (delL set b, ()), ()) (fun i hi => ?_) ?_ k hk
  · unfold F31_1.go F31_1.l_58
    have e0 : ((0 : Nat) : Int) = 0 := rfl
    have e1 : delL set (b.take 0) = [] := rfl
    simp only [e0, e1] at loop
    rw [loop]; rfl
  · have hx := isB_get h1 hi
    simp only [F31_1.s58, F31_1.go58, lt_dec hi, in_dec hi, dec0, Bool.true_and, cond_true, Int.toNat_natCast, getD_in hi, F57_1.go, ix_eq _ hx.1 hx.2 set h2, Option.bind_some, posL_has]
    have hl : (delL set (b.take i) ++ [b[i]]).length ≤ big := by
      have := delL_len set (b.take i)
      rw [List.length_take] at this
      rw [List.length_append, List.length_singleton]
      have hb' : b.length ≤ 140737488351232 := hb
      show _ ≤ 140737488351232
      omega
    rw [delL_take set hi, wrap1 (Nat.le_trans (Nat.le_of_lt hi) hb)]
    cases hasL set b[i]
    · simp only [Bool.not_false, cond_true, bleB hl]; rfl
    · rfl
  · simp only [F31_1.s58, F31_1.go58, lt_dec', cond_false, List.take_length]
theorem F31_2_eq (k : Nat) (b set : List Int) (h1 : isB b) (h2 : isB set) (hk : b.length < k) (hb : b.length ≤ big) : F31_2.go k set b = some (((), ()), (b, delL set b, ()), ()) := by
  have loop := loopN_iter (f := F31_2.s58 k) (fun i => (((i : Int), (), set, (), (b.length : Int), ()), (b, delL set (b.take i), ()), ())) b.length (((), ()), (b, delL set b, ()), ()) (fun i hi => ?_) ?_ k hk
  · unfold F31_2.go F31_2.l_58
    have e0 : ((0 : Nat) : Int) = 0 := rfl
    have e1 : delL set (b.take 0) = [] := rfl
    simp only [e0, e1] at loop
    rw [loop]; rfl
  · have hx := isB_get h1 hi
    simp only [F31_2.s58, F31_2.go58, lt_dec hi, in_dec hi, dec0, Bool.true_and, cond_true, Int.toNat_natCast, getD_in hi, F57_1.go, ix_eq _ hx.1 hx.2 set h2, Option.bind_some, posL_has]
    have hl : (delL set (b.take i) ++ [b[i]]).length ≤ big := by
      have := delL_len set (b.take i)
      rw [List.length_take] at this
      rw [List.length_append, List.length_singleton]
      have hb' : b.length ≤ 140737488351232 := hb
      show _ ≤ 140737488351232
      omega
    rw [delL_take set hi, wrap1 (Nat.le_trans (Nat.le_of_lt hi) hb)]
    cases hasL set b[i]
    · simp only [Bool.not_false, cond_true, bleB hl]; rfl
    · rfl
  · simp only [F31_2.s58, F31_2.go58, lt_dec', cond_false, List.take_length]
theorem F32_1_eq (k : Nat) (b set : List Int) (h1 : isB b) (h2 : isB set) (hk : b.length < k) (hb : b.length ≤ big) : F32_1.go k b set = some (((), ()), (sqN set b b.length, ()), ()) := by
  have loop := loopN_iter (f := F32_1.s58 k) (fun i => ((((i : Int)), (), set, b, b, (b.length : Int), ()), (sqN set b i, ()), ())) b.length (((), ()), (sqN set b b.length, ()), ()) (fun i hi => ?_) ?_ k hk
  · unfold F32_1.go F32_1.l_58
    have e0 : ((0 : Nat) : Int) = 0 := rfl
    have e1 : sqN set b 0 = [] := rfl
    simp only [e0, e1] at loop
    rw [loop]; rfl
  · have hl := fun x => sq_ble (set := set) hi hb x
    have hx : 0 ≤ b.getD i 0 ∧ b.getD i 0 < 256 := by rw [getD_in hi]; exact isB_get h1 hi
    simp only [F32_1.s58, F32_1.go58, lt_dec hi, in_dec hi, dec0, Bool.true_and, cond_true, Int.toNat_natCast, F57_1.go, ix_eq _ hx.1 hx.2 set h2, Option.bind_some, posL_has, bleB (hl _)]
    rw [wrap1 (Nat.le_trans (Nat.le_of_lt hi) hb)]
    cases i with
    | zero => rfl
    | succ j =>
      have hz : (((j + 1 : Nat) : Int) == 0) = false := by simp; omega
      have hw : IntKind.i64.wrap (((j + 1 : Nat) : Int) - 1) = (j : Int) := by rw [wrapm1 (Nat.le_trans (Nat.le_of_lt hi) hb) (by omega)]; rfl
      have hj : j < b.length := by omega
      simp only [hz, cond_false, hw, in_dec hj, lt_dec hj, dec0, Bool.true_and, cond_true, Int.toNat_natCast]
      have hk : keepN set b (j + 1) = (b.getD j 0 != b.getD (j + 1) 0 || !hasL set (b.getD (j + 1) 0)) := rfl
      have he : sqN set b ((j + 1) + 1) = (bif keepN set b (j + 1) then sqN set b (j + 1) ++ [b.getD (j + 1) 0] else sqN set b (j + 1)) := rfl
      show _ = some (Sum.inl ((((((j + 1) + 1 : Nat) : Int)), (), set, b, b, (b.length : Int), ()), (sqN set b ((j + 1) + 1), ()), ()))
      rw [he, hk, bne_comm' (b.getD j 0)]
      generalize sqN set b (j + 1) = Q
      cases b.getD (j + 1) 0 != b.getD j 0
      · cases hasL set (b.getD (j + 1) 0) <;> rfl
      · rfl
  · simp only [F32_1.s58, F32_1.go58, lt_dec', cond_false]
theorem F32_2_eq (k : Nat) (b set : List Int) (h1 : isB b) (h2 : isB set) (hk : b.length < k) (hb : b.length ≤ big) : F32_2.go k set b = some (((), ()), (b, sqN set b b.length, ()), ()) := by
  have loop := loopN_iter (f := F32_2.s58 k) (fun i => ((((i : Int)), (), set, (), (), (b.length : Int), ()), (b, sqN set b i, ()), ())) b.length (((), ()), (b, sqN set b b.length, ()), ()) (fun i hi => ?_) ?_ k hk
  · unfold F32_2.go F32_2.l_58
    have e0 : ((0 : Nat) : Int) = 0 := rfl
    have e1 : sqN set b 0 = [] := rfl
    simp only [e0, e1] at loop
    rw [loop]; rfl
  · have hl := fun x => sq_ble (set := set) hi hb x
    have hx : 0 ≤ b.getD i 0 ∧ b.getD i 0 < 256 := by rw [getD_in hi]; exact isB_get h1 hi
    simp only [F32_2.s58, F32_2.go58, lt_dec hi, in_dec hi, dec0, Bool.true_and, cond_true, Int.toNat_natCast, F57_1.go, ix_eq _ hx.1 hx.2 set h2, Option.bind_some, posL_has, bleB (hl _)]
    rw [wrap1 (Nat.le_trans (Nat.le_of_lt hi) hb)]
    cases i with
    | zero => rfl
    | succ j =>
      have hz : (((j + 1 : Nat) : Int) == 0) = false := by simp; omega
      have hw : IntKind.i64.wrap (((j + 1 : Nat) : Int) - 1) = (j : Int) := by rw [wrapm1 (Nat.le_trans (Nat.le_of_lt hi) hb) (by omega)]; rfl
      have hj : j < b.length := by omega
      simp only [hz, cond_false, hw, in_dec hj, lt_dec hj, dec0, Bool.true_and, cond_true, Int.toNat_natCast]
      have hk : keepN set b (j + 1) = (b.getD j 0 != b.getD (j + 1) 0 || !hasL set (b.getD (j + 1) 0)) := rfl
      have he : sqN set b ((j + 1) + 1) = (bif keepN set b (j + 1) then sqN set b (j + 1) ++ [b.getD (j + 1) 0] else sqN set b (j + 1)) := rfl
      show _ = some (Sum.inl ((((((j + 1) + 1 : Nat) : Int)), (), set, (), (), (b.length : Int), ()), (b, sqN set b ((j + 1) + 1), ()), ()))
      rw [he, hk, bne_comm' (b.getD j 0)]
      generalize sqN set b (j + 1) = Q
      cases b.getD (j + 1) 0 != b.getD j 0
      · cases hasL set (b.getD (j + 1) 0) <;> rfl
      · rfl
  · simp only [F32_2.s58, F32_2.go58, lt_dec', cond_false]
theorem F29_1_loop (k : Nat) (b set to : List Int) (ht : set = [] ∨ to ≠ []) (h1 : isB b) (h2 : isB set) (hk : b.length < k) (hb : b.length ≤ big) (hto : to.length ≤ big) :
    F29_1.l_122 k (((0), (), (), (), b, (b.length : Int), ()), (set, to, List.replicate b.length 0, ()), ()) = some (((), ()), (set, to, b.map (tr set to), ()), ()) := by
  have loop := loopN_iter (f := F29_1.s122 k) (fun i => ((((i : Int)), (), (), (), b, (b.length : Int), ()), (set, to, fillT (tr set to) b i, ()), ())) b.length (((), ()), (set, to, b.map (tr set to), ()), ()) (fun i hi => ?_) ?_ k hk
  · unfold F29_1.l_122
    have e0 : ((0 : Nat) : Int) = 0 := rfl
    have e1 : fillT (tr set to) b 0 = List.replicate b.length 0 := by simp [fillT]
    simp only [e0, e1] at loop
    exact loop
  · have hi' : i ≤ big := Nat.le_trans (Nat.le_of_lt hi) hb
    have hx : 0 ≤ b[i] ∧ b[i] < 256 := isB_get h1 hi
    have hset := fillT_set (g := tr set to) hi
    simp only [F29_1.s122, F29_1.go122, lt_dec hi, dec0, Bool.true_and, cond_true, Int.toNat_natCast, getD_in hi, F57_2.go, ix_eq _ hx.1 hx.2 set h2, Option.bind_some, fillT_len (Nat.le_of_lt hi), wrap1 hi']
    rw [← hset, tr, trF_pos, Nat.zero_add]
    by_cases h : posL b[i] set ≥ 0
    · have hto0 : 0 < to.length := by
        cases ht with
        | inl h => subst h; exact absurd h (show ¬ ((-1 : Int) ≥ 0) by decide)
        | inr h => exact List.length_pos_iff.2 h
      have h3 : decide (posL b[i] set ≥ 0) = true := decide_eq_true h
      obtain ⟨m, hm⟩ : ∃ m : Nat, posL b[i] set = m := ⟨_, (Int.toNat_of_nonneg h).symm⟩
      have h4 : (bif decide (((to.length - 1 : Nat) : Int) < (m : Int)) then ((to.length - 1 : Nat) : Int) else (m : Int)) = ((min m (to.length - 1) : Nat) : Int) := by
        by_cases h5 : to.length - 1 < m
        · rw [decide_eq_true (by omega)]; simp only [cond_true]; omega
        · rw [decide_eq_false (by omega)]; simp only [cond_false]; omega
      have h7 : decide (((min m (to.length - 1) : Nat) : Int) < (to.length : Int)) = true := decide_eq_true (by omega)
      rw [hm] at h3 ⊢
      simp only [h3, wrapm1 hto hto0, h4, dec0, h7, Bool.true_and, cond_true, Int.toNat_natCast]
    · have h3 : decide (posL b[i] set ≥ 0) = false := decide_eq_false h
      simp only [h3, cond_false]
  · simp only [F29_1.s122, F29_1.go122, lt_dec', cond_false, fillT_end]
theorem F29_1_eq (k : Nat) (b set to : List Int) (ht : set = [] ∨ to ≠ []) (h1 : isB b) (h2 : isB set) (hk : b.length < k) (hb : b.length ≤ big) (hto : to.length ≤ big) :
    F29_1.go k b set to = some (.inr ((((), 0, ()), ()), (set, to, b.map (tr set to), ()), ())) := by
  have loop := F29_1_loop k b set to ht h1 h2 hk hb hto
  unfold F29_1.go
  rw [rowOK hb]
  simp only [Int.toNat_natCast, loop, Option.bind_some, cond_true]
  cases ht with
  | inl h => subst h; cases (to.length : Int) == 0 <;> rfl
  | inr h => rw [isNilB h]; rfl
theorem F29_2_loop (k : Nat) (b set to : List Int) (ht : set = [] ∨ to ≠ []) (h1 : isB b) (h2 : isB set) (hk : b.length < k) (hb : b.length ≤ big) (hto : to.length ≤ big) :
    F29_2.l_122 k (((0), (), (), (), (), (b.length : Int), ()), (b, set, to, List.replicate b.length 0, ()), ()) = some (((), ()), (b, set, to, b.map (tr set to), ()), ()) := by
  have loop := loopN_iter (f := F29_2.s122 k) (fun i => ((((i : Int)), (), (), (), (), (b.length : Int), ()), (b, set, to, fillT (tr set to) b i, ()), ())) b.length (((), ()), (b, set, to, b.map (tr set to), ()), ()) (fun i hi => ?_) ?_ k hk
  · unfold F29_2.l_122
    have e0 : ((0 : Nat) : Int) = 0 := rfl
    have e1 : fillT (tr set to) b 0 = List.replicate b.length 0 := by simp [fillT]
    simp only [e0, e1] at loop
    exact loop
  · have hi' : i ≤ big := Nat.le_trans (Nat.le_of_lt hi) hb
    have hx : 0 ≤ b[i] ∧ b[i] < 256 := isB_get h1 hi
    have hset := fillT_set (g := tr set to) hi
    simp only [F29_2.s122, F29_2.go122, lt_dec hi, dec0, Bool.true_and, cond_true, Int.toNat_natCast, getD_in hi, F57_2.go, ix_eq _ hx.1 hx.2 set h2, Option.bind_some, fillT_len (Nat.le_of_lt hi), wrap1 hi']
    rw [← hset, tr, trF_pos, Nat.zero_add]
    by_cases h : posL b[i] set ≥ 0
    · have hto0 : 0 < to.length := by
        cases ht with
        | inl h => subst h; exact absurd h (show ¬ ((-1 : Int) ≥ 0) by decide)
        | inr h => exact List.length_pos_iff.2 h
      have h3 : decide (posL b[i] set ≥ 0) = true := decide_eq_true h
      obtain ⟨m, hm⟩ : ∃ m : Nat, posL b[i] set = m := ⟨_, (Int.toNat_of_nonneg h).symm⟩
      have h4 : (bif decide (((to.length - 1 : Nat) : Int) < (m : Int)) then ((to.length - 1 : Nat) : Int) else (m : Int)) = ((min m (to.length - 1) : Nat) : Int) := by
        by_cases h5 : to.length - 1 < m
        · rw [decide_eq_true (by omega)]; simp only [cond_true]; omega
        · rw [decide_eq_false (by omega)]; simp only [cond_false]; omega
      have h7 : decide (((min m (to.length - 1) : Nat) : Int) < (to.length : Int)) = true := decide_eq_true (by omega)
      rw [hm] at h3 ⊢
      simp only [h3, wrapm1 hto hto0, h4, dec0, h7, Bool.true_and, cond_true, Int.toNat_natCast]
    · have h3 : decide (posL b[i] set ≥ 0) = false := decide_eq_false h
      simp only [h3, cond_false]
  · simp only [F29_2.s122, F29_2.go122, lt_dec', cond_false, fillT_end]
theorem F29_2_eq (k : Nat) (b set to : List Int) (ht : set = [] ∨ to ≠ []) (h1 : isB b) (h2 : isB set) (hk : b.length < k) (hb : b.length ≤ big) (hto : to.length ≤ big) :
    F29_2.go k b set to = some (.inr ((((), 0, ()), ()), (b, set, to, b.map (tr set to), ()), ())) := by
  have loop := F29_2_loop k b set to ht h1 h2 hk hb hto
  unfold F29_2.go
  rw [rowOK hb]
  simp only [Int.toNat_natCast, loop, Option.bind_some, cond_true]
  cases ht with
  | inl h => subst h; cases (to.length : Int) == 0 <;> rfl
  | inr h => rw [isNilB h]; rfl
/-- F38_1: Has, the row carried along -/
theorem F38_1_eq (k : Nat) (x : Int) (l : List Int) (hk : l.length < k) (hl : l.length ≤ big) : F38_1.go k x l = some ((hasL l x, ()), (l, ()), ()) := by
  have loop : ∀ (m i fu : Nat), i + m = l.length → m < fu → loopN (F38_1.s26 k) fu (((i : Int), x, (), (l.length : Int), ()), (l, ()), ()) = some (if hasL (l.drop i) x then .inl ((true, ()), (l, ()), ()) else .inr ((), (l, ()), ())) := by
    intro m
    induction m with
    | zero =>
      intro i fu hi hf
      obtain ⟨fu, rfl⟩ : ∃ f', fu = f' + 1 := ⟨fu - 1, by omega⟩
      have hd : l.drop i = [] := List.drop_eq_nil_of_le (by omega)
      refine loopN_inr ?_
      have e : decide ((i : Int) < (l.length : Int)) = false := by simp; omega
      simp only [F38_1.s26, F38_1.go26, e, cond_false, hd]
      rfl
    | succ m ih =>
      intro i fu hi hf
      obtain ⟨fu, rfl⟩ : ∃ f', fu = f' + 1 := ⟨fu - 1, by omega⟩
      have hil : i < l.length := by omega
      have e1 : decide ((i : Int) < (l.length : Int)) = true := by simp; omega
      have e2 : (decide ((0 : Int) ≤ (i : Int)) && decide ((i : Int) < (l.length : Int))) = true := by simp; omega
      have hdr : l.drop i = l[i] :: l.drop (i + 1) := List.drop_eq_getElem_cons hil
      have hb : l.length ≤ 140737488351232 := hl
      cases hc : (l[i] == x)
      · rw [loopN_inl (x' := ((((i + 1 : Nat) : Int), x, (), (l.length : Int), ()), (l, ()), ()))]
        · rw [ih (i + 1) fu (by omega) (by omega), hdr, hasL_cons, hc, Bool.false_or]
        · simp only [F38_1.s26, F38_1.go26, e1, e2, cond_true, Int.toNat_natCast, getD_in hil, hc, cond_false]
          rw [wrap_id (by omega) (by omega)]; rfl
      · refine loopN_inr ?_
        simp only [F38_1.s26, F38_1.go26, e1, e2, cond_true, Int.toNat_natCast, getD_in hil, hc]
        rw [hdr, hasL_cons, hc]; rfl
  have := loop l.length 0 k (by omega) hk
  unfold F38_1.go F38_1.l_26
  have e0 : ((0 : Nat) : Int) = 0 := rfl
  rw [e0] at this
  rw [this, List.drop_zero]
  cases hasL l x <;> rfl
theorem delL_twice (set b : List Int) : delL set (delL set b) = delL set b := by
  unfold delL; rw [List.filter_filter]; congr 1; funext x; cases hasL set x <;> rfl
def goodS (set l : List Int) : Prop := ∀ i, i < l.length → keepN set l i = true
theorem sqN_good {set l : List Int} (h : goodS set l) : ∀ i, i ≤ l.length → sqN set l i = l.take i
  | 0, _ => rfl
  | i + 1, hi => by
    rw [sqN, h i hi, cond_true, sqN_good h i (Nat.le_of_lt hi), take_succ hi, getD_in hi]
theorem getD_l {l : List Int} {x : Int} {i : Nat} (h : i < l.length) : (l ++ [x]).getD i 0 = l.getD i 0 := by
  simp only [List.getD_eq_getElem?_getD, List.getElem?_append_left h]
theorem getD_last {l : List Int} {x : Int} : (l ++ [x]).getD l.length 0 = x := by
  simp [List.getD_eq_getElem?_getD]
theorem goodS_snoc {set l : List Int} {x : Int} (h : goodS set l) (hx : l = [] ∨ (l.getD (l.length - 1) 0 != x || !hasL set x) = true) : goodS set (l ++ [x]) := by
  intro i hi
  rw [List.length_append, List.length_singleton] at hi
  by_cases hl : i < l.length
  · have := h i hl
    unfold keepN at this ⊢
    rw [getD_l hl, getD_l (by omega)]; exact this
  · have e : i = l.length := by omega
    subst e
    cases hx with
    | inl h0 => subst h0; rfl
    | inr h1 =>
      by_cases h0 : l.length = 0
      · unfold keepN; rw [h0]; rfl
      · unfold keepN
        rw [getD_last, getD_l (by omega), h1, Bool.or_true]
theorem sqN_inv (set b : List Int) : ∀ i, goodS set (sqN set b i) ∧ (0 < i → ∃ Q, sqN set b i = Q ++ [b.getD (i - 1) 0])
  | 0 => ⟨fun i hi => absurd hi (Nat.not_lt_zero _), fun h => absurd h (Nat.lt_irrefl _)⟩
  | i + 1 => by
    obtain ⟨hg, hq⟩ := sqN_inv set b i
    cases hk : keepN set b i
    · rw [sqN, hk, cond_false]
      refine ⟨hg, fun _ => ?_⟩
      by_cases h0 : i = 0
      · subst h0; exact absurd hk (by unfold keepN; simp)
      · obtain ⟨Q, hQ⟩ := hq (by omega)
        refine ⟨Q, ?_⟩
        rw [hQ]
        unfold keepN at hk
        simp only [Bool.or_eq_false_iff, bne_eq_false_iff_eq] at hk
        show Q ++ [b.getD (i - 1) 0] = Q ++ [b.getD i 0]
        rw [hk.2.1]
    · rw [sqN, hk, cond_true]
      refine ⟨goodS_snoc hg ?_, fun _ => ⟨_, rfl⟩⟩
      by_cases h0 : i = 0
      · subst h0; exact Or.inl rfl
      · obtain ⟨Q, hQ⟩ := hq (by omega)
        right
        rw [hQ]
        have e : (Q ++ [b.getD (i - 1) 0]).length - 1 = Q.length := by simp
        rw [e, getD_last]
        unfold keepN at hk
        have hb : Nat.beq i 0 = false := by cases i with | zero => exact absurd rfl h0 | succ j => rfl
        rw [hb, Bool.false_or] at hk
        exact hk
theorem sqN_twice (set b : List Int) (n : Nat) : sqN set (sqN set b n) (sqN set b n).length = sqN set b n := by
  rw [sqN_good (sqN_inv set b n).1 _ (Nat.le_refl _), List.take_length]
theorem hasL_isB {l : List Int} (h : isB l) (x : Int) (hx : hasL l x = true) : 0 ≤ x ∧ x < 256 := by
  unfold hasL at hx
  rw [List.any_eq_true] at hx
  obtain ⟨y, hy, he⟩ := hx
  have : y = x := by simpa using he
  subst this
  exact h y hy
theorem coN_lt (set : List Int) : ∀ i : Nat, ∀ x ∈ coN set i, 0 ≤ x ∧ x < (i : Int)
  | 0 => fun x hx => absurd hx (by simp [coN])
  | i + 1 => fun x hx => by
    unfold coN at hx
    cases h : hasL set (i : Int)
    · rw [h, cond_false, List.mem_append, List.mem_singleton] at hx
      cases hx with
      | inl h1 => have := coN_lt set i x h1; omega
      | inr h1 => omega
    · rw [h, cond_true] at hx
      have := coN_lt set i x hx; omega
theorem coN_sorted (set : List Int) : ∀ i : Nat, (coN set i).Pairwise (· < ·)
  | 0 => List.Pairwise.nil
  | i + 1 => by
    unfold coN
    cases h : hasL set (i : Int)
    · rw [cond_false, List.pairwise_append]
      refine ⟨coN_sorted set i, List.pairwise_singleton .., fun a ha b hb => ?_⟩
      rw [List.mem_singleton] at hb
      have := coN_lt set i a ha; omega
    · exact coN_sorted set i
theorem coN_isB (set : List Int) : isB (coN set 256) := fun n hn => by have := coN_lt set 256 n hn; omega
theorem co_sum (set : List Int) : ∀ i : Nat, i ≤ 256 → (coN set i).length + (coN (coN set 256) i).length = i
  | 0, _ => rfl
  | i + 1, hi => by
    have ih := co_sum set i (by omega)
    have h := coN_has set (i : Int) 256
    have h0 : decide ((0 : Int) ≤ (i : Int)) = true := decide_eq_true (by omega)
    have h1 : decide ((i : Int) < ((256 : Nat) : Int)) = true := decide_eq_true (by omega)
    rw [h0, h1, Bool.true_and, Bool.true_and] at h
    rw [coN, coN, h]
    cases hasL set (i : Int)
    · simp only [cond_false, Bool.not_false, cond_true, List.length_append, List.length_singleton]; omega
    · simp only [cond_true, Bool.not_true, cond_false, List.length_append, List.length_singleton]; omega
theorem co_co_has (set : List Int) (hs : isB set) (x : Int) : hasL (coN (coN set 256) 256) x = hasL set x := by
  rw [coN_has, coN_has]
  by_cases h0 : 0 ≤ x
  · by_cases h1 : x < ((256 : Nat) : Int)
    · rw [decide_eq_true h0, decide_eq_true h1]; cases hasL set x <;> rfl
    · rw [decide_eq_false h1, decide_eq_true h0]
      cases hh : hasL set x
      · rfl
      · have := hasL_isB hs x hh; omega
  · rw [decide_eq_false h0]
    cases hh : hasL set x
    · rfl
    · have := hasL_isB hs x hh; omega
theorem hasL_get {l : List Int} {i : Nat} (h : i < l.length) : hasL l (l.getD i 0) = true := by
  unfold hasL; rw [List.any_eq_true]; exact ⟨l[i], List.getElem_mem h, by rw [getD_in h]; exact beq_self_eq_true _⟩
theorem posL_get (c : Int) : ∀ l : List Int, 0 ≤ posL c l → (posL c l).toNat < l.length ∧ l.getD (posL c l).toNat 0 = c
  | [], h => absurd h (show ¬ ((0 : Int) ≤ -1) by decide)
  | a :: r, h => by
    have ih := posL_get c r
    rw [posL_cons] at h ⊢
    cases ha : a == c
    · rw [ha, cond_false] at h
      rw [cond_false]
      have hg := posL_ge c r
      cases hp : posL c r == -1
      · have hp' : posL c r ≠ -1 := by simpa using hp
        obtain ⟨h1, h2⟩ := ih (by omega)
        rw [cond_false]
        have e : (posL c r + 1).toNat = (posL c r).toNat + 1 := by omega
        rw [e]
        refine ⟨by rw [List.length_cons]; omega, ?_⟩
        rw [List.getD_cons_succ]; exact h2
      · rw [hp, cond_true] at h; exact absurd h (by decide)
    · rw [cond_true]
      have ha' : a = c := by simpa using ha
      exact ⟨by simp, by simpa using ha'⟩
theorem posL_pos {l : List Int} {x : Int} (h : hasL l x = true) : 0 ≤ posL x l := by
  have := posL_has x l
  rw [h, Bool.not_true, decide_eq_false_iff_not] at this
  omega
theorem posL_neg {l : List Int} {x : Int} (h : hasL l x = false) : decide (posL x l ≥ 0) = false := by
  have := posL_has x l
  rw [h, Bool.not_false, decide_eq_true_eq] at this
  exact decide_eq_false (by omega)
def inj (l : List Int) : Prop := ∀ i j, i < l.length → j < l.length → l.getD i 0 = l.getD j 0 → i = j
theorem posL_inj {l : List Int} (h : inj l) {i : Nat} (hi : i < l.length) : posL (l.getD i 0) l = (i : Int) := by
  have h0 := posL_pos (hasL_get hi)
  obtain ⟨h1, h2⟩ := posL_get _ l h0
  have := h _ _ h1 hi h2
  omega
theorem inj_sorted {l : List Int} (h : l.Pairwise (· < ·)) : inj l := by
  intro i j hi hj he
  rw [getD_in hi, getD_in hj] at he
  rw [List.pairwise_iff_getElem] at h
  by_cases h1 : i < j
  · have := h i j hi hj h1; omega
  · by_cases h2 : j < i
    · have := h j i hj hi h2; omega
    · omega
def rotN (l : List Int) : Nat → List Int
  | 0 => []
  | i + 1 => rotN l i ++ [l.getD ((i + 1) % l.length) 0]
theorem rotN_len (l : List Int) : ∀ i, (rotN l i).length = i
  | 0 => rfl
  | i + 1 => by rw [rotN, List.length_append, rotN_len l i]; rfl
theorem rotN_get (l : List Int) : ∀ n i, i < n → (rotN l n).getD i 0 = l.getD ((i + 1) % l.length) 0
  | 0, i, h => absurd h (Nat.not_lt_zero _)
  | n + 1, i, h => by
    rw [rotN]
    by_cases hi : i < n
    · rw [getD_l (by rw [rotN_len]; exact hi)]; exact rotN_get l n i hi
    · have e : i = n := by omega
      subst e
      have := getD_last (l := rotN l i) (x := l.getD ((i + 1) % l.length) 0)
      rw [rotN_len] at this
      exact this
theorem rot_mod {n i j : Nat} (hi : i < n) (hj : j < n) (h : (i + 1) % n = (j + 1) % n) : i = j := by
  by_cases h1 : i + 1 = n
  · by_cases h2 : j + 1 = n
    · omega
    · rw [h1, Nat.mod_self, Nat.mod_eq_of_lt (by omega)] at h; omega
  · by_cases h2 : j + 1 = n
    · rw [h2, Nat.mod_self, Nat.mod_eq_of_lt (by omega)] at h; omega
    · rw [Nat.mod_eq_of_lt (by omega), Nat.mod_eq_of_lt (by omega)] at h; omega
theorem rot_inj {l : List Int} (h : inj l) : inj (rotN l l.length) := by
  intro i j hi hj he
  rw [rotN_len] at hi hj
  rw [rotN_get _ _ _ hi, rotN_get _ _ _ hj] at he
  exact rot_mod hi hj (h _ _ (Nat.mod_lt _ (by omega)) (Nat.mod_lt _ (by omega)) he)
theorem rot_mem {l : List Int} {x : Int} (hx : x ∈ rotN l l.length) : x ∈ l := by
  obtain ⟨i, hi, he⟩ := List.getElem_of_mem hx
  have h := hi
  rw [rotN_len] at h
  have := rotN_get l l.length i h
  rw [getD_in hi, he] at this
  have hm : (i + 1) % l.length < l.length := Nat.mod_lt _ (by omega)
  rw [this, getD_in hm]
  exact List.getElem_mem hm
theorem tr_no {l to : List Int} {c : Int} (h : hasL l c = false) : tr l to c = c := by
  rw [tr, trF_pos, posL_neg h]; rfl
theorem hasL_mem {l : List Int} {x : Int} : hasL l x = true ↔ x ∈ l := by
  unfold hasL; rw [List.any_eq_true]
  exact ⟨fun ⟨y, hy, he⟩ => by have : y = x := by simpa using he
                               subst this; exact hy, fun h => ⟨x, h, beq_self_eq_true _⟩⟩
theorem tr_at {l to : List Int} (h : inj l) (ht : to.length = l.length) {i : Nat} (hi : i < l.length) : tr l to (l.getD i 0) = to.getD i 0 := by
  have h1 := posL_inj h hi
  have h2 : decide (posL (l.getD i 0) l ≥ 0) = true := decide_eq_true (by omega)
  have h3 : min (0 + (posL (l.getD i 0) l).toNat) (to.length - 1) = i := by rw [h1]; omega
  rw [tr, trF_pos, h2, h3]; rfl
theorem tr_tr {l : List Int} (h : inj l) (c : Int) : tr (rotN l l.length) l (tr l (rotN l l.length) c) = c := by
  cases hc : hasL l c
  · rw [tr_no hc]
    have : hasL (rotN l l.length) c = false := by
      cases hh : hasL (rotN l l.length) c
      · rfl
      · have := hasL_mem.2 (rot_mem (hasL_mem.1 hh)); rw [hc] at this; exact absurd this (by decide)
    exact tr_no this
  · obtain ⟨h1, h2⟩ := posL_get c l (posL_pos hc)
    have e1 := tr_at (to := rotN l l.length) h (rotN_len _ _) h1
    rw [h2] at e1
    rw [e1]
    have e2 := tr_at (l := rotN l l.length) (to := l) (rot_inj h) (rotN_len _ _).symm (i := (posL c l).toNat) (by rw [rotN_len]; exact h1)
    rw [e2, h2]
theorem tr_isB {l to b : List Int} (hto : isB to) (hb : isB b) (hl : to.length = l.length) : isB (b.map (tr l to)) := by
  intro n hn
  rw [List.mem_map] at hn
  obtain ⟨c, hc, he⟩ := hn
  cases hh : hasL l c
  · rw [tr_no hh] at he; subst he; exact hb c hc
  · have h0 := posL_pos hh
    obtain ⟨h1, h2⟩ := posL_get c l h0
    rw [tr, trF_pos, decide_eq_true (show posL c l ≥ 0 from h0), cond_true] at he
    have hm : min (0 + (posL c l).toNat) (to.length - 1) < to.length := by omega
    rw [getD_in hm] at he
    subst he
    exact hto _ (List.getElem_mem hm)
theorem F10_l122 (k : Nat) (b set K C : List Int) (hK : K.Pairwise (· < ·)) (hh : ∀ x ∈ K, hasL set x = true) (hk : K.length < k) (hk2 : set.length < k) (hs : set.length ≤ big) (hKb : K.length ≤ big) :
    F10.l_122 k ((0, (), set, b, (), (K.length : Int), ()), (K, C, ()), ()) = some (.inr (((), set, b, (), ()), (K, C, ()), ())) := by
  have loop := loopN_iter (f := F10.s122 k) (fun i => (((i : Int), (), set, b, (), (K.length : Int), ()), (K, C, ()), ())) K.length (.inr (((), set, b, (), ()), (K, C, ()), ())) (fun i hi => ?_) ?_ k hk
  · exact loop
  · have hi' : i ≤ big := Nat.le_trans (Nat.le_of_lt hi) hKb
    have hx := hh K[i] (List.getElem_mem hi)
    simp only [F10.s122, F10.go122, lt_dec hi, dec0, Bool.true_and, cond_true, Int.toNat_natCast, getD_in hi, F38_eq k set _ hk2 hs, Option.bind_some, hx, Bool.not_true, cond_false, wrap1 hi']
    cases i with
    | zero => rfl
    | succ j =>
      have hw : IntKind.i64.wrap (((j + 1 : Nat) : Int) - 1) = (j : Int) := by rw [wrapm1 hi' (by omega)]; rfl
      have hj : j < K.length := by omega
      have hp : decide (((j + 1 : Nat) : Int) > 0) = true := decide_eq_true (by omega)
      have hlt := (List.pairwise_iff_getElem.1 hK) j (j + 1) hj hi (by omega)
      have hge : decide (K[j] ≥ K[j + 1]) = false := decide_eq_false (by omega)
      simp only [hp, hw, dec0, lt_dec hj, Bool.true_and, cond_true, Int.toNat_natCast, getD_in hj, hge, cond_false]
  · simp only [F10.s122, F10.go122, lt_dec', cond_false]
theorem F10_l250 (k : Nat) (b set K C : List Int) (hh : ∀ x ∈ set, hasL K x = true) (hk : K.length < k) (hk2 : set.length < k) (hs : set.length ≤ big) (hKb : K.length ≤ big) :
    F10.l_250 k ((0, (), set, set, b, (), (set.length : Int), ()), (K, C, ()), ()) = some (.inr (((), set, b, (), ()), (K, C, ()), ())) := by
  have loop := loopN_iter (f := F10.s250 k) (fun i => (((i : Int), (), set, set, b, (), (set.length : Int), ()), (K, C, ()), ())) set.length (.inr (((), set, b, (), ()), (K, C, ()), ())) (fun i hi => ?_) ?_ k hk2
  · exact loop
  · have hi' : i ≤ big := Nat.le_trans (Nat.le_of_lt hi) hs
    have hx := hh set[i] (List.getElem_mem hi)
    simp only [F10.s250, F10.go250, lt_dec hi, dec0, Bool.true_and, cond_true, Int.toNat_natCast, getD_in hi, F38_1_eq k _ K hk hKb, Option.bind_some, hx, Bool.not_true, cond_false, wrap1 hi']
  · simp only [F10.s250, F10.go250, lt_dec', cond_false]
theorem F10_l2042 (k : Nat) (b set K : List Int) (hk : K.length < k) (hKb : K.length ≤ big) :
    F10.l_2042 k ((0, (), (), set, b, (K.length : Int), ()), (K, [], ()), ()) = some ((set, b, (), (), ()), (K, rotN K K.length, ()), ()) := by
  have loop := loopN_iter (f := F10.s2042 k) (fun i => (((i : Int), (), (), set, b, (K.length : Int), ()), (K, rotN K i, ()), ())) K.length ((set, b, (), (), ()), (K, rotN K K.length, ()), ()) (fun i hi => ?_) ?_ k hk
  · exact loop
  · have hi' : i ≤ big := Nat.le_trans (Nat.le_of_lt hi) hKb
    have h0 : ((K.length : Int) == 0) = false := isNilB (fun h => by subst h; exact absurd hi (Nat.not_lt_zero _))
    have ht : ((i + 1 : Nat) : Int).tmod (K.length : Int) = (((i + 1) % K.length : Nat) : Int) := by
      rw [Int.tmod_eq_emod_of_nonneg (by omega)]; rfl
    have hm : (i + 1) % K.length < K.length := Nat.mod_lt _ (by omega)
    have hl : (rotN K i ++ [K.getD ((i + 1) % K.length) 0]).length ≤ big := by
      have hb' : K.length ≤ 140737488351232 := hKb
      rw [List.length_append, rotN_len, List.length_singleton]
      show i + 1 ≤ 140737488351232
      omega
    simp only [F10.s2042, F10.go2042, lt_dec hi, h0, wrap1 hi', ht, dec0, lt_dec hm, Bool.true_and, cond_true, cond_false, Int.toNat_natCast, bleB hl]
    rw [rotN]
  · simp only [F10.s2042, F10.go2042, lt_dec', cond_false]
theorem F16_3_eq (k : Nat) (l : List Int) : F16_3.go k l l = some ((true, ()), (l, ()), ()) := by
  unfold F16_3.go; rw [beq_self_eq_true]
theorem globTurns (b set : List Int) (h1 : isB b) (h2 : isB set) (hb : b.length ≤ big) (hs : set.length ≤ big) :
    F10.go (b.length + set.length + 300) b set = some ((true, ()), (), ()) := by
  have hA := awakeK (b.length + set.length)
  obtain ⟨k, hk⟩ : ∃ k, k = b.length + set.length + 300 := ⟨_, rfl⟩
  rw [← hk] at hA ⊢
  have kb : b.length < k := by omega
  have ks : set.length < k := by omega
  have k2 : 256 < k := by omega
  obtain ⟨C, hC⟩ : ∃ C, C = coN set 256 := ⟨_, rfl⟩
  obtain ⟨K, hK⟩ : ∃ K, K = coN C 256 := ⟨_, rfl⟩
  have hsum : C.length + K.length = 256 := by rw [hK, hC]; exact co_sum set 256 (Nat.le_refl _)
  have hCB : isB C := by rw [hC]; exact coN_isB set
  have hKB : isB K := by rw [hK]; exact coN_isB C
  have hKs : K.Pairwise (· < ·) := by rw [hK]; exact coN_sorted C 256
  have hKh : ∀ x, hasL K x = hasL set x := by rw [hK, hC]; exact co_co_has set h2
  have hinj := inj_sorted hKs
  have hKl : K.length ≤ big := by show _ ≤ 140737488351232; omega
  have hKk : K.length < k := by omega
  have e35a := F35_1_eq k set h2 k2
  have e35b := F35_2_eq k C hCB k2
  rw [← hC] at e35a
  rw [← hK] at e35b
  have e122 := F10_l122 k b set K C hKs (fun x hx => by rw [← hKh]; exact hasL_mem.2 hx) hKk ks hs hKl
  have e250 := F10_l250 k b set K C (fun x hx => by rw [hKh]; exact hasL_mem.2 hx) hKk ks hs hKl
  have e2042 := F10_l2042 k b set K hKk hKl
  obtain ⟨R, hR⟩ : ∃ R, R = rotN K K.length := ⟨_, rfl⟩
  have hRl : R.length = K.length := by rw [hR]; exact rotN_len _ _
  have hRB : isB R := fun n hn => hKB n (rot_mem (by rw [← hR]; exact hn))
  rw [← hR] at e2042
  have ht1 : K = [] ∨ R ≠ [] := by
    by_cases h : K = []
    · exact Or.inl h
    · refine Or.inr fun h' => h ?_
      rw [h'] at hRl
      exact List.length_eq_zero_iff.1 hRl.symm
  have ht2 : R = [] ∨ K ≠ [] := by
    by_cases h : R = []
    · exact Or.inl h
    · refine Or.inr fun h' => h ?_
      rw [h'] at hRl
      exact List.length_eq_zero_iff.1 hRl
  obtain ⟨T, hT⟩ : ∃ T, T = b.map (tr K R) := ⟨_, rfl⟩
  have hTl : T.length = b.length := by rw [hT, List.length_map]
  have hTB : isB T := by rw [hT]; exact tr_isB hRB h1 hRl
  have hTT : T.map (tr R K) = b := by
    rw [hT, List.map_map, hR]
    have : (tr (rotN K K.length) K ∘ tr K (rotN K K.length)) = id := funext fun c => tr_tr hinj c
    rw [this, List.map_id]
  have e29a := F29_1_eq k b K R ht1 h1 hKB kb hb (by rw [hRl]; exact hKl)
  have e29b := F29_2_eq k T R K ht2 hTB hRB (by rw [hTl]; exact kb) (by rw [hTl]; exact hb) hKl
  rw [← hT] at e29a
  rw [hTT] at e29b
  have e32a := F32_1_eq k b set h1 h2 kb hb
  have e31a := F31_1_eq k b set h1 h2 kb hb
  obtain ⟨S, hS⟩ : ∃ S, S = sqN set b b.length := ⟨_, rfl⟩
  obtain ⟨D, hD⟩ : ∃ D, D = delL set b := ⟨_, rfl⟩
  have hSl : S.length ≤ b.length := by rw [hS]; exact sqN_len set b _
  have hDl : D.length ≤ b.length := by rw [hD]; exact delL_len set b
  have hmemS : ∀ i, i ≤ b.length → ∀ x ∈ sqN set b i, x ∈ b := by
    intro i
    induction i with
    | zero => intro _ x hx; exact absurd hx (by simp [sqN])
    | succ i ih =>
      intro hi x hx
      unfold sqN at hx
      cases hq : keepN set b i
      · rw [hq, cond_false] at hx; exact ih (by omega) x hx
      · rw [hq, cond_true, List.mem_append, List.mem_singleton] at hx
        cases hx with
        | inl h => exact ih (by omega) x h
        | inr h => rw [h, getD_in (by omega)]; exact List.getElem_mem _
  have hSB : isB S := fun n hn => h1 n (hmemS _ (Nat.le_refl _) n (by rw [← hS]; exact hn))
  have hDB : isB D := fun n hn => h1 n (by rw [hD] at hn; exact (List.mem_filter.1 hn).1)
  have hSS : sqN set S S.length = S := by rw [hS]; exact sqN_twice set b _
  have hDD : delL set D = D := by rw [hD]; exact delL_twice set b
  have e32b := F32_2_eq k S set hSB h2 (by omega) (Nat.le_trans hSl hb)
  have e31b := F31_2_eq k D set hDB h2 (by omega) (Nat.le_trans hDl hb)
  rw [← hS] at e32a
  rw [← hD] at e31a
  rw [hSS] at e32b
  rw [hDD] at e31b
  have hw : IntKind.i64.wrap ((C.length : Int) + (K.length : Int)) = 256 := by
    rw [wrap_id (by omega) (by omega)]; omega
  unfold F10.go
  simp only [e35a, e35b, e122, e250, e2042, e29a, e29b, e32a, e31a, e32b, e31b, hw, Option.bind_some, Sum.elim_inr, Sum.elim_inl, F16_1_eq, F16_3_eq, F11.go, hTl, hA, bne_self_eq_false, Bool.not_true, cond_false, cond_true]
theorem isB_of_wf {l : List Int} (h : ∀ n ∈ l, (Lit.int .u8 n).wf = true) : isB l := by
  intro n hn
  have := h n hn
  have h2 : (IntKind.u8.min ≤ n ∧ n ≤ IntKind.u8.max) := by
    simpa only [Lit.wf, Bool.and_eq_true, decide_eq_true_eq] using this
  exact ⟨h2.1, Int.lt_add_one_of_le h2.2⟩
end Go.Proofs.Tryd.S

