/- The plain law: what the functions that the law compares make is the same, over lists and numbers alone. -/
import Derived.Test.YtllaocoogifdlaaDoorEndsWalk
import Derived.Test.YtllaocoogifdlaaDoorEv4
import Derived.KernelRfl
set_option linter.unusedVariables false
set_option linter.unusedSimpArgs false
set_option linter.unusedSectionVars false
set_option maxRecDepth 100000
namespace Go.Proofs.Tryd.S
open Go Go.Ev
theorem loopN_inr {A B : Type} {f : A → Option (A ⊕ B)} {k : Nat} {x : A} {y : B} (h : f x = some (.inr y)) : loopN f (k + 1) x = some y := by
  unfold loopN; rw [h]
theorem loopN_inl {A B : Type} {f : A → Option (A ⊕ B)} {k : Nat} {x x' : A} (h : f x = some (.inl x')) : loopN f (k + 1) x = loopN f k x' := by
  rw [loopN, h]
abbrev big : Nat := 140737488351232
theorem wz (n : Nat) (h : n ≤ big) : IntKind.i64.wrap (n : Int) = (n : Int) := by
  have h' : n ≤ 140737488351232 := h
  rw [wrap_id (by omega) (by omega)]
theorem wadd1 (a : Nat) (h : a + 1 ≤ big) : IntKind.i64.wrap ((a : Int) + 1) = ((a + 1 : Nat) : Int) := by
  have h' : a + 1 ≤ 140737488351232 := h
  rw [wrap_id (by omega) (by omega)]; omega
theorem wsub1 (a : Nat) (h : a + 1 ≤ big) : IntKind.i64.wrap (((a + 1 : Nat) : Int) - 1) = (a : Int) := by
  have h' : a + 1 ≤ 140737488351232 := h
  rw [wrap_id (by omega) (by omega)]; omega
theorem tl_beq (a b : List UInt8) : ((arr a).toList == (arr b).toList) = (a == b) := by rw [arr_toList, arr_toList]
theorem nil_beq (a : List UInt8) : (a == []) = a.isEmpty := by cases a <;> rfl
theorem get_snoc (m : List UInt8) (c : UInt8) : (m ++ [c]).getD m.length 0 = c := by simp
theorem ext0 (l : List UInt8) (n : Nat) : (arr l).extract 0 n = arr (l.take n) := by rw [arr_extract]; simp
theorem extE (l : List UInt8) (i n : Nat) (h : n = l.length) : (arr l).extract i n = arr (l.drop i) := by subst h; exact arr_extract_size l i
theorem beq47 (c : UInt8) : ((c.toNat : Int) == 47) = (c == 47) := by
  rw [Bool.eq_iff_iff]
  simp only [beq_iff_eq]
  constructor
  · intro h
    have : c.toNat = (47 : UInt8).toNat := by have : (47 : UInt8).toNat = 47 := rfl; omega
    exact UInt8.toNat_inj.1 this
  · intro h; subst h; rfl
theorem dec0 (p : Nat) : decide ((0 : Int) ≤ (p : Int)) = true := decide_eq_true (by omega)
theorem dec0' (p : Nat) : decide ((p : Int) ≥ 0) = true := decide_eq_true (by omega)
theorem ltD {i n : Nat} (h : i < n) : decide ((i : Int) < (n : Int)) = true := decide_eq_true (by omega)
theorem leD {i n : Nat} (h : i ≤ n) : decide ((i : Int) ≤ (n : Int)) = true := decide_eq_true (by omega)
theorem ltN {i n : Nat} (h : ¬ i < n) : decide ((i : Int) < (n : Int)) = false := decide_eq_false (by omega)
theorem leN {i n : Nat} (h : ¬ i ≤ n) : decide ((i : Int) ≤ (n : Int)) = false := decide_eq_false (by omega)
theorem gtD {n : Nat} (h : 0 < n) : decide ((n : Int) > 0) = true := decide_eq_true (by omega)
/-- without slashes at its end -/
def rtrim (l : List UInt8) : List UInt8 := (l.reverse.dropWhile (· == 47)).reverse
theorem rtrim_nil : rtrim [] = [] := rfl
theorem rtrim_snoc (m : List UInt8) (c : UInt8) : rtrim (m ++ [c]) = if c == 47 then rtrim m else m ++ [c] := by
  unfold rtrim
  rw [List.reverse_append]
  show (List.dropWhile (· == 47) (c :: m.reverse)).reverse = _
  rw [List.dropWhile_cons]
  by_cases h : (c == 47) = true
  · rw [if_pos h, if_pos h]
  · rw [if_neg h, if_neg h]; simp
theorem snoc_cases (l : List UInt8) : l = [] ∨ ∃ m c, l = m ++ [c] := by
  rcases List.eq_nil_or_concat l with h | ⟨m, c, h⟩
  · exact .inl h
  · exact .inr ⟨m, c, by simpa using h⟩
theorem F40_nil (k : Nat) : F40.s12 k ((arr [], ()), (), ()) = some (.inr ((arr [], ()), (), ())) := rfl
theorem F40_snoc (k : Nat) (m : List UInt8) (c : UInt8) (h : m.length + 1 ≤ big) : F40.s12 k ((arr (m ++ [c]), ()), (), ()) = if c == 47 then some (.inl ((arr m, ()), (), ())) else some (.inr ((arr (m ++ [c]), ()), (), ())) := by
  show F40.go12 k (arr (m ++ [c])) = _
  unfold F40.go12
  have hl : (m ++ [c]).length = m.length + 1 := by simp
  rw [arr_size, hl, wsub1 _ h, Int.toNat_natCast, arr_get, get_snoc, beq47, ext0]
  have h1 : decide (((m.length + 1 : Nat) : Int) > 0) = true := decide_eq_true (by omega)
  have h2 : (decide ((0 : Int) ≤ (m.length : Int)) && decide ((m.length : Int) < ((m.length + 1 : Nat) : Int))) = true := by simp; omega
  have h3 : (decide ((0 : Int) ≤ (m.length : Int)) && decide ((m.length : Int) ≤ ((m.length + 1 : Nat) : Int)) && true) = true := by simp; omega
  rw [h1, h2, h3]
  simp only [cond_true]
  rw [show (m ++ [c]).take m.length = m by simp]
  cases hc : (c == 47) <;> rfl
theorem F40_loop : ∀ (n : Nat) (l : List UInt8) (k q : Nat), l.length = n → l.length ≤ big → n < k → loopN (F40.s12 q) k ((arr l, ()), (), ()) = some ((arr (rtrim l), ()), (), ()) := by
  intro n
  induction n with
  | zero =>
    intro l k q hl _ hk
    have : l = [] := List.length_eq_zero_iff.1 hl
    subst this
    obtain ⟨k, rfl⟩ : ∃ k', k = k' + 1 := ⟨k - 1, by omega⟩
    exact loopN_inr (F40_nil q)
  | succ n ih =>
    intro l k q hl hb hk
    obtain ⟨k, rfl⟩ : ∃ k', k = k' + 1 := ⟨k - 1, by omega⟩
    rcases snoc_cases l with rfl | ⟨m, c, rfl⟩
    · simp at hl
    · have hl' : m.length + 1 = n + 1 := by simpa using hl
      have hb' : m.length + 1 ≤ big := by simpa using hb
      have hs := F40_snoc q m c hb'
      rw [rtrim_snoc]
      by_cases hc : (c == 47) = true
      · rw [if_pos hc] at hs ⊢
        rw [loopN_inl hs]
        exact ih m k q (by omega) (by omega) (by omega)
      · rw [if_neg hc] at hs ⊢
        exact loopN_inr hs
theorem F40_eq (k : Nat) (l : List UInt8) (h : l.length ≤ big) (hk : l.length < k) : F40.go k (arr l) = some ((arr (rtrim l), ()), (), ()) := by
  show Option.bind (loopN (F40.s12 k) k ((arr l, ()), (), ())) _ = _
  rw [F40_loop _ l k k rfl h hk]; rfl
/-! the program's: trimRightByte -/
theorem F49_nil (k : Nat) : F49.s12 k ((arr [], 47, ()), (), ()) = some (.inr ((arr [], ()), (), ())) := rfl
theorem F49_snoc (k : Nat) (m : List UInt8) (c : UInt8) (h : m.length + 1 ≤ big) : F49.s12 k ((arr (m ++ [c]), 47, ()), (), ()) = if c == 47 then some (.inl ((arr m, 47, ()), (), ())) else some (.inr ((arr (m ++ [c]), ()), (), ())) := by
  show F49.go12 k (arr (m ++ [c])) 47 = _
  unfold F49.go12
  have hl : (m ++ [c]).length = m.length + 1 := by simp
  rw [arr_size, hl, wsub1 _ h, Int.toNat_natCast, arr_get, get_snoc, beq47, ext0]
  have h1 : decide (((m.length + 1 : Nat) : Int) > 0) = true := decide_eq_true (by omega)
  have h2 : (decide ((0 : Int) ≤ (m.length : Int)) && decide ((m.length : Int) < ((m.length + 1 : Nat) : Int))) = true := by simp; omega
  have h3 : (decide ((0 : Int) ≤ (m.length : Int)) && decide ((m.length : Int) ≤ ((m.length + 1 : Nat) : Int)) && true) = true := by simp; omega
  rw [h1, h2, h3]
  simp only [cond_true]
  rw [show (m ++ [c]).take m.length = m by simp]
  cases hc : (c == 47) <;> rfl
theorem F49_loop : ∀ (n : Nat) (l : List UInt8) (k q : Nat), l.length = n → l.length ≤ big → n < k → loopN (F49.s12 q) k ((arr l, 47, ()), (), ()) = some ((arr (rtrim l), ()), (), ()) := by
  intro n
  induction n with
  | zero =>
    intro l k q hl _ hk
    have : l = [] := List.length_eq_zero_iff.1 hl
    subst this
    obtain ⟨k, rfl⟩ : ∃ k', k = k' + 1 := ⟨k - 1, by omega⟩
    exact loopN_inr (F49_nil q)
  | succ n ih =>
    intro l k q hl hb hk
    obtain ⟨k, rfl⟩ : ∃ k', k = k' + 1 := ⟨k - 1, by omega⟩
    rcases snoc_cases l with rfl | ⟨m, c, rfl⟩
    · simp at hl
    · have hl' : m.length + 1 = n + 1 := by simpa using hl
      have hb' : m.length + 1 ≤ big := by simpa using hb
      have hs := F49_snoc q m c hb'
      rw [rtrim_snoc]
      by_cases hc : (c == 47) = true
      · rw [if_pos hc] at hs ⊢
        rw [loopN_inl hs]
        exact ih m k q (by omega) (by omega) (by omega)
      · rw [if_neg hc] at hs ⊢
        exact loopN_inr hs
theorem F49_eq (k : Nat) (l : List UInt8) (h : l.length ≤ big) (hk : l.length < k) : F49.go k (arr l) 47 = some ((arr (rtrim l), ()), (), ()) := by
  show Option.bind (loopN (F49.s12 k) k ((arr l, 47, ()), (), ())) _ = _
  rw [F49_loop _ l k k rfl h hk]; rfl
theorem sl_ne : ((arr [47]).toList == (⟨⟨[]⟩⟩ : ByteArray).toList) = false := (tl_beq [47] []).trans rfl
/-- TrimRight by slashes -/
theorem F37_eq (k : Nat) (l : List UInt8) (h : l.length ≤ big) (hk : l.length < k) : F37.go k (arr l) (arr [47]) = some ((arr (rtrim l), ()), (), ()) := by
  unfold F37.go
  have e1 : ((arr l).toList == (⟨⟨[]⟩⟩ : ByteArray).toList) = l.isEmpty := (tl_beq l []).trans (nil_beq l)
  rw [e1]
  cases l with
  | nil => rfl
  | cons a r =>
    rw [sl_ne]
    simp only [List.isEmpty_cons, cond_false]
    show Option.bind (F49.go k (arr (a :: r)) 47) (fun y3 => some ((y3.1.1, ()), (), ())) = _
    rw [F49_eq k _ h hk]; rfl
/-! trimLeftByte -/
theorem F59_loop : ∀ (l : List UInt8) (k q : Nat), l.length < k → loopN (F59.s12 q) k ((arr l, 47, ()), (), ()) = some ((arr (l.dropWhile (· == 47)), ()), (), ())
  | [], k, q, hk => by
    obtain ⟨k, rfl⟩ : ∃ k', k = k' + 1 := ⟨k - 1, by omega⟩
    exact loopN_inr rfl
  | a :: r, k, q, hk => by
    obtain ⟨k, rfl⟩ : ∃ k', k = k' + 1 := ⟨k - 1, by omega⟩
    have hs : F59.s12 q ((arr (a :: r), 47, ()), (), ()) = if a == 47 then some (.inl ((arr r, 47, ()), (), ())) else some (.inr ((arr (a :: r), ()), (), ())) := by
      show F59.go12 q (arr (a :: r)) 47 = _
      unfold F59.go12
      have h1 : decide (((arr (a :: r)).size : Int) > 0) = true := decide_eq_true (by show ((r.length + 1 : Nat) : Int) > 0; omega)
      have h3 : decide (1 ≤ ((arr (a :: r)).size : Int)) = true := decide_eq_true (by show 1 ≤ ((r.length + 1 : Nat) : Int); omega)
      rw [h1, h3, arr_get, arr_extract_size]
      simp only [cond_true]
      show (bif ((a.toNat : Int) == 47) then _ else _) = _
      rw [beq47]
      cases hc : (a == 47) <;> rfl
    rw [List.dropWhile_cons]
    by_cases hc : (a == 47) = true
    · rw [if_pos hc] at hs ⊢
      rw [loopN_inl hs]
      exact F59_loop r k q (by simp only [List.length_cons] at hk; omega)
    · rw [if_neg hc] at hs ⊢
      exact loopN_inr hs
theorem F59_eq (k : Nat) (l : List UInt8) (hk : l.length < k) : F59.go k (arr l) 47 = some ((arr (l.dropWhile (· == 47)), ()), (), ()) := by
  show Option.bind (loopN (F59.s12 k) k ((arr l, 47, ()), (), ())) _ = _
  rw [F59_loop l k k hk]; rfl
theorem rtrim_length (l : List UInt8) : (rtrim l).length ≤ l.length := by
  unfold rtrim
  rw [List.length_reverse]
  have := (List.dropWhile_suffix (l := l.reverse) (· == 47)).length_le
  rw [List.length_reverse] at this; exact this
/-- Trim by slashes -/
theorem F48_eq (k : Nat) (l : List UInt8) (h : l.length ≤ big) (hk : l.length < k) : F48.go k (arr l) (arr [47]) = some ((arr ((rtrim l).dropWhile (· == 47)), ()), (), ()) := by
  unfold F48.go
  have e1 : ((arr l).toList == (⟨⟨[]⟩⟩ : ByteArray).toList) = l.isEmpty := (tl_beq l []).trans (nil_beq l)
  rw [e1]
  cases l with
  | nil => rfl
  | cons a r =>
    rw [sl_ne]
    simp only [List.isEmpty_cons, cond_false]
    show Option.bind (F49.go k (arr (a :: r)) 47) (fun y3 => Option.bind (F59.go k y3.1.1 47) (fun y4 => some ((y4.1.1, ()), (), ()))) = _
    rw [F49_eq k _ h hk]
    show Option.bind (F59.go k (arr (rtrim (a :: r))) 47) (fun y4 => some ((y4.1.1, ()), (), ())) = _
    rw [F59_eq k _ (by have := rtrim_length (a :: r); omega)]; rfl
/-- what is left of a text of slashes alone -/
theorem trim_empty (l : List UInt8) : ((rtrim l).dropWhile (· == 47)).isEmpty = (rtrim l).isEmpty := by
  rcases snoc_cases (rtrim l) with h | ⟨m, c, h⟩
  · rw [h]; rfl
  · have hc : (c == 47) = false := by
      rcases snoc_cases l with rfl | ⟨m', c', rfl⟩
      · rw [rtrim_nil] at h; simp at h
      · -- the last byte that stays is no slash
        have key : ∀ (l : List UInt8) m c, rtrim l = m ++ [c] → (c == 47) = false := by
          intro l
          unfold rtrim
          intro m c hh
          have hh2 : l.reverse.dropWhile (· == 47) = c :: m.reverse := by
            have := congrArg List.reverse hh
            simpa using this
          have := List.head_dropWhile_not (p := fun x : UInt8 => x == 47) (l := l.reverse) (by rw [hh2]; simp)
          simp only [hh2, List.head_cons] at this
          exact this
        exact key _ m c h
    rw [h]
    have : (m ++ [c]).dropWhile (· == 47) ≠ [] := by
      intro e
      have := List.takeWhile_append_dropWhile (p := fun x : UInt8 => x == 47) (l := m ++ [c])
      rw [e, List.append_nil] at this
      have hall : ∀ x ∈ List.takeWhile (fun x : UInt8 => x == 47) (m ++ [c]), (x == 47) = true := fun x hx => List.all_eq_true.1 (List.all_takeWhile) x hx
      rw [this] at hall
      have := hall c (by simp)
      rw [hc] at this; cases this
    cases hh : (m ++ [c]).dropWhile (· == 47) with
    | nil => exact absurd hh this
    | cons a r => simp
def kindOf (l : List UInt8) : Int := if l.isEmpty then 0 else if (rtrim l).isEmpty then 1 else 2
theorem F36_eq (k : Nat) (l : List UInt8) (h : l.length ≤ big) (hk : l.length < k) : F36.go k (arr l) = some ((kindOf l, ()), (), ()) := by
  unfold F36.go kindOf
  have e1 : ((arr l).toList == (⟨⟨[]⟩⟩ : ByteArray).toList) = l.isEmpty := (tl_beq l []).trans (nil_beq l)
  rw [e1]
  cases l with
  | nil => rfl
  | cons a r =>
    show Option.bind (F48.go k (arr (a :: r)) (arr [47])) _ = _
    rw [F48_eq k _ h hk]
    show (bif ((arr ((rtrim (a :: r)).dropWhile (· == 47))).toList == (arr []).toList) then _ else _) = _
    rw [tl_beq, nil_beq, trim_empty]
    cases (rtrim (a :: r)).isEmpty <;> rfl
end Go.Proofs.Tryd.S

namespace Go.Proofs.Tryd.S
open Go Go.Ev
/-- the place behind the last slash -/
def lastSl (l : List UInt8) : Nat := l.length - (l.reverse.takeWhile (fun x => !(x == 47))).length
theorem lastSl_snoc (m : List UInt8) (c : UInt8) : lastSl (m ++ [c]) = if c == 47 then m.length + 1 else lastSl m := by
  unfold lastSl
  rw [List.reverse_append, List.length_append]
  show m.length + 1 - (List.takeWhile (fun x => !(x == 47)) (c :: m.reverse)).length = _
  rw [List.takeWhile_cons]
  cases hc : (c == 47)
  · have := (List.takeWhile_prefix (l := m.reverse) (fun x => !(x == 47))).length_le
    rw [List.length_reverse] at this
    simp
  · simp
theorem lastSl_le (l : List UInt8) : lastSl l ≤ l.length := by unfold lastSl; omega
theorem F53_loop : ∀ (n : Nat) (m t : List UInt8) (k q : Nat), m.length = n → (m ++ t).length ≤ big → n < k →
    loopN (F53.s26 q) k ((((m.length : Nat) : Int) - 1, 47, arr (m ++ t), ()), (), ()) = some (if lastSl m = 0 then .inr ((), (), ()) else .inl ((((lastSl m : Nat) : Int) - 1, ()), (), ())) := by
  intro n
  induction n with
  | zero =>
    intro m t k q hl _ hk
    have : m = [] := List.length_eq_zero_iff.1 hl
    subst this
    obtain ⟨k, rfl⟩ : ∃ k', k = k' + 1 := ⟨k - 1, by omega⟩
    exact loopN_inr rfl
  | succ n ih =>
    intro m t k q hl hb hk
    obtain ⟨k, rfl⟩ : ∃ k', k = k' + 1 := ⟨k - 1, by omega⟩
    rcases snoc_cases m with rfl | ⟨m, c, rfl⟩
    · simp at hl
    · have hl' : m.length = n := by simpa using hl
      have hb' : m.length + 1 + t.length ≤ big := by rw [List.length_append, List.length_append] at hb; exact hb
      have hb2 : m.length + 1 + t.length ≤ 140737488351232 := hb'
      have e0 : (((m ++ [c]).length : Nat) : Int) - 1 = (m.length : Int) := by simp
      rw [e0, lastSl_snoc]
      have hg : (m ++ [c] ++ t).getD m.length 0 = c := by simp
      have hs : F53.s26 q (((m.length : Int), 47, arr (m ++ [c] ++ t), ()), (), ()) = if c == 47 then some (.inr (.inl (((m.length : Int), ()), (), ()))) else some (.inl ((((m.length : Nat) : Int) - 1, 47, arr (m ++ [c] ++ t), ()), (), ())) := by
        show F53.go26 q (m.length : Int) 47 (arr (m ++ [c] ++ t)) = _
        unfold F53.go26
        have hsz : (m ++ [c] ++ t).length = m.length + 1 + t.length := by simp; omega
        rw [arr_size, hsz, dec0', ltD (by omega), Int.toNat_natCast, arr_get, hg, beq47, wrap_id (by omega) (by omega)]
        cases hc : (c == 47) <;> rfl
      by_cases hc : (c == 47) = true
      · rw [if_pos hc] at hs ⊢
        rw [loopN_inr hs, if_neg (by omega)]
        have : (((m.length + 1 : Nat) : Int) - 1) = (m.length : Int) := by omega
        rw [this]
      · rw [if_neg hc] at hs ⊢
        rw [loopN_inl hs]
        have := ih m ([c] ++ t) k q hl' (by simp; show _ ≤ big; omega) (by omega)
        rw [← List.append_assoc] at this
        exact this
theorem F38_eq (k : Nat) (l : List UInt8) (h : l.length ≤ big) (hk : l.length < k) : F38.go k (arr l) 47 = some ((((lastSl l : Nat) : Int) - 1, ()), (), ()) := by
  have h' : l.length ≤ 140737488351232 := h
  have e : F53.go k (arr l) 47 = some ((((lastSl l : Nat) : Int) - 1, ()), (), ()) := by
    show Option.bind (loopN (F53.s26 k) k ((IntKind.i64.wrap (((arr l).size : Int) - 1), 47, arr l, ()), (), ())) _ = _
    have e1 : IntKind.i64.wrap (((arr l).size : Int) - 1) = (l.length : Int) - 1 := by rw [arr_size, wrap_id (by omega) (by omega)]
    have := F53_loop l.length l [] k k rfl (by simpa using h) hk
    rw [List.append_nil] at this
    rw [e1, this]
    by_cases hz : lastSl l = 0
    · rw [if_pos hz, hz]; rfl
    · rw [if_neg hz]; rfl
  unfold F38.go
  rw [e]; rfl
/-! the document's -/
theorem F41_loop : ∀ (n : Nat) (m t : List UInt8) (k q : Nat), t.length = n → (m ++ t).length ≤ big → n < k →
    loopN (F41.s58 q) k (((m.length : Int), arr (m ++ t), (lastSl m : Int), ()), (), ()) = some (((lastSl (m ++ t) : Int), ()), (), ()) := by
  intro n
  induction n with
  | zero =>
    intro m t k q hl _ hk
    have : t = [] := List.length_eq_zero_iff.1 hl
    subst this
    obtain ⟨k, rfl⟩ : ∃ k', k = k' + 1 := ⟨k - 1, by omega⟩
    rw [List.append_nil]
    refine loopN_inr ?_
    show F41.go58 q (m.length : Int) (arr m) (lastSl m : Int) = _
    unfold F41.go58
    rw [arr_size, decide_eq_false (by omega)]; rfl
  | succ n ih =>
    intro m t k q hl hb hk
    obtain ⟨k, rfl⟩ : ∃ k', k = k' + 1 := ⟨k - 1, by omega⟩
    cases t with
    | nil => simp at hl
    | cons c t =>
      have hl' : t.length = n := by simpa using hl
      have hb' : m.length + 1 + t.length ≤ big := by rw [List.length_append, List.length_cons] at hb; show _ ≤ 140737488351232; have hb : m.length + (t.length + 1) ≤ 140737488351232 := hb; omega
      have hb2 : m.length + 1 + t.length ≤ 140737488351232 := hb'
      have e : m ++ c :: t = m ++ [c] ++ t := by simp
      have hs : F41.s58 q (((m.length : Int), arr (m ++ [c] ++ t), (lastSl m : Int), ()), (), ()) = some (.inl ((((m ++ [c]).length : Int), arr (m ++ [c] ++ t), (lastSl (m ++ [c]) : Int), ()), (), ())) := by
        show F41.go58 q (m.length : Int) (arr (m ++ [c] ++ t)) (lastSl m : Int) = _
        unfold F41.go58
        have hsz : (m ++ [c] ++ t).length = m.length + 1 + t.length := by simp; omega
        have hg : (m ++ [c] ++ t).getD m.length 0 = c := by simp
        rw [arr_size, hsz, dec0, ltD (by omega), Int.toNat_natCast, arr_get, hg, beq47, wadd1 _ (by show _ ≤ 140737488351232; omega), lastSl_snoc, List.length_append]
        cases hc : (c == 47) <;> rfl
      rw [e, loopN_inl hs]
      exact ih (m ++ [c]) t k q hl' (by rw [← e]; exact hb) (by omega)
theorem F41_eq (k : Nat) (l : List UInt8) (h : l.length ≤ big) (hk : l.length < k) : F41.go k (arr l) = some (((lastSl l : Int), ()), (), ()) := by
  have := F41_loop l.length [] l k k rfl h hk
  show Option.bind (loopN (F41.s58 k) k ((((0 : Nat) : Int), arr l, ((0 : Nat) : Int), ()), (), ())) _ = _
  rw [List.nil_append] at this
  have e : lastSl [] = 0 := rfl
  rw [e] at this
  rw [show (([] : List UInt8).length) = 0 from rfl] at this
  rw [this]; rfl
/-! ends -/
def endsL (s t : List UInt8) : Bool := decide (t.length ≤ s.length) && s.drop (s.length - t.length) == t
theorem wsubN (a b : Nat) (h : a ≤ big) (hb : b ≤ a) : IntKind.i64.wrap ((a : Int) - (b : Int)) = ((a - b : Nat) : Int) := by
  have h' : a ≤ 140737488351232 := h
  rw [wrap_id (by omega) (by omega)]; omega
theorem F65_eq (k : Nat) (s t : List UInt8) (h : s.length ≤ big) : F65.go k (arr s) (arr t) = some ((endsL s t, ()), (), ()) := by
  unfold F65.go endsL
  rw [arr_size, arr_size]
  by_cases hl : t.length ≤ s.length
  · rw [decide_eq_true (show ((s.length : Int) ≥ (t.length : Int)) by omega), wsubN _ _ h hl, Int.toNat_natCast, decide_eq_true hl]
    rw [dec0, leD (Nat.sub_le _ _)]
    simp only [cond_true, Bool.true_and]
    rw [show s.length = (arr s).size from rfl, arr_extract_size, tl_beq]
  · rw [decide_eq_false (show ¬ ((s.length : Int) ≥ (t.length : Int)) by omega), decide_eq_false hl]; rfl
theorem F39_eq (k : Nat) (s t : List UInt8) (h : s.length ≤ big) : F39.go k (arr s) (arr t) = some ((arr (if endsL s t then s.take (s.length - t.length) else s), ()), (), ()) := by
  have e : F54.go k (arr s) (arr t) = some ((arr (if endsL s t then s.take (s.length - t.length) else s), ()), (), ()) := by
    unfold F54.go
    rw [F65_eq k s t h]
    show (bif endsL s t then _ else _) = _
    cases he : endsL s t
    · rfl
    · have hl : t.length ≤ s.length := by
        unfold endsL at he
        rw [Bool.and_eq_true] at he
        exact of_decide_eq_true he.1
      rw [arr_size, arr_size, wsubN _ _ h hl, Int.toNat_natCast]
      rw [dec0, leD (Nat.sub_le _ _), ext0]; rfl
  unfold F39.go
  rw [e]; rfl
def baseL (l suf : List UInt8) : List UInt8 :=
  if l.isEmpty then [46] else if (rtrim l).isEmpty then [47] else
    let s := (rtrim l).drop (lastSl (rtrim l))
    if s == suf then s else if endsL s suf then s.take (s.length - suf.length) else s
theorem F23_eq (k : Nat) (l suf : List UInt8) (h : l.length ≤ big) (hk : l.length < k) : F23.go k (arr l) (arr suf) = some ((arr (baseL l suf), ()), (), ()) := by
  have hr := rtrim_length l
  have h' : l.length ≤ 140737488351232 := h
  have hrb : (rtrim l).length ≤ big := by show _ ≤ 140737488351232; omega
  have hls := lastSl_le (rtrim l)
  unfold F23.go baseL
  rw [F36_eq k l h hk]
  show (bif kindOf l == 0 then _ else bif kindOf l == 1 then _ else _) = _
  unfold kindOf
  cases l.isEmpty
  · cases hre : (rtrim l).isEmpty
    · show Option.bind (F37.go k (arr l) (arr [47])) _ = _
      rw [F37_eq k l h hk]
      show Option.bind (F38.go k (arr (rtrim l)) 47) _ = _
      rw [F38_eq k _ hrb (by omega)]
      have e1 : IntKind.i64.wrap ((((lastSl (rtrim l) : Nat) : Int) - 1) + 1) = ((lastSl (rtrim l) : Nat) : Int) := by rw [wrap_id (by omega) (by omega)]; omega
      simp only [Option.bind_some]
      rw [e1, Int.toNat_natCast, arr_extract_size, arr_size]
      rw [dec0, leD (lastSl_le _)]
      rw [tl_beq, F39_eq k _ _ (by rw [List.length_drop]; show _ ≤ 140737488351232; omega)]
      simp only [cond_true, Bool.and_true, Bool.false_eq_true, if_false]
      cases ((rtrim l).drop (lastSl (rtrim l)) == suf) <;> rfl
    · rfl
  · rfl
theorem F24_eq (k : Nat) (l suf : List UInt8) (h : l.length ≤ big) (hk : l.length < k) : F24.go k (arr l) (arr suf) = some ((arr (baseL l suf), ()), (), ()) := by
  have hr := rtrim_length l
  have h' : l.length ≤ 140737488351232 := h
  have hrb : (rtrim l).length ≤ big := by show _ ≤ 140737488351232; omega
  have hls := lastSl_le (rtrim l)
  unfold F24.go baseL
  have e1 : ((arr l).toList == (⟨⟨[]⟩⟩ : ByteArray).toList) = l.isEmpty := (tl_beq l []).trans (nil_beq l)
  rw [e1]
  cases l.isEmpty
  · simp only [cond_false, Bool.false_eq_true, if_false]
    rw [F40_eq k l h hk]
    simp only [Option.bind_some]
    have e2 : ((arr (rtrim l)).toList == (⟨⟨[]⟩⟩ : ByteArray).toList) = (rtrim l).isEmpty := (tl_beq _ []).trans (nil_beq _)
    rw [e2]
    cases hre : (rtrim l).isEmpty
    · simp only [cond_false, Bool.false_eq_true, if_false]
      rw [F41_eq k _ hrb (by omega)]
      simp only [Option.bind_some]
      rw [Int.toNat_natCast, arr_extract_size, arr_size]
      rw [dec0, leD (lastSl_le _)]
      simp only [cond_true, Bool.and_true]
      generalize hs : (rtrim l).drop (lastSl (rtrim l)) = s
      have hsl : s.length ≤ big := by rw [← hs, List.length_drop]; show _ ≤ 140737488351232; omega
      rw [arr_size, arr_size]
      by_cases hl : suf.length < s.length
      · rw [decide_eq_true (show ((suf.length : Int) < (s.length : Int)) by omega), wsubN _ _ hsl (by omega), Int.toNat_natCast]
        rw [dec0, leD (Nat.sub_le _ _)]
        simp only [cond_true, Bool.and_true]
        rw [show s.length = (arr s).size from rfl, arr_extract_size, ext0, tl_beq, arr_size]
        have hne : (s == suf) = false := by
          cases hh : (s == suf) with
          | false => rfl
          | true => have := eq_of_beq hh; subst this; omega
        have hen : endsL s suf = (s.drop (s.length - suf.length) == suf) := by
          unfold endsL; rw [decide_eq_true (by omega)]; rfl
        rw [hne, hen]
        cases (s.drop (s.length - suf.length) == suf) <;> rfl
      · rw [decide_eq_false (show ¬ ((suf.length : Int) < (s.length : Int)) by omega)]
        simp only [cond_false]
        by_cases hh : (s == suf) = true
        · rw [if_pos hh]
        · rw [if_neg hh]
          have hen : endsL s suf = false := by
            unfold endsL
            by_cases hle : suf.length ≤ s.length
            · have : s.length - suf.length = 0 := by omega
              rw [this, List.drop_zero, Bool.eq_false_iff.2 hh]; simp
            · rw [decide_eq_false hle]; rfl
          rw [hen]; rfl
    · rfl
  · rfl
def dirL (l : List UInt8) : List UInt8 :=
  if l.isEmpty then [46] else if (rtrim l).isEmpty then [47] else
    if lastSl (rtrim l) = 0 then [46] else
      let s := rtrim ((rtrim l).take (lastSl (rtrim l) - 1))
      if s.isEmpty then [47] else s
end Go.Proofs.Tryd.S

namespace Go.Proofs.Tryd.S
open Go Go.Ev
theorem take_last : ∀ (n : Nat) (l : List UInt8), l.length = n → lastSl l ≠ 0 → l.take (lastSl l) = l.take (lastSl l - 1) ++ [47]
  | 0, l, hl, h => by
    have : l = [] := List.length_eq_zero_iff.1 hl
    subst this; exact absurd rfl h
  | n + 1, l, hl, h => by
    rcases snoc_cases l with rfl | ⟨m, c, rfl⟩
    · exact absurd rfl h
    · rw [lastSl_snoc] at h ⊢
      by_cases hc : (c == 47) = true
      · rw [if_pos hc]
        have : c = 47 := eq_of_beq hc
        subst this
        have e1 : (m ++ [47]).take (m.length + 1) = m ++ [47] := by rw [List.take_of_length_le (by simp)]
        have e2 : (m ++ [(47 : UInt8)]).take (m.length + 1 - 1) = m := by simp
        rw [e1, e2]
      · rw [if_neg hc] at h ⊢
        have ih := take_last n m (by simpa using hl) h
        have hle := lastSl_le m
        rw [List.take_append_of_le_length hle, List.take_append_of_le_length (by omega)]
        exact ih
theorem F25_31 (k : Nat) (l : List UInt8) (h : l.length ≤ big) (hk : l.length < k) (hz : lastSl l ≠ 0) :
    F25.go31 k (((lastSl l : Nat) : Int) - 1) (arr l) = some ((arr (if (rtrim (l.take (lastSl l - 1))).isEmpty then [47] else rtrim (l.take (lastSl l - 1))), ()), (), ()) := by
  have hle := lastSl_le l
  have h' : l.length ≤ 140737488351232 := h
  unfold F25.go31
  have e : ((lastSl l : Nat) : Int) - 1 = ((lastSl l - 1 : Nat) : Int) := by omega
  rw [e, Int.toNat_natCast, dec0, arr_size, leD (by omega), ext0]
  simp only [cond_true, Bool.and_true]
  show Option.bind (F37.go k (arr (l.take (lastSl l - 1))) (arr [47])) _ = _
  rw [F37_eq k _ (by rw [List.length_take]; show _ ≤ 140737488351232; omega) (by rw [List.length_take]; omega)]
  simp only [Option.bind_some]
  show (bif ((arr (rtrim (l.take (lastSl l - 1)))).toList == (arr []).toList) then _ else _) = _
  rw [tl_beq, nil_beq]
  cases (rtrim (l.take (lastSl l - 1))).isEmpty <;> rfl
theorem F25_tail (k : Nat) (l : List UInt8) (h : l.length ≤ big) (hk : l.length < k) (hre : (rtrim l).isEmpty = false) (hle : l.isEmpty = false) :
    (Option.bind (F37.go k (arr l) (arr [47])) fun y3 => Option.bind (F38.go k y3.1.1 47) fun y4 => bif decide (y4.1.1 < 0) then some ((arr [46], ()), (), ()) else Option.bind (F25.go31 k y4.1.1 y3.1.1) fun y5 => some ((y5.1.1, ()), (), ())) = some ((arr (dirL l), ()), (), ()) := by
  have hr := rtrim_length l
  have h' : l.length ≤ 140737488351232 := h
  have hrb : (rtrim l).length ≤ big := by show _ ≤ 140737488351232; omega
  rw [F37_eq k l h hk]
  simp only [Option.bind_some]
  rw [F38_eq k _ hrb (by omega)]
  simp only [Option.bind_some]
  unfold dirL
  rw [hle, hre]
  simp only [Bool.false_eq_true, if_false]
  by_cases hz : lastSl (rtrim l) = 0
  · rw [if_pos hz, hz]; rfl
  · rw [if_neg hz, decide_eq_false (by omega), F25_31 k _ hrb (by omega) hz]; rfl
theorem F25_eq (k : Nat) (l : List UInt8) (h : l.length ≤ big) (hk : l.length < k) : F25.go k (arr l) = some ((arr (dirL l), ()), (), ()) := by
  unfold F25.go
  rw [F36_eq k l h hk]
  simp only [Option.bind_some]
  unfold kindOf
  cases hle : l.isEmpty
  · cases hre : (rtrim l).isEmpty
    · exact F25_tail k l h hk hre hle
    · unfold dirL
      rw [hle, hre]; rfl
  · have : l = [] := List.isEmpty_iff.1 hle
    subst this
    simp only [if_true]
    show (Option.bind (F37.go k (arr []) (arr [47])) fun y3 => Option.bind (F38.go k y3.1.1 47) fun y4 => bif decide (y4.1.1 < 0) then some ((arr [46], ()), (), ()) else Option.bind (F25.go31 k y4.1.1 y3.1.1) fun y5 => some ((y5.1.1, ()), (), ())) = _
    rw [F37_eq k [] h hk]
    simp only [Option.bind_some]
    rw [rtrim_nil, F38_eq k [] h hk]; rfl
theorem F26_eq (k : Nat) (l : List UInt8) (h : l.length ≤ big) (hk : l.length < k) : F26.go k (arr l) = some ((arr (dirL l), ()), (), ()) := by
  have hr := rtrim_length l
  have h' : l.length ≤ 140737488351232 := h
  have hrb : (rtrim l).length ≤ big := by show _ ≤ 140737488351232; omega
  have hls := lastSl_le (rtrim l)
  unfold F26.go dirL
  have e1 : ((arr l).toList == (⟨⟨[]⟩⟩ : ByteArray).toList) = l.isEmpty := (tl_beq l []).trans (nil_beq l)
  rw [e1]
  cases l.isEmpty
  · simp only [cond_false, Bool.false_eq_true, if_false]
    rw [F40_eq k l h hk]
    simp only [Option.bind_some]
    have e2 : ((arr (rtrim l)).toList == (⟨⟨[]⟩⟩ : ByteArray).toList) = (rtrim l).isEmpty := (tl_beq _ []).trans (nil_beq _)
    rw [e2]
    cases hre : (rtrim l).isEmpty
    · simp only [cond_false, Bool.false_eq_true, if_false]
      rw [F41_eq k _ hrb (by omega)]
      simp only [Option.bind_some]
      by_cases hz : lastSl (rtrim l) = 0
      · rw [if_pos hz, hz]; rfl
      · rw [if_neg hz]
        have e3 : ((((lastSl (rtrim l) : Nat) : Int)) == 0) = false := by simp; exact hz
        rw [e3]
        simp only [cond_false]
        have e4 : F26.go127 k ((lastSl (rtrim l) : Nat) : Int) (arr (rtrim l)) = some ((arr (if (rtrim ((rtrim l).take (lastSl (rtrim l) - 1))).isEmpty then [47] else rtrim ((rtrim l).take (lastSl (rtrim l) - 1))), ()), (), ()) := by
          unfold F26.go127
          rw [Int.toNat_natCast, dec0, arr_size, leD hls, ext0]
          simp only [cond_true, Bool.and_true]
          rw [F40_eq k _ (by rw [List.length_take]; show _ ≤ 140737488351232; omega) (by rw [List.length_take]; omega), take_last _ _ rfl hz, rtrim_snoc, if_pos (by rfl)]
          simp only [Option.bind_some]
          show (bif ((arr (rtrim ((rtrim l).take (lastSl (rtrim l) - 1)))).toList == (arr []).toList) then _ else _) = _
          rw [tl_beq, nil_beq]
          cases (rtrim ((rtrim l).take (lastSl (rtrim l) - 1))).isEmpty <;> rfl
        rw [e4]; rfl
    · rfl
  · rfl
set_option maxRecDepth 1000000 in
theorem livesK (k : Nat) : F14.go (k + 300) = some (Sum.inl ((true, ()), (), ())) := by kernel_rfl
theorem lives (k : Nat) (hk : 300 ≤ k) : F14.go k = some (Sum.inl ((true, ()), (), ())) := by
  obtain ⟨k, rfl⟩ : ∃ k', k = k' + 300 := ⟨k - 300, by omega⟩
  exact livesK k
/-- Base and Dir are basename and dirname -/
theorem pathEnds (k : Nat) (a b : List UInt8) (h : a.length ≤ big) (hk : a.length < k) (hk2 : 300 ≤ k) : F6.go k (arr a) (arr b) = some (Sum.inl ((true, ()), (), ())) := by
  unfold F6.go
  rw [F23_eq k a b h hk]
  simp only [Option.bind_some]
  rw [F24_eq k a b h hk]
  simp only [Option.bind_some]
  rw [beq_self_eq_true, F25_eq k a h hk]
  simp only [Option.bind_some, cond_true]
  rw [F26_eq k a h hk]
  simp only [Option.bind_some]
  rw [beq_self_eq_true, lives k hk2]; rfl
end Go.Proofs.Tryd.S

