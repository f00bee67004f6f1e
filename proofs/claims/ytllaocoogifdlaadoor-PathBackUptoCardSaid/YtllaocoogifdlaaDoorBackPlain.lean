/- The plain law: what the functions that the law compares make is the same, over lists and numbers alone. -/
import Derived.Test.YtllaocoogifdlaaDoorBackWalk2
import Derived.Test.YtllaocoogifdlaaDoorEv4
import Derived.KernelRfl
set_option linter.unusedVariables false
set_option linter.unusedSimpArgs false
set_option linter.unusedSectionVars false
set_option maxRecDepth 100000
namespace Go.Proofs.Tryd.S
open Go Go.Ev
theorem loopN_inr {A B : Type} {f : A → Option (A ⊕ B)} {k : Nat} {x : A} {y : B} (h : f x = some (.inr y)) : loopN f (k + 1) x = some y := by
  unfold loopN; rw [h]
theorem loopN_inl {A B : Type} {f : A → Option (A ⊕ B)} {k : Nat} {x x' : A} (h : f x = some (.inl x')) : loopN f (k + 1) x = loopN f k x' := by
  rw [loopN, h]
abbrev big : Nat := 140737488351232
theorem wadd1 (a : Nat) (h : a + 1 ≤ big) : IntKind.i64.wrap ((a : Int) + 1) = ((a + 1 : Nat) : Int) := by
  have h' : a + 1 ≤ 140737488351232 := h
  rw [wrap_id (by omega) (by omega)]; omega
theorem wsub1 (a : Nat) (h : a + 1 ≤ big) : IntKind.i64.wrap (((a + 1 : Nat) : Int) - 1) = (a : Int) := by
  have h' : a + 1 ≤ 140737488351232 := h
  rw [wrap_id (by omega) (by omega)]; omega
theorem tl_beq (a b : List UInt8) : ((arr a).toList == (arr b).toList) = (a == b) := by rw [arr_toList, arr_toList]
theorem nil_beq (a : List UInt8) : (a == []) = a.isEmpty := by cases a <;> rfl
theorem get_snoc (m : List UInt8) (c : UInt8) : (m ++ [c]).getD m.length 0 = c := by simp
theorem ext0 (l : List UInt8) (n : Nat) : (arr l).extract 0 n = arr (l.take n) := by rw [arr_extract]; simp
theorem beq47 (c : UInt8) : ((c.toNat : Int) == 47) = (c == 47) := by
  rw [Bool.eq_iff_iff]
  simp only [beq_iff_eq]
  constructor
  · intro h
    have : c.toNat = (47 : UInt8).toNat := by have : (47 : UInt8).toNat = 47 := rfl; omega
    exact UInt8.toNat_inj.1 this
  · intro h; subst h; rfl
theorem dec0 (p : Nat) : decide ((0 : Int) ≤ (p : Int)) = true := decide_eq_true (by omega)
theorem dec0' (p : Nat) : decide ((p : Int) ≥ 0) = true := decide_eq_true (by omega)
theorem ltD {i n : Nat} (h : i < n) : decide ((i : Int) < (n : Int)) = true := decide_eq_true (by omega)
theorem leD {i n : Nat} (h : i ≤ n) : decide ((i : Int) ≤ (n : Int)) = true := decide_eq_true (by omega)
theorem ltN {i n : Nat} (h : ¬ i < n) : decide ((i : Int) < (n : Int)) = false := decide_eq_false (by omega)
/-- without slashes at its end -/
def rtrim (l : List UInt8) : List UInt8 := (l.reverse.dropWhile (· == 47)).reverse
theorem rtrim_nil : rtrim [] = [] := rfl
theorem rtrim_snoc (m : List UInt8) (c : UInt8) : rtrim (m ++ [c]) = if c == 47 then rtrim m else m ++ [c] := by
  unfold rtrim
  rw [List.reverse_append]
  show (List.dropWhile (· == 47) (c :: m.reverse)).reverse = _
  rw [List.dropWhile_cons]
  by_cases h : (c == 47) = true
  · rw [if_pos h, if_pos h]
  · rw [if_neg h, if_neg h]; simp
theorem snoc_cases (l : List UInt8) : l = [] ∨ ∃ m c, l = m ++ [c] := by
  rcases List.eq_nil_or_concat l with h | ⟨m, c, h⟩
  · exact .inl h
  · exact .inr ⟨m, c, by simpa using h⟩
theorem F49_nil (k : Nat) : F49.s12 k ((arr [], 47, ()), (), ()) = some (.inr ((arr [], ()), (), ())) := rfl
theorem F49_snoc (k : Nat) (m : List UInt8) (c : UInt8) (h : m.length + 1 ≤ big) : F49.s12 k ((arr (m ++ [c]), 47, ()), (), ()) = if c == 47 then some (.inl ((arr m, 47, ()), (), ())) else some (.inr ((arr (m ++ [c]), ()), (), ())) := by
  show F49.go12 k (arr (m ++ [c])) 47 = _
  unfold F49.go12
  have hl : (m ++ [c]).length = m.length + 1 := by simp
  rw [arr_size, hl, wsub1 _ h, Int.toNat_natCast, arr_get, get_snoc, beq47, ext0]
  have h1 : decide (((m.length + 1 : Nat) : Int) > 0) = true := decide_eq_true (by omega)
  have h2 : (decide ((0 : Int) ≤ (m.length : Int)) && decide ((m.length : Int) < ((m.length + 1 : Nat) : Int))) = true := by simp; omega
  have h3 : (decide ((0 : Int) ≤ (m.length : Int)) && decide ((m.length : Int) ≤ ((m.length + 1 : Nat) : Int)) && true) = true := by simp; omega
  rw [h1, h2, h3]
  simp only [cond_true]
  rw [show (m ++ [c]).take m.length = m by simp]
  cases hc : (c == 47) <;> rfl
theorem F49_loop : ∀ (n : Nat) (l : List UInt8) (k q : Nat), l.length = n → l.length ≤ big → n < k → loopN (F49.s12 q) k ((arr l, 47, ()), (), ()) = some ((arr (rtrim l), ()), (), ()) := by
  intro n
  induction n with
  | zero =>
    intro l k q hl _ hk
    have : l = [] := List.length_eq_zero_iff.1 hl
    subst this
    obtain ⟨k, rfl⟩ : ∃ k', k = k' + 1 := ⟨k - 1, by omega⟩
    exact loopN_inr (F49_nil q)
  | succ n ih =>
    intro l k q hl hb hk
    obtain ⟨k, rfl⟩ : ∃ k', k = k' + 1 := ⟨k - 1, by omega⟩
    rcases snoc_cases l with rfl | ⟨m, c, rfl⟩
    · simp at hl
    · have hl' : m.length + 1 = n + 1 := by simpa using hl
      have hb' : m.length + 1 ≤ big := by simpa using hb
      have hs := F49_snoc q m c hb'
      rw [rtrim_snoc]
      by_cases hc : (c == 47) = true
      · rw [if_pos hc] at hs ⊢
        rw [loopN_inl hs]
        exact ih m k q (by omega) (by omega) (by omega)
      · rw [if_neg hc] at hs ⊢
        exact loopN_inr hs
theorem F49_eq (k : Nat) (l : List UInt8) (h : l.length ≤ big) (hk : l.length < k) : F49.go k (arr l) 47 = some ((arr (rtrim l), ()), (), ()) := by
  show Option.bind (loopN (F49.s12 k) k ((arr l, 47, ()), (), ())) _ = _
  rw [F49_loop _ l k k rfl h hk]; rfl
theorem sl_ne : ((arr [47]).toList == (⟨⟨[]⟩⟩ : ByteArray).toList) = false := (tl_beq [47] []).trans rfl
/-- TrimRight by slashes -/
theorem F37_eq (k : Nat) (l : List UInt8) (h : l.length ≤ big) (hk : l.length < k) : F37.go k (arr l) (arr [47]) = some ((arr (rtrim l), ()), (), ()) := by
  unfold F37.go
  have e1 : ((arr l).toList == (⟨⟨[]⟩⟩ : ByteArray).toList) = l.isEmpty := (tl_beq l []).trans (nil_beq l)
  rw [e1]
  cases l with
  | nil => rfl
  | cons a r =>
    rw [sl_ne]
    simp only [List.isEmpty_cons, cond_false]
    show Option.bind (F49.go k (arr (a :: r)) 47) (fun y3 => some ((y3.1.1, ()), (), ())) = _
    rw [F49_eq k _ h hk]; rfl
theorem F59_loop : ∀ (l : List UInt8) (k q : Nat), l.length < k → loopN (F59.s12 q) k ((arr l, 47, ()), (), ()) = some ((arr (l.dropWhile (· == 47)), ()), (), ())
  | [], k, q, hk => by
    obtain ⟨k, rfl⟩ : ∃ k', k = k' + 1 := ⟨k - 1, by omega⟩
    exact loopN_inr rfl
  | a :: r, k, q, hk => by
    obtain ⟨k, rfl⟩ : ∃ k', k = k' + 1 := ⟨k - 1, by omega⟩
    have hs : F59.s12 q ((arr (a :: r), 47, ()), (), ()) = if a == 47 then some (.inl ((arr r, 47, ()), (), ())) else some (.inr ((arr (a :: r), ()), (), ())) := by
      show F59.go12 q (arr (a :: r)) 47 = _
      unfold F59.go12
      have h1 : decide (((arr (a :: r)).size : Int) > 0) = true := decide_eq_true (by show ((r.length + 1 : Nat) : Int) > 0; omega)
      have h3 : decide (1 ≤ ((arr (a :: r)).size : Int)) = true := decide_eq_true (by show 1 ≤ ((r.length + 1 : Nat) : Int); omega)
      rw [h1, h3, arr_get, arr_extract_size]
      simp only [cond_true]
      show (bif ((a.toNat : Int) == 47) then _ else _) = _
      rw [beq47]
      cases hc : (a == 47) <;> rfl
    rw [List.dropWhile_cons]
    by_cases hc : (a == 47) = true
    · rw [if_pos hc] at hs ⊢
      rw [loopN_inl hs]
      exact F59_loop r k q (by simp only [List.length_cons] at hk; omega)
    · rw [if_neg hc] at hs ⊢
      exact loopN_inr hs
theorem F59_eq (k : Nat) (l : List UInt8) (hk : l.length < k) : F59.go k (arr l) 47 = some ((arr (l.dropWhile (· == 47)), ()), (), ()) := by
  show Option.bind (loopN (F59.s12 k) k ((arr l, 47, ()), (), ())) _ = _
  rw [F59_loop l k k hk]; rfl
theorem rtrim_length (l : List UInt8) : (rtrim l).length ≤ l.length := by
  unfold rtrim
  rw [List.length_reverse]
  have := (List.dropWhile_suffix (l := l.reverse) (· == 47)).length_le
  rw [List.length_reverse] at this; exact this
/-- Trim by slashes -/
theorem F48_eq (k : Nat) (l : List UInt8) (h : l.length ≤ big) (hk : l.length < k) : F48.go k (arr l) (arr [47]) = some ((arr ((rtrim l).dropWhile (· == 47)), ()), (), ()) := by
  unfold F48.go
  have e1 : ((arr l).toList == (⟨⟨[]⟩⟩ : ByteArray).toList) = l.isEmpty := (tl_beq l []).trans (nil_beq l)
  rw [e1]
  cases l with
  | nil => rfl
  | cons a r =>
    rw [sl_ne]
    simp only [List.isEmpty_cons, cond_false]
    show Option.bind (F49.go k (arr (a :: r)) 47) (fun y3 => Option.bind (F59.go k y3.1.1 47) (fun y4 => some ((y4.1.1, ()), (), ()))) = _
    rw [F49_eq k _ h hk]
    show Option.bind (F59.go k (arr (rtrim (a :: r))) 47) (fun y4 => some ((y4.1.1, ()), (), ())) = _
    rw [F59_eq k _ (by have := rtrim_length (a :: r); omega)]; rfl
/-- what is left of a text of slashes alone -/
theorem trim_empty (l : List UInt8) : ((rtrim l).dropWhile (· == 47)).isEmpty = (rtrim l).isEmpty := by
  rcases snoc_cases (rtrim l) with h | ⟨m, c, h⟩
  · rw [h]; rfl
  · have hc : (c == 47) = false := by
      rcases snoc_cases l with rfl | ⟨m', c', rfl⟩
      · rw [rtrim_nil] at h; simp at h
      · -- the last byte that stays is no slash
        have key : ∀ (l : List UInt8) m c, rtrim l = m ++ [c] → (c == 47) = false := by
          intro l
          unfold rtrim
          intro m c hh
          have hh2 : l.reverse.dropWhile (· == 47) = c :: m.reverse := by
            have := congrArg List.reverse hh
            simpa using this
          have := List.head_dropWhile_not (p := fun x : UInt8 => x == 47) (l := l.reverse) (by rw [hh2]; simp)
          simp only [hh2, List.head_cons] at this
          exact this
        exact key _ m c h
    rw [h]
    have : (m ++ [c]).dropWhile (· == 47) ≠ [] := by
      intro e
      have := List.takeWhile_append_dropWhile (p := fun x : UInt8 => x == 47) (l := m ++ [c])
      rw [e, List.append_nil] at this
      have hall : ∀ x ∈ List.takeWhile (fun x : UInt8 => x == 47) (m ++ [c]), (x == 47) = true := fun x hx => List.all_eq_true.1 (List.all_takeWhile) x hx
      rw [this] at hall
      have := hall c (by simp)
      rw [hc] at this; cases this
    cases hh : (m ++ [c]).dropWhile (· == 47) with
    | nil => exact absurd hh this
    | cons a r => simp
def kindOf (l : List UInt8) : Int := if l.isEmpty then 0 else if (rtrim l).isEmpty then 1 else 2
theorem F36_eq (k : Nat) (l : List UInt8) (h : l.length ≤ big) (hk : l.length < k) : F36.go k (arr l) = some ((kindOf l, ()), (), ()) := by
  unfold F36.go kindOf
  have e1 : ((arr l).toList == (⟨⟨[]⟩⟩ : ByteArray).toList) = l.isEmpty := (tl_beq l []).trans (nil_beq l)
  rw [e1]
  cases l with
  | nil => rfl
  | cons a r =>
    show Option.bind (F48.go k (arr (a :: r)) (arr [47])) _ = _
    rw [F48_eq k _ h hk]
    show (bif ((arr ((rtrim (a :: r)).dropWhile (· == 47))).toList == (arr []).toList) then _ else _) = _
    rw [tl_beq, nil_beq, trim_empty]
    cases (rtrim (a :: r)).isEmpty <;> rfl
/-- the place behind the last slash -/
def lastSl (l : List UInt8) : Nat := l.length - (l.reverse.takeWhile (fun x => !(x == 47))).length
theorem lastSl_snoc (m : List UInt8) (c : UInt8) : lastSl (m ++ [c]) = if c == 47 then m.length + 1 else lastSl m := by
  unfold lastSl
  rw [List.reverse_append, List.length_append]
  show m.length + 1 - (List.takeWhile (fun x => !(x == 47)) (c :: m.reverse)).length = _
  rw [List.takeWhile_cons]
  cases hc : (c == 47)
  · have := (List.takeWhile_prefix (l := m.reverse) (fun x => !(x == 47))).length_le
    rw [List.length_reverse] at this
    simp
  · simp
theorem lastSl_le (l : List UInt8) : lastSl l ≤ l.length := by unfold lastSl; omega
theorem F53_loop : ∀ (n : Nat) (m t : List UInt8) (k q : Nat), m.length = n → (m ++ t).length ≤ big → n < k →
    loopN (F53.s26 q) k ((((m.length : Nat) : Int) - 1, 47, arr (m ++ t), ()), (), ()) = some (if lastSl m = 0 then .inr ((), (), ()) else .inl ((((lastSl m : Nat) : Int) - 1, ()), (), ())) := by
  intro n
  induction n with
  | zero =>
    intro m t k q hl _ hk
    have : m = [] := List.length_eq_zero_iff.1 hl
    subst this
    obtain ⟨k, rfl⟩ : ∃ k', k = k' + 1 := ⟨k - 1, by omega⟩
    exact loopN_inr rfl
  | succ n ih =>
    intro m t k q hl hb hk
    obtain ⟨k, rfl⟩ : ∃ k', k = k' + 1 := ⟨k - 1, by omega⟩
    rcases snoc_cases m with rfl | ⟨m, c, rfl⟩
    · simp at hl
    · have hl' : m.length = n := by simpa using hl
      have hb' : m.length + 1 + t.length ≤ big := by rw [List.length_append, List.length_append] at hb; exact hb
      have hb2 : m.length + 1 + t.length ≤ 140737488351232 := hb'
      have e0 : (((m ++ [c]).length : Nat) : Int) - 1 = (m.length : Int) := by simp
      rw [e0, lastSl_snoc]
      have hg : (m ++ [c] ++ t).getD m.length 0 = c := by simp
      have hs : F53.s26 q (((m.length : Int), 47, arr (m ++ [c] ++ t), ()), (), ()) = if c == 47 then some (.inr (.inl (((m.length : Int), ()), (), ()))) else some (.inl ((((m.length : Nat) : Int) - 1, 47, arr (m ++ [c] ++ t), ()), (), ())) := by
        show F53.go26 q (m.length : Int) 47 (arr (m ++ [c] ++ t)) = _
        unfold F53.go26
        have hsz : (m ++ [c] ++ t).length = m.length + 1 + t.length := by simp; omega
        rw [arr_size, hsz, dec0', ltD (by omega), Int.toNat_natCast, arr_get, hg, beq47, wrap_id (by omega) (by omega)]
        cases hc : (c == 47) <;> rfl
      by_cases hc : (c == 47) = true
      · rw [if_pos hc] at hs ⊢
        rw [loopN_inr hs, if_neg (by omega)]
        have : (((m.length + 1 : Nat) : Int) - 1) = (m.length : Int) := by omega
        rw [this]
      · rw [if_neg hc] at hs ⊢
        rw [loopN_inl hs]
        have := ih m ([c] ++ t) k q hl' (by simp; show _ ≤ big; omega) (by omega)
        rw [← List.append_assoc] at this
        exact this
theorem F38_eq (k : Nat) (l : List UInt8) (h : l.length ≤ big) (hk : l.length < k) : F38.go k (arr l) 47 = some ((((lastSl l : Nat) : Int) - 1, ()), (), ()) := by
  have h' : l.length ≤ 140737488351232 := h
  have e : F53.go k (arr l) 47 = some ((((lastSl l : Nat) : Int) - 1, ()), (), ()) := by
    show Option.bind (loopN (F53.s26 k) k ((IntKind.i64.wrap (((arr l).size : Int) - 1), 47, arr l, ()), (), ())) _ = _
    have e1 : IntKind.i64.wrap (((arr l).size : Int) - 1) = (l.length : Int) - 1 := by rw [arr_size, wrap_id (by omega) (by omega)]
    have := F53_loop l.length l [] k k rfl (by simpa using h) hk
    rw [List.append_nil] at this
    rw [e1, this]
    by_cases hz : lastSl l = 0
    · rw [if_pos hz, hz]; rfl
    · rw [if_neg hz]; rfl
  unfold F38.go
  rw [e]; rfl
def endsL (s t : List UInt8) : Bool := decide (t.length ≤ s.length) && s.drop (s.length - t.length) == t
theorem wsubN (a b : Nat) (h : a ≤ big) (hb : b ≤ a) : IntKind.i64.wrap ((a : Int) - (b : Int)) = ((a - b : Nat) : Int) := by
  have h' : a ≤ 140737488351232 := h
  rw [wrap_id (by omega) (by omega)]; omega
theorem F65_eq (k : Nat) (s t : List UInt8) (h : s.length ≤ big) : F65.go k (arr s) (arr t) = some ((endsL s t, ()), (), ()) := by
  unfold F65.go endsL
  rw [arr_size, arr_size]
  by_cases hl : t.length ≤ s.length
  · rw [decide_eq_true (show ((s.length : Int) ≥ (t.length : Int)) by omega), wsubN _ _ h hl, Int.toNat_natCast, decide_eq_true hl]
    rw [dec0, leD (Nat.sub_le _ _)]
    simp only [cond_true, Bool.true_and]
    rw [show s.length = (arr s).size from rfl, arr_extract_size, tl_beq]
  · rw [decide_eq_false (show ¬ ((s.length : Int) ≥ (t.length : Int)) by omega), decide_eq_false hl]; rfl
theorem F39_eq (k : Nat) (s t : List UInt8) (h : s.length ≤ big) : F39.go k (arr s) (arr t) = some ((arr (if endsL s t then s.take (s.length - t.length) else s), ()), (), ()) := by
  have e : F54.go k (arr s) (arr t) = some ((arr (if endsL s t then s.take (s.length - t.length) else s), ()), (), ()) := by
    unfold F54.go
    rw [F65_eq k s t h]
    show (bif endsL s t then _ else _) = _
    cases he : endsL s t
    · rfl
    · have hl : t.length ≤ s.length := by
        unfold endsL at he
        rw [Bool.and_eq_true] at he
        exact of_decide_eq_true he.1
      rw [arr_size, arr_size, wsubN _ _ h hl, Int.toNat_natCast]
      rw [dec0, leD (Nat.sub_le _ _), ext0]; rfl
  unfold F39.go
  rw [e]; rfl
def baseL (l suf : List UInt8) : List UInt8 :=
  if l.isEmpty then [46] else if (rtrim l).isEmpty then [47] else
    let s := (rtrim l).drop (lastSl (rtrim l))
    if s == suf then s else if endsL s suf then s.take (s.length - suf.length) else s
theorem F23_eq (k : Nat) (l suf : List UInt8) (h : l.length ≤ big) (hk : l.length < k) : F23.go k (arr l) (arr suf) = some ((arr (baseL l suf), ()), (), ()) := by
  have hr := rtrim_length l
  have h' : l.length ≤ 140737488351232 := h
  have hrb : (rtrim l).length ≤ big := by show _ ≤ 140737488351232; omega
  have hls := lastSl_le (rtrim l)
  unfold F23.go baseL
  rw [F36_eq k l h hk]
  show (bif kindOf l == 0 then _ else bif kindOf l == 1 then _ else _) = _
  unfold kindOf
  cases l.isEmpty
  · cases hre : (rtrim l).isEmpty
    · show Option.bind (F37.go k (arr l) (arr [47])) _ = _
      rw [F37_eq k l h hk]
      show Option.bind (F38.go k (arr (rtrim l)) 47) _ = _
      rw [F38_eq k _ hrb (by omega)]
      have e1 : IntKind.i64.wrap ((((lastSl (rtrim l) : Nat) : Int) - 1) + 1) = ((lastSl (rtrim l) : Nat) : Int) := by rw [wrap_id (by omega) (by omega)]; omega
      simp only [Option.bind_some]
      rw [e1, Int.toNat_natCast, arr_extract_size, arr_size]
      rw [dec0, leD (lastSl_le _)]
      rw [tl_beq, F39_eq k _ _ (by rw [List.length_drop]; show _ ≤ 140737488351232; omega)]
      simp only [cond_true, Bool.and_true, Bool.false_eq_true, if_false]
      cases ((rtrim l).drop (lastSl (rtrim l)) == suf) <;> rfl
    · rfl
  · rfl
def dirL (l : List UInt8) : List UInt8 :=
  if l.isEmpty then [46] else if (rtrim l).isEmpty then [47] else
    if lastSl (rtrim l) = 0 then [46] else
      let s := rtrim ((rtrim l).take (lastSl (rtrim l) - 1))
      if s.isEmpty then [47] else s
theorem take_last : ∀ (n : Nat) (l : List UInt8), l.length = n → lastSl l ≠ 0 → l.take (lastSl l) = l.take (lastSl l - 1) ++ [47]
  | 0, l, hl, h => by
    have : l = [] := List.length_eq_zero_iff.1 hl
    subst this; exact absurd rfl h
  | n + 1, l, hl, h => by
    rcases snoc_cases l with rfl | ⟨m, c, rfl⟩
    · exact absurd rfl h
    · rw [lastSl_snoc] at h ⊢
      by_cases hc : (c == 47) = true
      · rw [if_pos hc]
        have : c = 47 := eq_of_beq hc
        subst this
        have e1 : (m ++ [47]).take (m.length + 1) = m ++ [47] := by rw [List.take_of_length_le (by simp)]
        have e2 : (m ++ [(47 : UInt8)]).take (m.length + 1 - 1) = m := by simp
        rw [e1, e2]
      · rw [if_neg hc] at h ⊢
        have ih := take_last n m (by simpa using hl) h
        have hle := lastSl_le m
        rw [List.take_append_of_le_length hle, List.take_append_of_le_length (by omega)]
        exact ih
theorem F25_31 (k : Nat) (l : List UInt8) (h : l.length ≤ big) (hk : l.length < k) (hz : lastSl l ≠ 0) :
    F25.go31 k (((lastSl l : Nat) : Int) - 1) (arr l) = some ((arr (if (rtrim (l.take (lastSl l - 1))).isEmpty then [47] else rtrim (l.take (lastSl l - 1))), ()), (), ()) := by
  have hle := lastSl_le l
  have h' : l.length ≤ 140737488351232 := h
  unfold F25.go31
  have e : ((lastSl l : Nat) : Int) - 1 = ((lastSl l - 1 : Nat) : Int) := by omega
  rw [e, Int.toNat_natCast, dec0, arr_size, leD (by omega), ext0]
  simp only [cond_true, Bool.and_true]
  show Option.bind (F37.go k (arr (l.take (lastSl l - 1))) (arr [47])) _ = _
  rw [F37_eq k _ (by rw [List.length_take]; show _ ≤ 140737488351232; omega) (by rw [List.length_take]; omega)]
  simp only [Option.bind_some]
  show (bif ((arr (rtrim (l.take (lastSl l - 1)))).toList == (arr []).toList) then _ else _) = _
  rw [tl_beq, nil_beq]
  cases (rtrim (l.take (lastSl l - 1))).isEmpty <;> rfl
theorem F25_tail (k : Nat) (l : List UInt8) (h : l.length ≤ big) (hk : l.length < k) (hre : (rtrim l).isEmpty = false) (hle : l.isEmpty = false) :
    (Option.bind (F37.go k (arr l) (arr [47])) fun y3 => Option.bind (F38.go k y3.1.1 47) fun y4 => bif decide (y4.1.1 < 0) then some ((arr [46], ()), (), ()) else Option.bind (F25.go31 k y4.1.1 y3.1.1) fun y5 => some ((y5.1.1, ()), (), ())) = some ((arr (dirL l), ()), (), ()) := by
  have hr := rtrim_length l
  have h' : l.length ≤ 140737488351232 := h
  have hrb : (rtrim l).length ≤ big := by show _ ≤ 140737488351232; omega
  rw [F37_eq k l h hk]
  simp only [Option.bind_some]
  rw [F38_eq k _ hrb (by omega)]
  simp only [Option.bind_some]
  unfold dirL
  rw [hle, hre]
  simp only [Bool.false_eq_true, if_false]
  by_cases hz : lastSl (rtrim l) = 0
  · rw [if_pos hz, hz]; rfl
  · rw [if_neg hz, decide_eq_false (by omega), F25_31 k _ hrb (by omega) hz]; rfl
theorem F25_eq (k : Nat) (l : List UInt8) (h : l.length ≤ big) (hk : l.length < k) : F25.go k (arr l) = some ((arr (dirL l), ()), (), ()) := by
  unfold F25.go
  rw [F36_eq k l h hk]
  simp only [Option.bind_some]
  unfold kindOf
  cases hle : l.isEmpty
  · cases hre : (rtrim l).isEmpty
    · exact F25_tail k l h hk hre hle
    · unfold dirL
      rw [hle, hre]; rfl
  · have : l = [] := List.isEmpty_iff.1 hle
    subst this
    simp only [if_true]
    show (Option.bind (F37.go k (arr []) (arr [47])) fun y3 => Option.bind (F38.go k y3.1.1 47) fun y4 => bif decide (y4.1.1 < 0) then some ((arr [46], ()), (), ()) else Option.bind (F25.go31 k y4.1.1 y3.1.1) fun y5 => some ((y5.1.1, ()), (), ())) = _
    rw [F37_eq k [] h hk]
    simp only [Option.bind_some]
    rw [rtrim_nil, F38_eq k [] h hk]; rfl
set_option maxRecDepth 1000000 in
theorem livesK (k : Nat) : F14.go (k + 300) = some (Sum.inl ((true, ()), (), ())) := by kernel_rfl
theorem lives (k : Nat) (hk : 300 ≤ k) : F14.go k = some (Sum.inl ((true, ()), (), ())) := by
  obtain ⟨k, rfl⟩ : ∃ k', k = k' + 300 := ⟨k - 300, by omega⟩
  exact livesK k
abbrev lim : Nat := 4294967296
theorem guard16 (L : List ByteArray) (h : L.length ≤ lim) : (Nat.ble (L.length * 16) 140737488355328 && Nat.ble L.length 9223372036854775807) = true := by
  have h' : L.length ≤ 4294967296 := h
  rw [Bool.and_eq_true]
  exact ⟨Nat.ble_eq_true_of_le (by omega), Nat.ble_eq_true_of_le (by omega)⟩
theorem limBig {n : Nat} (h : n ≤ lim) : n ≤ big := Nat.le_trans h (by decide)
def lastC : List UInt8 → List UInt8 → List UInt8
  | cur, [] => cur
  | cur, c :: t => if c == 47 then lastC [] t else lastC (cur ++ [c]) t
def doneN : List UInt8 → List UInt8 → List (List UInt8)
  | cur, [] => []
  | cur, c :: t => if c == 47 then (if cur.isEmpty then doneN [] t else cur :: doneN [] t) else doneN (cur ++ [c]) t
def endN (cur : List UInt8) : List (List UInt8) := if cur.isEmpty then [] else [cur]
def splitN (cur t : List UInt8) : List (List UInt8) := doneN cur t ++ endN (lastC cur t)
theorem splitN_nil (cur : List UInt8) : splitN cur [] = endN cur := rfl
theorem doneN_cons (cur t : List UInt8) (c : UInt8) : doneN cur (c :: t) = if c == 47 then (if cur.isEmpty then doneN [] t else cur :: doneN [] t) else doneN (cur ++ [c]) t := rfl
theorem lastC_cons (cur t : List UInt8) (c : UInt8) : lastC cur (c :: t) = if c == 47 then lastC [] t else lastC (cur ++ [c]) t := rfl
theorem splitN_cons (cur t : List UInt8) (c : UInt8) : splitN cur (c :: t) = if c == 47 then endN cur ++ splitN [] t else splitN (cur ++ [c]) t := by
  unfold splitN
  rw [doneN_cons, lastC_cons]
  by_cases hc : (c == 47) = true
  · rw [if_pos hc, if_pos hc, if_pos hc]
    unfold endN
    cases hcu : cur.isEmpty
    · rfl
    · rfl
  · rw [if_neg hc, if_neg hc, if_neg hc]
/-- what the names weigh -/
def tot : List (List UInt8) → Nat
  | [] => 0
  | a :: r => a.length + 1 + tot r
theorem tot_append : ∀ a b : List (List UInt8), tot (a ++ b) = tot a + tot b
  | [], b => by simp [tot]
  | x :: a, b => by show x.length + 1 + tot (a ++ b) = x.length + 1 + tot a + tot b; rw [tot_append a b]; omega
theorem tot_len : ∀ a : List (List UInt8), a.length ≤ tot a
  | [] => Nat.le_refl _
  | x :: a => by have := tot_len a; show a.length + 1 ≤ x.length + 1 + tot a; omega
theorem tot_endN (cur : List UInt8) : tot (endN cur) ≤ cur.length + 1 := by
  unfold endN
  cases cur with
  | nil => exact Nat.zero_le _
  | cons a r => exact Nat.le_refl _
theorem tot_splitN : ∀ t cur : List UInt8, tot (splitN cur t) ≤ cur.length + t.length + 1
  | [], cur => by rw [splitN_nil]; exact Nat.le_trans (tot_endN cur) (by simp)
  | c :: t, cur => by
    rw [splitN_cons]
    by_cases hc : (c == 47) = true
    · rw [if_pos hc, tot_append]
      have h1 := tot_endN cur
      have h2 := tot_splitN t []
      simp only [List.length_nil, List.length_cons] at h2 ⊢
      omega
    · rw [if_neg hc]
      have h2 := tot_splitN t (cur ++ [c])
      simp only [List.length_append, List.length_cons, List.length_nil] at h2 ⊢
      omega
/-- the program's names are the document's -/
theorem goNamesF_eq : ∀ (t m cur : List UInt8), (goNamesF (arr (m ++ cur ++ t)) (t.length + 1) (m ++ cur).length m.length).map (·.2) = (splitN cur t).map arr
  | [], m, cur => by
    rw [splitN_nil]
    show (goNamesF _ (0 + 1) _ _).map _ = _
    rw [goNamesF, if_neg (by rw [arr_size]; simp), List.append_nil]
    have hx : (arr (m ++ cur)).extract m.length (m ++ cur).length = arr cur := by rw [← arr_size (m ++ cur), arr_extract_size]; simp
    unfold endN
    cases cur with
    | nil => rw [if_neg (by simp)]; rfl
    | cons a r =>
      rw [if_pos (by simp)]
      show (_ :: []) = _
      rw [hx]; rfl
  | c :: t, m, cur => by
    rw [splitN_cons]
    show (goNamesF _ ((t.length + 1) + 1) _ _).map _ = _
    have hg : (arr (m ++ cur ++ c :: t)).data.getD (m ++ cur).length 0 = c := by rw [arr_get]; simp
    rw [goNamesF, hg]
    by_cases hc : (c == 47) = true
    · rw [if_pos hc, if_neg (by intro h; exact h.2 (eq_of_beq hc))]
      have e1 : m ++ cur ++ c :: t = (m ++ cur ++ [c]) ++ [] ++ t := by simp
      have ih := goNamesF_eq t (m ++ cur ++ [c]) []
      have e2 : (m ++ cur).length + 1 = (m ++ cur ++ [c] ++ []).length := by simp; omega
      have e3 : (m ++ cur ++ [c] ++ []).length = (m ++ cur ++ [c]).length := by simp
      rw [e3] at ih
      rw [e2, e3, e1]
      have hx : (arr (m ++ cur ++ [c] ++ [] ++ t)).extract m.length (m ++ cur).length = arr cur := by
        rw [arr_extract]; simp
      unfold endN
      cases cur with
      | nil => rw [if_neg (by simp)]; rw [ih]; rfl
      | cons a r =>
        rw [if_pos (by simp)]
        rw [List.map_cons, hx, ih]; rfl
    · rw [if_neg hc, if_pos ⟨by rw [arr_size]; simp, by intro h; subst h; exact hc rfl⟩]
      have e1 : m ++ cur ++ c :: t = m ++ (cur ++ [c]) ++ t := by simp
      have e2 : (m ++ cur).length + 1 = (m ++ (cur ++ [c])).length := by simp; omega
      rw [e1, e2]
      exact goNamesF_eq t m (cur ++ [c])
theorem goNames_eq (s : List UInt8) : (goNames (arr s)).map (·.2) = (splitN [] s).map arr := by
  have := goNamesF_eq s [] []
  exact this
def dd : List UInt8 := [46, 46]
def cstep (abs : Bool) (out : List (List UInt8)) (n : List UInt8) : List (List UInt8) :=
  if n == [46] then out else if !(n == dd) then out ++ [n] else
    if decide (0 < out.length) && !(out.getD (out.length - 1) [] == dd) then out.take (out.length - 1) else if abs then out else out ++ [n]
theorem cstep_len (abs : Bool) (out : List (List UInt8)) (n : List UInt8) : (cstep abs out n).length ≤ out.length + 1 := by
  unfold cstep
  split
  · omega
  · split
    · simp
    · split
      · simp; omega
      · split
        · omega
        · simp
theorem tot_take : ∀ (l : List (List UInt8)) (n : Nat), tot (l.take n) ≤ tot l
  | [], n => by simp
  | a :: r, 0 => Nat.zero_le _
  | a :: r, n + 1 => by have := tot_take r n; show a.length + 1 + tot (r.take n) ≤ a.length + 1 + tot r; omega
theorem cstep_tot (abs : Bool) (out : List (List UInt8)) (n : List UInt8) : tot (cstep abs out n) ≤ tot out + (n.length + 1) := by
  have ht : tot (out ++ [n]) = tot out + (n.length + 1) := by rw [tot_append]; rfl
  unfold cstep
  split
  · omega
  · split
    · omega
    · split
      · have := tot_take out (out.length - 1); omega
      · split <;> omega
theorem fold_tot (abs : Bool) : ∀ (l out : List (List UInt8)), tot (l.foldl (cstep abs) out) ≤ tot out + tot l
  | [], out => Nat.le_refl _
  | a :: r, out => by
    have h1 := fold_tot abs r (cstep abs out a)
    have h2 := cstep_tot abs out a
    show tot (r.foldl (cstep abs) (cstep abs out a)) ≤ tot out + (a.length + 1 + tot r)
    omega
theorem map_getD (m : List (List UInt8)) (i : Nat) : (m.map arr).getD i ⟨⟨[]⟩⟩ = arr (m.getD i []) := by
  rw [List.getD_eq_getElem?_getD, List.getD_eq_getElem?_getD, List.getElem?_map]
  cases m[i]? <;> rfl
theorem wsubL (n : Nat) (h : n ≤ lim) (h0 : 0 < n) : IntKind.i64.wrap ((n : Int) - 1) = ((n - 1 : Nat) : Int) := by
  have h' : n ≤ 4294967296 := h
  rw [wrap_id (by omega) (by omega)]; omega
theorem F34_step (k : Nat) (i : Int) (abs : Bool) (n : List UInt8) (out : List (List UInt8)) (h : out.length + 1 ≤ lim) :
    F34.go122 k i (arr n) abs (out.map arr) = some ((), (((), ()), (abs, ()), (cstep abs out n).map arr, ()), ()) := by
  have h' : out.length + 1 ≤ 4294967296 := h
  have e1 : ((arr n).toList == (⟨⟨[46]⟩⟩ : ByteArray).toList) = (n == [46]) := tl_beq n [46]
  have e2 : ((arr n).toList == (⟨⟨[46, 46]⟩⟩ : ByteArray).toList) = (n == dd) := tl_beq n [46, 46]
  have e3 : out.map arr ++ [arr n] = (out ++ [n]).map arr := by simp
  have hg : (Nat.ble ((out.map arr ++ [arr n]).length * 16) 140737488355328 && Nat.ble (out.map arr ++ [arr n]).length 9223372036854775807) = true := guard16 _ (by simp; exact h)
  unfold F34.go122 cstep
  rw [e1, e2, hg, e3]
  cases n == [46]
  · cases hdd : n == dd
    · rfl
    · simp only [cond_false, cond_true, Bool.not_true, Bool.false_eq_true, if_false, List.length_map]
      by_cases hz : 0 < out.length
      · rw [decide_eq_true (show ((out.length : Int) > 0) by omega), wsubL _ (by show _ ≤ 4294967296; omega) hz, Int.toNat_natCast, dec0, ltD (by omega), leD (by omega), map_getD, decide_eq_true hz]
        have e4 : ((arr (out.getD (out.length - 1) [])).toList == (⟨⟨[46, 46]⟩⟩ : ByteArray).toList) = (out.getD (out.length - 1) [] == dd) := tl_beq _ [46, 46]
        rw [e4]
        cases out.getD (out.length - 1) [] == dd
        · simp only [cond_true, Bool.and_true, Bool.not_false, if_true, Nat.sub_zero, List.map_take]
        · cases abs <;> rfl
      · rw [decide_eq_false (show ¬ ((out.length : Int) > 0) by omega), decide_eq_false hz]
        cases abs <;> rfl
  · rfl
theorem F34_fold (k : Nat) (abs : Bool) : ∀ (l : List (List UInt8)) (xs : List (Int × ByteArray)) (out : List (List UInt8)), xs.map (·.2) = l.map arr → out.length + l.length ≤ lim →
    rfold (F34.s122 k) xs (((), (), ()), (((), ()), (abs, ()), out.map arr, ()), ()) = some (.inl (((), (), ()), (((), ()), (abs, ()), (l.foldl (cstep abs) out).map arr, ()), ()))
  | [], xs, out, hx, h => by
    have : xs = [] := by cases xs with | nil => rfl | cons a r => cases hx
    subst this; rfl
  | a :: r, xs, out, hx, h => by
    have h' : out.length + (r.length + 1) ≤ 4294967296 := h
    cases xs with
    | nil => cases hx
    | cons e xs =>
      rw [List.map_cons, List.map_cons, List.cons.injEq] at hx
      have hs : F34.s122 k (((), (), ()), (((), ()), (abs, ()), out.map arr, ()), ()) e = some (.inl (((), (), ()), (((), ()), (abs, ()), (cstep abs out a).map arr, ()), ())) := by
        show F34.gs122 k abs (out.map arr) e = _
        unfold F34.gs122
        rw [hx.1, F34_step k e.1 abs a out (by show _ ≤ 4294967296; omega)]; rfl
      rw [rfold, hs]
      exact F34_fold k abs r xs (cstep abs out a) hx.2 (by have := cstep_len abs out a; show _ ≤ 4294967296; omega)
def absL : List UInt8 → Bool
  | [] => false
  | c :: _ => c == 47
def cleanL (s : List UInt8) : List (List UInt8) := (splitN [] s).foldl (cstep (absL s)) []
theorem F47_eq (k : Nat) (s : List UInt8) : F47.go k (arr s) (arr [47]) = some ((absL s, ()), (), ()) := by
  have e : F58.go k (arr s) (arr [47]) = some ((absL s, ()), (), ()) := by
    unfold F58.go
    cases s with
    | nil => rfl
    | cons c t =>
      have h1 : decide (((arr (c :: t)).size : Int) ≥ ((arr [47]).size : Int)) = true := decide_eq_true (by show ((t.length + 1 : Nat) : Int) ≥ ((1 : Nat) : Int); omega)
      rw [h1, dec0, Int.toNat_natCast, ext0, tl_beq]
      show some ((([c] == [47]), ()), (), ()) = some ((c == 47, ()), (), ())
      have : ([c] == [47]) = (c == 47) := by simp
      rw [this]
  unfold F47.go
  rw [e]; rfl
theorem splitN_lim (s : List UInt8) (h : s.length + 1 ≤ lim) : (splitN [] s).length ≤ lim := by
  have h' : s.length + 1 ≤ 4294967296 := h
  have h1 := tot_splitN s []
  have h2 := tot_len (splitN [] s)
  simp only [List.length_nil] at h1
  show _ ≤ 4294967296; omega
theorem F34_eq (k : Nat) (s : List UInt8) (h : s.length + 1 ≤ lim) : F34.go k (arr s) = some (((absL s, (), ()), ()), ((cleanL s).map arr, ()), ()) := by
  have h' : s.length + 1 ≤ 4294967296 := h
  unfold F34.go
  show Option.bind (F47.go k (arr s) (arr [47])) _ = _
  rw [F47_eq]
  simp only [Option.bind_some]
  show (bif Nat.ble (arr s).size 4611686018427387904 then Option.bind (rfold (F34.s122 k) (goNames (arr s)) (((), (), ()), (((), ()), (absL s, ()), ([] : List (List UInt8)).map arr, ()), ())) _ else none) = _
  rw [Nat.ble_eq_true_of_le (by rw [arr_size]; omega), F34_fold k (absL s) (splitN [] s) (goNames (arr s)) [] (goNames_eq s) (by simpa using splitN_lim s h)]
  rfl
theorem cleanL_tot (s : List UInt8) : tot (cleanL s) ≤ s.length + 1 := by
  have h1 := fold_tot (absL s) (splitN [] s) []
  have h2 := tot_splitN s []
  simp only [List.length_nil, tot] at h1 h2
  unfold cleanL; omega
/-- a window of a row reads as these texts -/
structure Win (row : List ByteArray) (p : Nat × Nat) (m : List (List UInt8)) : Prop where
  le : p.1 + p.2 ≤ row.length
  eq : (row.drop p.1).take p.2 = m.map arr
theorem Win.len {row : List ByteArray} {p : Nat × Nat} {m : List (List UInt8)} (h : Win row p m) : p.2 = m.length := by
  have := congrArg List.length h.eq
  rw [List.length_take, List.length_drop, List.length_map] at this
  have := h.le
  omega
theorem Win.get {row : List ByteArray} {p : Nat × Nat} {m : List (List UInt8)} (h : Win row p m) {i : Nat} (hi : i < p.2) : row.getD (p.1 + i) ⟨⟨[]⟩⟩ = arr (m.getD i []) := by
  rw [← map_getD, ← h.eq, List.getD_eq_getElem?_getD, List.getD_eq_getElem?_getD, List.getElem?_take, if_pos hi, List.getElem?_drop]
theorem Win.shrink {row : List ByteArray} {o n : Nat} {m : List (List UInt8)} (h : Win row (o, n) m) : Win row (o + 0, m.length - 1 - 0) (m.take (m.length - 1)) := by
  have hl := h.len
  have hle := h.le
  simp only at hl hle
  refine ⟨by simp only; omega, ?_⟩
  have e := congrArg (List.take (m.length - 1)) h.eq
  rw [List.take_take] at e
  simp only [Nat.add_zero, Nat.sub_zero]
  rw [show min (m.length - 1) n = m.length - 1 by omega] at e
  rw [e, List.map_take]
theorem Win.new (m : List (List UInt8)) : Win (m.map arr) (0, m.length) m :=
  ⟨by simp, by simp only [List.drop_zero]; rw [List.take_of_length_le (by simp)]⟩
def joinT : List (List UInt8) → List UInt8
  | [] => []
  | b :: r => 47 :: b ++ joinT r
def joinL : List (List UInt8) → List UInt8
  | [] => []
  | a :: r => a ++ joinT r
theorem joinT_append : ∀ a b : List (List UInt8), joinT (a ++ b) = joinT a ++ joinT b
  | [], b => rfl
  | x :: a, b => by show 47 :: x ++ joinT (a ++ b) = 47 :: x ++ joinT a ++ joinT b; rw [joinT_append a b]; simp
theorem joinL_snoc (m : List (List UInt8)) (x : List UInt8) : joinL (m ++ [x]) = if m.isEmpty then x else joinL m ++ [47] ++ x := by
  cases m with
  | nil => show x ++ [] = x; simp
  | cons a r =>
    show a ++ joinT (r ++ [x]) = a ++ joinT r ++ [47] ++ x
    rw [joinT_append]
    show a ++ (joinT r ++ (47 :: x ++ [])) = _
    simp
theorem joinT_len : ∀ m : List (List UInt8), (joinT m).length = tot m
  | [] => rfl
  | b :: r => by
    have := joinT_len r
    show (47 :: b ++ joinT r).length = b.length + 1 + tot r
    simp; omega
theorem joinL_len (m : List (List UInt8)) : (joinL m).length ≤ tot m := by
  cases m with
  | nil => exact Nat.le_refl _
  | cons a r => show (a ++ joinT r).length ≤ a.length + 1 + tot r; rw [List.length_append, joinT_len]; omega
def strL (abs slash : Bool) (m : List (List UInt8)) : List UInt8 :=
  if m.isEmpty && !abs then [46] else (if abs then [47] else []) ++ joinL m ++ (if slash && !m.isEmpty then [47] else [])
theorem szP (a : List UInt8) (c : UInt8) : (ByteArray.mk ⟨(ByteArray.mk ⟨[c]⟩).data.toList ++ (arr a).data.toList⟩).size = 1 + a.length := by
  show ([c] ++ a).length = _; simp; omega
theorem lenZ (m : List (List UInt8)) : (((m.length : Nat) : Int) == 0) = m.isEmpty := by
  cases m with
  | nil => rfl
  | cons a r => show _ = false; simp; omega
theorem lenG (m : List (List UInt8)) : decide (((m.length : Nat) : Int) > 0) = !m.isEmpty := by
  cases m with
  | nil => rfl
  | cons a r => show _ = true; simp
theorem u8_back (c : UInt8) : UInt8.ofNat (((c.toNat : Nat) : Int)).toNat = c := by
  rw [Int.toNat_natCast]; exact UInt8.ofNat_toNat
theorem strOf_bytes (l : List UInt8) : strOf (l.map fun c => ((c.toNat : Nat) : Int)) = arr l := by
  unfold strOf arr
  congr 1
  rw [List.map_map]
  have : ((fun n : Int => UInt8.ofNat n.toNat) ∘ fun c : UInt8 => ((c.toNat : Nat) : Int)) = id := by
    funext c; exact u8_back c
  rw [this, List.map_id]
def ints (l : List UInt8) : List Int := l.map fun c => ((c.toNat : Nat) : Int)
theorem ints_append (a b : List UInt8) : ints (a ++ b) = ints a ++ ints b := by unfold ints; simp
theorem bytesOf_arr (l : List UInt8) : bytesOf (arr l) = ints l := rfl
theorem ints_len (l : List UInt8) : (ints l).length = l.length := by unfold ints; simp
theorem strOf_ints (l : List UInt8) : strOf (ints l) = arr l := strOf_bytes l
theorem F45_eq (k : Nat) (a b : List UInt8) (h : a.length + b.length ≤ lim) : F45.go k (arr b) (ints a) = some ((((b.length : Int), (), ()), ()), (((), (), ()), ints (a ++ b), ()), ()) := by
  have h' : a.length + b.length ≤ 4294967296 := h
  have hg : (Nat.ble ((ints a ++ bytesOf (arr b)).length * 1) 140737488355328 && Nat.ble (ints a ++ bytesOf (arr b)).length 9223372036854775807) = true := by
    rw [Bool.and_eq_true, bytesOf_arr, List.length_append, ints_len, ints_len]
    exact ⟨Nat.ble_eq_true_of_le (by omega), Nat.ble_eq_true_of_le (by omega)⟩
  unfold F45.go
  rw [hg, bytesOf_arr, ints_append]; rfl
theorem F31_sum (sep : List UInt8) (m : List (List UInt8)) (ht : tot m ≤ lim) (c0 : Nat) (hc0 : c0 ≤ lim) : ∀ (post pre : List (List UInt8)) (c : Nat) (k q : Nat), pre ++ post = m → c ≤ c0 + tot pre → post.length < k →
    loopN (F31.s250 q) k (((pre.length : Int), (c : Int), (), arr sep, (), (m.length : Int), ()), (m.map arr, ()), ()) = some (.inr ((arr sep, (), ((c + tot post - post.length : Nat) : Int), ()), (m.map arr, ()), ()))
  | [], pre, c, k, q, hm, hc, hk => by
    rw [List.append_nil] at hm
    subst hm
    obtain ⟨k, rfl⟩ : ∃ k', k = k' + 1 := ⟨k - 1, by omega⟩
    refine loopN_inr ?_
    show F31.go250 q (pre.length : Int) (c : Int) (arr sep) (pre.length : Int) (pre.map arr) = _
    unfold F31.go250
    rw [ltN (by omega)]; rfl
  | x :: post, pre, c, k, q, hm, hc, hk => by
    have ht' : tot m ≤ 4294967296 := ht
    have hc0' : c0 ≤ 4294967296 := hc0
    have hml : m.length = pre.length + 1 + post.length := by rw [← hm]; simp; omega
    have htl := tot_len m
    have htp : tot pre + (x.length + 1 + tot post) = tot m := by rw [← hm, tot_append]; rfl
    have hpl := tot_len post
    obtain ⟨k, rfl⟩ : ∃ k', k = k' + 1 := ⟨k - 1, by omega⟩
    have hs : F31.s250 q (((pre.length : Int), (c : Int), (), arr sep, (), (m.length : Int), ()), (m.map arr, ()), ()) = some (.inl ((((pre ++ [x]).length : Int), ((c + x.length : Nat) : Int), (), arr sep, (), (m.length : Int), ()), (m.map arr, ()), ())) := by
      show F31.go250 q (pre.length : Int) (c : Int) (arr sep) (m.length : Int) (m.map arr) = _
      unfold F31.go250
      have hwn : IntKind.i64.wrap ((pre.length : Int) + 1) = ((pre.length + 1 : Nat) : Int) := wadd1 _ (by show _ ≤ 140737488351232; omega)
      have hg : (m.map arr).getD pre.length ⟨⟨[]⟩⟩ = arr x := by rw [map_getD, ← hm]; simp
      have hl1 : (pre ++ [x]).length = pre.length + 1 := by simp
      have hw1 : IntKind.i64.wrap (9223372036854775807 - (c : Int)) = 9223372036854775807 - (c : Int) := by rw [wrap_id (by omega) (by omega)]
      have hw2 : IntKind.i64.wrap ((c : Int) + (x.length : Int)) = ((c + x.length : Nat) : Int) := by rw [wrap_id (by omega) (by omega)]; omega
      rw [List.length_map, ltD (by omega), dec0, Int.toNat_natCast, hg, hwn, arr_size, hw1, hw2, hl1, decide_eq_false (by omega)]
      rfl
    rw [loopN_inl hs, F31_sum sep m ht c0 hc0 post (pre ++ [x]) (c + x.length) k q (by rw [← hm]; simp) (by rw [tot_append]; show c + x.length ≤ c0 + (tot pre + (x.length + 1 + 0)); omega) (by simp only [List.length_cons] at hk; omega)]
    have : c + x.length + tot post - post.length = c + tot (x :: post) - (x :: post).length := by
      show _ = c + (x.length + 1 + tot post) - (post.length + 1); omega
    rw [this]
theorem F31_write (a0 : List UInt8) (m : List (List UInt8)) (ht : tot (a0 :: m) ≤ lim) : ∀ (post pre : List (List UInt8)) (k q : Nat), pre ++ post = m → post.length < k →
    loopN (F31.s4090 q) k (((pre.length : Int), (), arr [47], (1, m.length), (m.length : Int), ()), ((a0 :: m).map arr, ((), (), ()), ints (joinL (a0 :: pre)), ()), ()) =
      some (((), ()), ((a0 :: m).map arr, ((), (), ()), ints (joinL (a0 :: m)), ()), ())
  | [], pre, k, q, hm, hk => by
    rw [List.append_nil] at hm
    subst hm
    obtain ⟨k, rfl⟩ : ∃ k', k = k' + 1 := ⟨k - 1, by omega⟩
    refine loopN_inr ?_
    show F31.go4090 q (pre.length : Int) (arr [47]) (1, pre.length) (pre.length : Int) ((a0 :: pre).map arr) (ints (joinL (a0 :: pre))) = _
    unfold F31.go4090
    rw [ltN (by omega)]; rfl
  | x :: post, pre, k, q, hm, hk => by
    have ht' : a0.length + 1 + tot m ≤ 4294967296 := ht
    have hml : m.length = pre.length + 1 + post.length := by rw [← hm]; simp; omega
    have htl := tot_len m
    have htp : tot pre + (x.length + 1 + tot post) = tot m := by rw [← hm, tot_append]; rfl
    have hjl : (joinL (a0 :: pre)).length = a0.length + tot pre := by show (a0 ++ joinT pre).length = _; rw [List.length_append, joinT_len]
    obtain ⟨k, rfl⟩ : ∃ k', k = k' + 1 := ⟨k - 1, by omega⟩
    have hs : F31.s4090 q (((pre.length : Int), (), arr [47], (1, m.length), (m.length : Int), ()), ((a0 :: m).map arr, ((), (), ()), ints (joinL (a0 :: pre)), ()), ()) =
        some (.inl ((((pre ++ [x]).length : Int), (), arr [47], (1, m.length), (m.length : Int), ()), ((a0 :: m).map arr, ((), (), ()), ints (joinL (a0 :: (pre ++ [x]))), ()), ())) := by
      show F31.go4090 q (pre.length : Int) (arr [47]) (1, m.length) (m.length : Int) ((a0 :: m).map arr) (ints (joinL (a0 :: pre))) = _
      unfold F31.go4090
      have hwn : IntKind.i64.wrap ((pre.length : Int) + 1) = ((pre.length + 1 : Nat) : Int) := wadd1 _ (by show _ ≤ 140737488351232; omega)
      have hg : ((a0 :: m).map arr).getD (1 + pre.length) ⟨⟨[]⟩⟩ = arr x := by
        rw [map_getD, ← hm, Nat.add_comm]; simp
      have hl1 : (pre ++ [x]).length = pre.length + 1 := by simp
      have hj2 : joinL (a0 :: (pre ++ [x])) = joinL (a0 :: pre) ++ [47] ++ x := joinL_snoc (a0 :: pre) x
      rw [ltD (by omega), dec0, Int.toNat_natCast, hg, hwn, hl1, hj2, F45_eq q (joinL (a0 :: pre)) [47] (by rw [hjl]; show a0.length + tot pre + 1 ≤ 4294967296; omega)]
      simp only [Option.bind_some, cond_true, Bool.and_true]
      rw [F45_eq q (joinL (a0 :: pre) ++ [47]) x (by rw [List.length_append, hjl]; show a0.length + tot pre + 1 + x.length ≤ 4294967296; omega)]
      rfl
    rw [loopN_inl hs]
    exact F31_write a0 m ht post (pre ++ [x]) k q (by rw [← hm]; simp) (by simp only [List.length_cons] at hk; omega)
theorem F31_31 (k : Nat) (a0 a1 : List UInt8) (m : List (List UInt8)) (ht : tot (a0 :: a1 :: m) ≤ lim) (hk : m.length + 2 < k) :
    F31.go31 k (((a1 :: m).length : Nat) : Int) (arr [47]) ((a0 :: a1 :: m).map arr) = some (.inr ((arr (joinL (a0 :: a1 :: m)), ()), ((a0 :: a1 :: m).map arr, ()), ())) := by
  have ht' : a0.length + 1 + (a1.length + 1 + tot m) ≤ 4294967296 := ht
  have htl := tot_len m
  unfold F31.go31
  rw [List.length_map]
  have h1 := F31_sum [47] (a0 :: a1 :: m) ht (a1 :: m).length (by show m.length + 1 ≤ 4294967296; omega) (a0 :: a1 :: m) [] (a1 :: m).length k k rfl (by simp [tot]) (by simpa using hk)
  have e1 : (a1 :: m).length + tot (a0 :: a1 :: m) - (a0 :: a1 :: m).length = (joinL (a0 :: a1 :: m)).length := by
    show (m.length + 1) + (a0.length + 1 + (a1.length + 1 + tot m)) - (m.length + 1 + 1) = (a0 ++ joinT (a1 :: m)).length
    rw [List.length_append, joinT_len]
    show _ = a0.length + (a1.length + 1 + tot m); omega
  rw [e1] at h1
  have h1' : F31.l_250 k (((0 : Int), (((a1 :: m).length : Nat) : Int), (), arr [47], (), (((a0 :: a1 :: m).length : Nat) : Int), ()), ((a0 :: a1 :: m).map arr, ()), ()) = _ := h1
  rw [h1']
  simp only [Option.bind_some, Sum.elim_inr]
  have hjl : (joinL (a0 :: a1 :: m)).length = a0.length + (a1.length + 1 + tot m) := by
    show (a0 ++ joinT (a1 :: m)).length = _; rw [List.length_append, joinT_len]; rfl
  have hG : F44.go k (((joinL (a0 :: a1 :: m)).length : Nat) : Int) = some (.inr (((), ()), (((), (), ()), [], ()), ())) := by
    unfold F44.go
    rw [decide_eq_false (show ¬ ((((joinL (a0 :: a1 :: m)).length : Nat) : Int) < 0) by omega), decide_eq_true (show (0 : Int) < (((joinL (a0 :: a1 :: m)).length : Nat) : Int) by rw [hjl]; omega),
      decide_eq_true (show (((joinL (a0 :: a1 :: m)).length : Nat) : Int) ≤ 281474976710656 by rw [hjl]; omega)]
    rfl
  rw [hG]
  simp only [Option.bind_some, Sum.elim_inr]
  have hW0 : F45.go k (((a0 :: a1 :: m).map arr).getD 0 ⟨⟨[]⟩⟩) [] = some ((((a0.length : Int), (), ()), ()), (((), (), ()), ints (joinL [a0]), ()), ()) := by
    have := F45_eq k [] a0 (by show 0 + a0.length ≤ 4294967296; omega)
    show F45.go k (arr a0) (ints []) = _
    rw [this]
    show some (((((a0.length : Int), (), ()), ()), (((), (), ()), ints ([] ++ a0), ()), ())) = some (((((a0.length : Int), (), ()), ()), (((), (), ()), ints (a0 ++ []), ()), ()))
    rw [List.append_nil]; rfl
  have hd1 : decide (0 < (((((a0 :: a1 :: m).map arr).length : Nat) : Int))) = true := decide_eq_true (by rw [List.length_map]; simp; omega)
  have hd2 : decide (1 ≤ (((((a0 :: a1 :: m).map arr).length : Nat) : Int))) = true := decide_eq_true (by rw [List.length_map]; simp; omega)
  have hl : ((a0 :: a1 :: m).map arr).length - 1 = (a1 :: m).length := by simp
  have hloop := F31_write a0 (a1 :: m) ht (a1 :: m) [] k k rfl (by simp; omega)
  have hd1' : decide (0 < (((a0 :: a1 :: m).length : Nat) : Int)) = true := decide_eq_true (by simp; omega)
  have hloop' : F31.l_4090 k (((0 : Int), (), arr [47], (1, (a1 :: m).length), (((a1 :: m).length : Nat) : Int), ()), ((a0 :: a1 :: m).map arr, ((), (), ()), ints (joinL [a0]), ()), ()) = _ := hloop
  simp only [hd1, hd1', cond_true, hW0, Option.bind_some, hl, hd2]
  rw [hloop']
  simp only [Option.bind_some, cond_true]
  rw [Nat.ble_eq_true_of_le (by rw [ints_len, hjl]; omega), strOf_ints]
  rfl
theorem F31_eq (k : Nat) (m : List (List UInt8)) (ht : tot m ≤ lim) (hk : m.length < k) :
    F31.go k (arr [47]) (m.map arr) = some (.inl ((arr (joinL m), ()), (m.map arr, ()), ())) := by
  match m, ht, hk with
  | [], _, _ => rfl
  | [a], _, _ =>
    show some (Sum.inl ((arr a, ()), ([arr a], ()), ())) = some (Sum.inl ((arr (a ++ []), ()), ([arr a], ()), ()))
    rw [List.append_nil]
  | a0 :: a1 :: m, ht, hk =>
    have ht' : a0.length + 1 + (a1.length + 1 + tot m) ≤ 4294967296 := ht
    have htl := tot_len m
    unfold F31.go
    rw [List.length_map]
    have hl : (a0 :: a1 :: m).length = m.length + 2 := rfl
    have h1 : ((((a0 :: a1 :: m).length : Nat) : Int) == 0) = false := by rw [hl]; simp; omega
    have h2 : ((((a0 :: a1 :: m).length : Nat) : Int) == 1) = false := by rw [hl]; simp; omega
    have h3 : IntKind.i64.wrap ((((a0 :: a1 :: m).length : Nat) : Int) - 1) = (((a1 :: m).length : Nat) : Int) := by
      rw [hl, wrap_id (by omega) (by omega)]; show _ = (((m.length + 1 : Nat)) : Int); omega
    have h4 : ((((a1 :: m).length : Nat) : Int) == 0) = false := by simp; omega
    have h5 : (2 : Int) ≤ Int.tdiv 9223372036854775807 (((a1 :: m).length : Nat) : Int) := by
      rw [Int.tdiv_eq_ediv_of_nonneg (by omega)]
      exact (Int.le_ediv_iff_mul_le (by show (0 : Int) < ((m.length + 1 : Nat) : Int); omega)).2 (by show (2 : Int) * ((m.length + 1 : Nat) : Int) ≤ _; omega)
    have h5b : Int.tdiv 9223372036854775807 (((a1 :: m).length : Nat) : Int) ≤ 9223372036854775807 := by
      rw [Int.tdiv_eq_ediv_of_nonneg (by omega)]
      exact Int.ediv_le_self _ (by omega)
    have h6 : IntKind.i64.wrap (Int.tdiv 9223372036854775807 (((a1 :: m).length : Nat) : Int)) = Int.tdiv 9223372036854775807 (((a1 :: m).length : Nat) : Int) := by rw [wrap_id (by omega) (by omega)]
    have h7 : IntKind.i64.wrap (0 + IntKind.i64.wrap (((arr [47]).size : Int) * (((a1 :: m).length : Nat) : Int))) = (((a1 :: m).length : Nat) : Int) := by
      have e : (((arr [47]).size : Int) * (((a1 :: m).length : Nat) : Int)) = (((a1 :: m).length : Nat) : Int) := by show (1 : Int) * _ = _; omega
      have hle : (((a1 :: m).length : Nat) : Int) ≤ 4294967296 := by show ((m.length + 1 : Nat) : Int) ≤ _; omega
      have e2 : IntKind.i64.wrap (((a1 :: m).length : Nat) : Int) = (((a1 :: m).length : Nat) : Int) := by rw [wrap_id (by omega) (by omega)]
      rw [e, e2, Int.zero_add, e2]
    rw [h1, h2, h3, h4, h6, h7]
    have h8 : decide (((arr [47]).size : Int) > 0) = true := by decide
    have h9 : decide (((arr [47]).size : Int) ≥ Int.tdiv 9223372036854775807 (((a1 :: m).length : Nat) : Int)) = false := decide_eq_false (by show ¬ ((1 : Int) ≥ _); omega)
    rw [h8, h9]
    simp only [cond_true, cond_false]
    rw [F31_31 k a0 a1 m ht (by simpa using hk)]
    rfl
theorem F11_eq (k : Nat) (abs slash : Bool) (m : List (List UInt8)) (ht : tot m ≤ lim) (hk : m.length < k) :
    F11.go k abs slash (m.map arr) = some (.inl ((arr (strL abs slash m), ()), (m.map arr, ()), ())) := by
  have ht' : tot m ≤ 4294967296 := ht
  have hj := joinL_len m
  unfold F11.go strL
  show Option.bind (F31.go k (arr [47]) (m.map arr)) _ = _
  rw [F31_eq k m ht hk]
  simp only [Option.bind_some, Sum.elim_inl]
  rw [List.length_map, lenZ, lenG, szP, decide_eq_true (show 1 + (arr (joinL m)).size ≤ 9223372036854775807 by rw [arr_size]; omega), decide_eq_true (show (arr (joinL m)).size + 1 ≤ 9223372036854775807 by rw [arr_size]; omega),
    decide_eq_true (show 1 + (joinL m).length + 1 ≤ 9223372036854775807 by omega)]
  cases hm : m.isEmpty
  · cases abs <;> cases slash <;> simp [arr]
  · cases abs <;> cases slash <;> simp [arr]
theorem F33_eq (k : Nat) (abs : Bool) (m : List (List UInt8)) (ht : tot m ≤ lim) (hk : m.length < k) :
    F33.go k abs (m.map arr) = some (.inl ((arr (strL abs false m), ()), (m.map arr, ()), ())) := by
  unfold F33.go
  rw [F11_eq k abs false m ht hk]; rfl
def clL (s : List UInt8) : List UInt8 := strL (absL s) false (cleanL s)
theorem F15_eq (k : Nat) (s : List UInt8) (h : s.length + 1 ≤ lim) (hk : s.length + 1 < k) : F15.go k (arr s) = some (.inl ((arr (clL s), ()), (), ())) := by
  have ht := cleanL_tot s
  have htl := tot_len (cleanL s)
  unfold F15.go
  rw [F34_eq k s h]
  simp only [Option.bind_some]
  rw [F33_eq k (absL s) (cleanL s) (Nat.le_trans ht h) (by omega)]
  rfl
def neL (m : List (List UInt8)) : List (List UInt8) := m.filter fun x => !x.isEmpty
theorem neL_snoc (m : List (List UInt8)) (x : List UInt8) : neL (m ++ [x]) = if x.isEmpty then neL m else neL m ++ [x] := by
  unfold neL
  rw [List.filter_append]
  cases x with
  | nil => simp
  | cons a r => simp
theorem neL_tot : ∀ m : List (List UInt8), tot (neL m) ≤ tot m
  | [] => Nat.le_refl _
  | x :: m => by
    have ih := neL_tot m
    cases x with
    | nil => show tot (neL m) ≤ 0 + 1 + tot m; omega
    | cons a r => show (a :: r).length + 1 + tot (neL m) ≤ (a :: r).length + 1 + tot m; omega
theorem neL_len (m : List (List UInt8)) : (neL m).length ≤ m.length := List.length_filter_le _ _
def pJoin (m : List (List UInt8)) : List UInt8 := if (neL m).isEmpty then [] else clL (joinL (neL m))
theorem ne_beq (x : List UInt8) : ((arr x).toList == (⟨⟨[]⟩⟩ : ByteArray).toList) = x.isEmpty := (tl_beq x []).trans (nil_beq x)
theorem Win.tail {row : List ByteArray} {o n : Nat} {x : List UInt8} {m : List (List UInt8)} (h : Win row (o, n) (x :: m)) : Win row (o + 1, n - 1) m := by
  have hl := h.len
  have hle := h.le
  simp only [List.length_cons] at hl hle
  have hn : n = m.length + 1 := hl
  subst hn
  refine ⟨by simp only; omega, ?_⟩
  have e := congrArg List.tail h.eq
  simp only [List.map_cons, List.tail_cons] at e
  rw [← e]
  simp only [Nat.add_sub_cancel]
  rw [← List.drop_one, List.drop_take, List.drop_drop, Nat.add_sub_cancel]
def strip : List (List UInt8) → List (List UInt8) → List (List UInt8) × List (List UInt8)
  | x :: a, y :: b => if x == y then strip a b else (x :: a, y :: b)
  | a, b => (a, b)
theorem strip_nil (b : List (List UInt8)) : strip [] b = ([], b) := by unfold strip; rfl
theorem strip_nil2 (a : List (List UInt8)) : strip a [] = (a, []) := by cases a <;> rfl
theorem strip_cons (x y : List UInt8) (a b : List (List UInt8)) : strip (x :: a) (y :: b) = if x == y then strip a b else (x :: a, y :: b) := rfl
theorem strip_len : ∀ a b : List (List UInt8), tot (strip a b).1 ≤ tot a ∧ tot (strip a b).2 ≤ tot b
  | [], b => by rw [strip_nil]; exact ⟨Nat.le_refl _, Nat.le_refl _⟩
  | x :: a, [] => by rw [strip_nil2]; exact ⟨Nat.le_refl _, Nat.le_refl _⟩
  | x :: a, y :: b => by
    rw [strip_cons]
    have h := strip_len a b
    have h1 : tot (x :: a) = x.length + 1 + tot a := rfl
    have h2 : tot (y :: b) = y.length + 1 + tot b := rfl
    split
    · exact ⟨by omega, by omega⟩
    · exact ⟨Nat.le_refl _, Nat.le_refl _⟩
theorem tot_rep (n : Nat) : tot (List.replicate n dd) = 3 * n := by
  induction n with
  | zero => rfl
  | succ n ih => rw [List.replicate_succ]; show 2 + 1 + tot (List.replicate n dd) = _; omega
theorem gtZ {n : Nat} : decide ((n : Int) > 0) = decide (0 < n) := by
  by_cases h : 0 < n
  · rw [decide_eq_true h, decide_eq_true (by omega)]
  · rw [decide_eq_false h, decide_eq_false (by omega)]
theorem F19_strip : ∀ (a b : List (List UInt8)) (ao an bo bn : Nat) (rowa rowb : List ByteArray) (k q : Nat), Win rowa (ao, an) a → Win rowb (bo, bn) b → a.length < k →
    ∃ pa pb, loopN (F19.s124 q) k (((bo, bn), (ao, an), ()), (rowb, rowa, ()), ()) = some ((pb, pa, ()), (rowb, rowa, ()), ()) ∧ Win rowa pa (strip a b).1 ∧ Win rowb pb (strip a b).2
  | [], b, ao, an, bo, bn, rowa, rowb, k, q, ha, hb, hk => by
    obtain ⟨k, rfl⟩ : ∃ k', k = k' + 1 := ⟨k - 1, by omega⟩
    have hla := ha.len
    simp only [List.length_nil] at hla
    subst hla
    refine ⟨(ao, 0), (bo, bn), loopN_inr ?_, by rw [strip_nil]; exact ha, by rw [strip_nil]; exact hb⟩
    rfl
  | x :: a, [], ao, an, bo, bn, rowa, rowb, k, q, ha, hb, hk => by
    obtain ⟨k, rfl⟩ : ∃ k', k = k' + 1 := ⟨k - 1, by omega⟩
    have hla := ha.len
    have hlb := hb.len
    simp only [List.length_nil, List.length_cons] at hla hlb
    subst hla hlb
    refine ⟨(ao, a.length + 1), (bo, 0), loopN_inr ?_, by rw [strip_nil2]; exact ha, by rw [strip_nil2]; exact hb⟩
    show F19.go124 q (bo, 0) (ao, a.length + 1) rowb rowa = _
    unfold F19.go124
    rw [gtZ, gtZ, decide_eq_true (Nat.succ_pos _)]
    rfl
  | x :: a, y :: b, ao, an, bo, bn, rowa, rowb, k, q, ha, hb, hk => by
    obtain ⟨k, rfl⟩ : ∃ k', k = k' + 1 := ⟨k - 1, by omega⟩
    have hla := ha.len
    have hlb := hb.len
    simp only [List.length_nil, List.length_cons] at hla hlb
    subst hla hlb
    have ga : rowa.getD (ao + 0) ⟨⟨[]⟩⟩ = arr x := ha.get (i := 0) (Nat.succ_pos _)
    have gb : rowb.getD (bo + 0) ⟨⟨[]⟩⟩ = arr y := hb.get (i := 0) (Nat.succ_pos _)
    have hs : F19.s124 q (((bo, b.length + 1), (ao, a.length + 1), ()), (rowb, rowa, ()), ()) = if x == y then some (.inl (((bo + 1, b.length + 1 - 1), (ao + 1, a.length + 1 - 1), ()), (rowb, rowa, ()), ())) else some (.inr (((bo, b.length + 1), (ao, a.length + 1), ()), (rowb, rowa, ()), ())) := by
      show F19.go124 q (bo, b.length + 1) (ao, a.length + 1) rowb rowa = _
      unfold F19.go124
      have h1 : decide (0 < ((a.length + 1 : Nat) : Int)) = true := decide_eq_true (by omega)
      have h2 : decide (0 < ((b.length + 1 : Nat) : Int)) = true := decide_eq_true (by omega)
      have h3 : decide (1 ≤ ((a.length + 1 : Nat) : Int)) = true := decide_eq_true (by omega)
      have h4 : decide (1 ≤ ((b.length + 1 : Nat) : Int)) = true := decide_eq_true (by omega)
      have h5 : decide (((a.length + 1 : Nat) : Int) > 0) = true := decide_eq_true (by omega)
      have h6 : decide (((b.length + 1 : Nat) : Int) > 0) = true := decide_eq_true (by omega)
      simp only [h1, h2, h3, h4, h5, h6, ga, gb, tl_beq, cond_true]
      cases x == y <;> rfl
    rw [strip_cons]
    by_cases hxy : (x == y) = true
    · rw [if_pos hxy] at hs ⊢
      rw [loopN_inl hs]
      exact F19_strip a b (ao + 1) (a.length + 1 - 1) (bo + 1) (b.length + 1 - 1) rowa rowb k q ha.tail hb.tail (by simp only [List.length_cons] at hk; omega)
    · rw [if_neg hxy] at hs ⊢
      exact ⟨_, _, loopN_inr hs, ha, hb⟩
theorem F19_up (a : List (List UInt8)) (ao an bo bn : Nat) (rowa rowb : List ByteArray) (ha : Win rowa (ao, an) a) (hl : a.length + 1 ≤ lim) : ∀ (post pre : List (List UInt8)) (k q : Nat), pre ++ post = a → post.length < k →
    loopN (F19.s1018 q) k (((pre.length : Int), (), (ao, an), (bo, bn), (an : Int), ()), ((List.replicate pre.length dd).map arr, rowa, rowb, ()), ()) =
      some (if post.any (· == dd) then .inl ((⟨⟨[]⟩⟩, false, ()), (), ()) else .inr (((bo, bn), (), ()), (rowb, (List.replicate a.length dd).map arr, ()), ()))
  | [], pre, k, q, hm, hk => by
    rw [List.append_nil] at hm
    subst hm
    have hla := ha.len
    simp only at hla
    subst hla
    obtain ⟨k, rfl⟩ : ∃ k', k = k' + 1 := ⟨k - 1, by omega⟩
    refine loopN_inr ?_
    show F19.go1018 q (pre.length : Int) (ao, pre.length) (bo, bn) (pre.length : Int) ((List.replicate pre.length dd).map arr) rowa rowb = _
    unfold F19.go1018
    rw [ltN (by omega)]; rfl
  | x :: post, pre, k, q, hm, hk => by
    have hl' : a.length + 1 ≤ 4294967296 := hl
    have hla := ha.len
    simp only at hla
    subst hla
    have hml : a.length = pre.length + 1 + post.length := by rw [← hm]; simp; omega
    obtain ⟨k, rfl⟩ : ∃ k', k = k' + 1 := ⟨k - 1, by omega⟩
    have hs : F19.s1018 q (((pre.length : Int), (), (ao, a.length), (bo, bn), (a.length : Int), ()), ((List.replicate pre.length dd).map arr, rowa, rowb, ()), ()) =
        if x == dd then some (.inr (.inl ((⟨⟨[]⟩⟩, false, ()), (), ()))) else some (.inl ((((pre ++ [x]).length : Int), (), (ao, a.length), (bo, bn), (a.length : Int), ()), ((List.replicate (pre ++ [x]).length dd).map arr, rowa, rowb, ()), ())) := by
      show F19.go1018 q (pre.length : Int) (ao, a.length) (bo, bn) (a.length : Int) ((List.replicate pre.length dd).map arr) rowa rowb = _
      unfold F19.go1018
      have hwn : IntKind.i64.wrap ((pre.length : Int) + 1) = ((pre.length + 1 : Nat) : Int) := wadd1 _ (by show _ ≤ 140737488351232; omega)
      have hg : rowa.getD (ao + pre.length) ⟨⟨[]⟩⟩ = arr x := by
        have := ha.get (i := pre.length) (by simp only; omega)
        rw [this, ← hm]; simp
      have hl1 : (pre ++ [x]).length = pre.length + 1 := by simp
      have e2 : ((arr x).toList == (⟨⟨[46, 46]⟩⟩ : ByteArray).toList) = (x == dd) := tl_beq x [46, 46]
      have hap : (List.replicate pre.length dd).map arr ++ [⟨⟨[46, 46]⟩⟩] = (List.replicate (pre.length + 1) dd).map arr := by
        rw [List.replicate_succ', List.map_append]; rfl
      have hguard : (Nat.ble (((List.replicate pre.length dd).map arr ++ [(⟨⟨[46, 46]⟩⟩ : ByteArray)]).length * 16) 140737488355328 && Nat.ble ((List.replicate pre.length dd).map arr ++ [(⟨⟨[46, 46]⟩⟩ : ByteArray)]).length 9223372036854775807) = true :=
        guard16 _ (by rw [hap, List.length_map, List.length_replicate]; show _ ≤ 4294967296; omega)
      rw [ltD (by omega), dec0, Int.toNat_natCast, hg, hwn, hl1, e2, ← hap]
      cases x == dd
      · simp only [cond_true, cond_false, Bool.and_true]
        exact (congrArg (fun b => bif b then _ else _) hguard).trans rfl
      · rfl
    show _ = some (if (x == dd || post.any (· == dd)) = true then _ else _)
    by_cases hx : (x == dd) = true
    · rw [if_pos hx] at hs
      rw [loopN_inr hs, hx]; rfl
    · rw [if_neg hx] at hs
      rw [loopN_inl hs, F19_up a ao a.length bo bn rowa rowb ha hl post (pre ++ [x]) k q (by rw [← hm]; simp) (by simp only [List.length_cons] at hk; omega)]
      rw [Bool.eq_false_iff.2 hx]; rfl
/-- Rel by names -/
def relOf (a b : List (List UInt8)) : List UInt8 × Bool :=
  if (strip a b).1.any (· == dd) then ([], false) else (strL false false (List.replicate (strip a b).1.length dd ++ (strip a b).2), true)
def relL (s t : List UInt8) : List UInt8 × Bool := if absL s == absL t then relOf (cleanL s) (cleanL t) else ([], false)
abbrev mid : Nat := 268435456
theorem rel_tot (a b : List (List UInt8)) (ha : tot a ≤ mid) (hb : tot b ≤ mid) : tot (List.replicate (strip a b).1.length dd ++ (strip a b).2) ≤ lim := by
  have ha' : tot a ≤ 268435456 := ha
  have hb' : tot b ≤ 268435456 := hb
  have h := strip_len a b
  have hl := tot_len (strip a b).1
  rw [tot_append, tot_rep]
  show _ ≤ 4294967296; omega
theorem winAll (m : List (List UInt8)) : Win (m.map arr) (0, (m.map arr).length) m := by rw [List.length_map]; exact Win.new m
theorem F19_eq (k : Nat) (s t : List UInt8) (hs : s.length + 1 ≤ mid) (ht : t.length + 1 ≤ mid) (hk : 4294967296 < k) : F19.go k (arr s) (arr t) = some (.inl (((arr (relL s t).1, (relL s t).2, ()), ()), (), ())) := by
  have hs' : s.length + 1 ≤ 268435456 := hs
  have ht' : t.length + 1 ≤ 268435456 := ht
  have hcs := cleanL_tot s
  have hct := cleanL_tot t
  have hls := tot_len (cleanL s)
  have htot := rel_tot (cleanL s) (cleanL t) (Nat.le_trans hcs hs) (Nat.le_trans hct ht)
  have hstl := strip_len (cleanL s) (cleanL t)
  have hsl := tot_len (strip (cleanL s) (cleanL t)).1
  have htl := tot_len (List.replicate (strip (cleanL s) (cleanL t)).1.length dd ++ (strip (cleanL s) (cleanL t)).2)
  unfold F19.go relL
  rw [F34_eq k s (Nat.le_trans hs (by decide))]
  simp only [Option.bind_some]
  rw [F34_eq k t (Nat.le_trans ht (by decide))]
  simp only [Option.bind_some]
  cases habs : absL s == absL t
  · rfl
  · obtain ⟨pa, pb, he, hwa, hwb⟩ := F19_strip (cleanL s) (cleanL t) 0 _ 0 _ _ _ k k (winAll (cleanL s)) (winAll (cleanL t)) (by omega)
    have he' : F19.l_124 k _ = _ := he
    simp only [Bool.not_true, cond_false, if_true]
    rw [he']
    simp only [Option.bind_some]
    have hup := F19_up (strip (cleanL s) (cleanL t)).1 pa.1 pa.2 pb.1 pb.2 _ ((cleanL t).map arr) hwa (by show _ ≤ 4294967296; omega) (strip (cleanL s) (cleanL t)).1 [] k k rfl (by omega)
    have hup' : F19.l_1018 k (((0 : Int), (), (pa.1, pa.2), (pb.1, pb.2), ((pa.2 : Nat) : Int), ()), ([], (cleanL s).map arr, (cleanL t).map arr, ()), ()) = _ := hup
    rw [hup']
    unfold relOf
    cases hany : (strip (cleanL s) (cleanL t)).1.any (· == dd)
    · simp only [Option.bind_some, Bool.false_eq_true, if_false, Sum.elim_inr]
      have e : (List.replicate (strip (cleanL s) (cleanL t)).1.length dd).map arr ++ List.take pb.2 (List.drop pb.1 ((cleanL t).map arr)) = (List.replicate (strip (cleanL s) (cleanL t)).1.length dd ++ (strip (cleanL s) (cleanL t)).2).map arr := by
        rw [hwb.eq, List.map_append]
      rw [e, guard16 _ (by rw [List.length_map]; exact Nat.le_trans htl htot), F33_eq k false _ htot (Nat.lt_of_le_of_lt (Nat.le_trans htl htot) hk)]
      rfl
    · rfl
def preL : List (List UInt8) → List (List UInt8) → Bool
  | [], _ => true
  | _ :: _, [] => false
  | x :: d, y :: l => x == y && preL d l
theorem preL_nil (l : List (List UInt8)) : preL [] l = true := by unfold preL; rfl
def notUp (l : List (List UInt8)) : Bool := l.isEmpty || !(l.getD 0 [] == dd)
def withinL (s t : List UInt8) : Bool :=
  if absL s == absL t then (if (cleanL t).length < (cleanL s).length then false else if preL (cleanL s) (cleanL t) then (!(cleanL s).isEmpty || absL s || notUp (cleanL t)) else false) else false
theorem F21_loop (abs : Bool) (d l : List (List UInt8)) (hl : d.length ≤ l.length) (hd : d.length ≤ lim) : ∀ (pd pl pre prel : List (List UInt8)) (k q : Nat), pre ++ pd = d → prel ++ pl = l → pre.length = prel.length → pd.length < k →
    loopN (F21.s250 q) k (((pre.length : Int), (), (), abs, (d.length : Int), ()), (l.map arr, d.map arr, ()), ()) =
      some (if preL pd pl then .inr (((), abs, (), ()), (l.map arr, d.map arr, ()), ()) else .inl ((false, ()), (), ()))
  | [], pl, pre, prel, k, q, hm, hm2, hp, hk => by
    rw [List.append_nil] at hm
    subst hm
    obtain ⟨k, rfl⟩ : ∃ k', k = k' + 1 := ⟨k - 1, by omega⟩
    rw [preL_nil, if_pos rfl]
    refine loopN_inr ?_
    show F21.go250 q (pre.length : Int) abs (pre.length : Int) (l.map arr) (pre.map arr) = _
    unfold F21.go250
    rw [ltN (by omega)]; rfl
  | x :: pd, [], pre, prel, k, q, hm, hm2, hp, hk => by
    exfalso
    have h1 : d.length = pre.length + 1 + pd.length := by rw [← hm]; simp; omega
    have h2 : l.length = prel.length := by rw [← hm2]; simp
    omega
  | x :: pd, y :: pl, pre, prel, k, q, hm, hm2, hp, hk => by
    have hd' : d.length ≤ 4294967296 := hd
    have h1 : d.length = pre.length + 1 + pd.length := by rw [← hm]; simp; omega
    have h2 : l.length = prel.length + 1 + pl.length := by rw [← hm2]; simp; omega
    obtain ⟨k, rfl⟩ : ∃ k', k = k' + 1 := ⟨k - 1, by omega⟩
    have hs : F21.s250 q (((pre.length : Int), (), (), abs, (d.length : Int), ()), (l.map arr, d.map arr, ()), ()) =
        if x == y then some (.inl ((((pre ++ [x]).length : Int), (), (), abs, (d.length : Int), ()), (l.map arr, d.map arr, ()), ())) else some (.inr (.inl ((false, ()), (), ()))) := by
      show F21.go250 q (pre.length : Int) abs (d.length : Int) (l.map arr) (d.map arr) = _
      unfold F21.go250
      have hwn : IntKind.i64.wrap ((pre.length : Int) + 1) = ((pre.length + 1 : Nat) : Int) := wadd1 _ (by show _ ≤ 140737488351232; omega)
      have hg : (d.map arr).getD pre.length ⟨⟨[]⟩⟩ = arr x := by rw [map_getD, ← hm]; simp
      have hg2 : (l.map arr).getD pre.length ⟨⟨[]⟩⟩ = arr y := by rw [map_getD, ← hm2, hp]; simp
      have hl1 : (pre ++ [x]).length = pre.length + 1 := by simp
      rw [List.length_map, List.length_map, ltD (show pre.length < d.length by omega), ltD (show pre.length < l.length by omega), dec0, Int.toNat_natCast, hg, hg2, hwn, hl1, tl_beq]
      cases x == y <;> rfl
    have e : preL (x :: pd) (y :: pl) = (x == y && preL pd pl) := rfl
    rw [e]
    by_cases hxy : (x == y) = true
    · rw [if_pos hxy] at hs
      rw [loopN_inl hs, hxy, Bool.true_and]
      exact F21_loop abs d l hl hd pd pl (pre ++ [x]) (prel ++ [y]) k q (by rw [← hm]; simp) (by rw [← hm2]; simp) (by simp; exact hp) (by simp only [List.length_cons] at hk; omega)
    · rw [if_neg hxy] at hs
      rw [loopN_inr hs, Bool.eq_false_iff.2 hxy]; rfl
theorem F21_eq (k : Nat) (s t : List UInt8) (hs : s.length + 1 ≤ mid) (ht : t.length + 1 ≤ mid) (hk : 4294967296 < k) : F21.go k (arr s) (arr t) = some ((withinL s t, ()), (), ()) := by
  have hs' : s.length + 1 ≤ 268435456 := hs
  have ht' : t.length + 1 ≤ 268435456 := ht
  have hcs := cleanL_tot s
  have hct := cleanL_tot t
  have hls := tot_len (cleanL s)
  have hlt := tot_len (cleanL t)
  unfold F21.go withinL
  rw [F34_eq k s (Nat.le_trans hs (by decide))]
  simp only [Option.bind_some]
  rw [F34_eq k t (Nat.le_trans ht (by decide))]
  simp only [Option.bind_some]
  cases habs : absL s == absL t
  · rfl
  · simp only [Bool.not_true, cond_false, if_true, List.length_map]
    by_cases hlen : (cleanL t).length < (cleanL s).length
    · rw [ltD hlen, if_pos hlen]; rfl
    · rw [ltN hlen, if_neg hlen]
      have h := F21_loop (absL s) (cleanL s) (cleanL t) (by omega) (by show _ ≤ 4294967296; omega) (cleanL s) (cleanL t) [] [] k k rfl rfl rfl (by omega)
      have h' : F21.l_250 k (((0 : Int), (), (), absL s, ((cleanL s).length : Int), ()), ((cleanL t).map arr, (cleanL s).map arr, ()), ()) = _ := h
      simp only [cond_false]
      rw [h']
      cases hp : preL (cleanL s) (cleanL t)
      · rfl
      · simp only [if_true, Option.bind_some, Sum.elim_inr]
        rw [List.length_map, List.length_map, lenG, lenZ]
        unfold notUp
        cases hes : (cleanL s).isEmpty
        · rfl
        · cases absL s
          · cases hct' : cleanL t with
            | nil => rfl
            | cons y l =>
              have hd0 : decide ((0 : Int) < (((y :: l).length : Nat) : Int)) = true := decide_eq_true (by simp)
              rw [hd0]
              have e2 : ((arr y).toList == (⟨⟨[46, 46]⟩⟩ : ByteArray).toList) = (y == dd) := tl_beq y [46, 46]
              show (bif false then _ else bif false then _ else bif true then some ((!((arr y).toList == (⟨⟨[46, 46]⟩⟩ : ByteArray).toList), ()), (), ()) else none) = _
              rw [e2]
              simp
          · rfl
def longB (m : List (List UInt8)) : Bool := m.any fun n => decide (n.length > 27)
theorem F8_step (k : Nat) (e : Int × ByteArray) (s : ByteArray) (abs lg : Bool) (n : List UInt8) (acc : List (List UInt8)) (he : e.2 = arr n) (h : acc.length + 1 ≤ lim) :
    F8.s250 k (((), (), s, (), ()), ((false, (), false, ()), (abs, (), false, ()), (lg, ()), acc.map arr, ()), ()) e = some (.inl (((), (), s, (), ()), ((false, (), false, ()), (abs, (), false, ()), (lg || decide (n.length > 27), ()), (acc ++ [n]).map arr, ()), ())) := by
  show F8.gs250 k s false false abs false lg (acc.map arr) e = _
  unfold F8.gs250
  have hap : acc.map arr ++ [arr n] = (acc ++ [n]).map arr := by simp
  have hg := guard16 (acc.map arr ++ [arr n]) (by rw [List.length_append, List.length_map]; exact h)
  have hd : decide (((arr n).size : Int) > 27) = decide (n.length > 27) := by
    rw [arr_size]
    by_cases hh : n.length > 27
    · rw [decide_eq_true hh, decide_eq_true (by omega)]
    · rw [decide_eq_false hh, decide_eq_false (by omega)]
  have hs : F8.go250 k e.1 (arr n) s false false abs false lg (acc.map arr) = some ((), ((false, (), false, ()), (abs, (), false, ()), (lg || decide (n.length > 27), ()), (acc ++ [n]).map arr, ()), ()) := by
    unfold F8.go250
    rw [hg, hap, hd]
    cases lg <;> rfl
  rw [he, hs]; rfl
theorem F8_fold (k : Nat) (s : ByteArray) (abs : Bool) : ∀ (l : List (List UInt8)) (xs : List (Int × ByteArray)) (acc : List (List UInt8)) (lg : Bool), xs.map (·.2) = l.map arr → acc.length + l.length ≤ lim →
    rfold (F8.s250 k) xs (((), (), s, (), ()), ((false, (), false, ()), (abs, (), false, ()), (lg, ()), acc.map arr, ()), ()) = some (.inl (((), (), s, (), ()), ((false, (), false, ()), (abs, (), false, ()), (lg || longB l, ()), (acc ++ l).map arr, ()), ()))
  | [], xs, acc, lg, hx, h => by
    have : xs = [] := by cases xs with | nil => rfl | cons a r => cases hx
    subst this
    rw [List.append_nil, show longB [] = false from rfl, Bool.or_false]; rfl
  | a :: r, xs, acc, lg, hx, h => by
    have h' : acc.length + (r.length + 1) ≤ 4294967296 := h
    cases xs with
    | nil => cases hx
    | cons e xs =>
      rw [List.map_cons, List.map_cons, List.cons.injEq] at hx
      rw [rfold, F8_step k e s abs lg a acc hx.1 (by show _ ≤ 4294967296; omega)]
      have ih := F8_fold k s abs r xs (acc ++ [a]) (lg || decide (a.length > 27)) hx.2 (by rw [List.length_append]; show acc.length + 1 + r.length ≤ 4294967296; omega)
      rw [show longB (a :: r) = (decide (a.length > 27) || longB r) from rfl, ← Bool.or_assoc, show acc ++ a :: r = acc ++ [a] ++ r by simp]
      exact ih
theorem ix_ge : ∀ l : List UInt8, -1 ≤ ixS (arr l) 0
  | [] => Int.le_refl _
  | c :: r => by
    have ih := ix_ge r
    have h2 : ixS (arr (c :: r)) 0 = if c == (0 : Int).toNat.toUInt8 then 0 else if ixS (arr r) 0 == -1 then -1 else ixS (arr r) 0 + 1 := rfl
    rw [h2]
    split
    · decide
    · split <;> omega
theorem ix0 : ∀ l : List UInt8, decide (ixS (arr l) 0 ≥ 0) = l.any (· == 0)
  | [] => rfl
  | c :: r => by
    have ih := ix0 r
    have hg := ix_ge r
    have h2 : ixS (arr (c :: r)) 0 = if c == (0 : UInt8) then 0 else if ixS (arr r) 0 == -1 then -1 else ixS (arr r) 0 + 1 := rfl
    rw [h2, List.any_cons, ← ih]
    by_cases hc : (c == 0) = true
    · rw [if_pos hc, hc]; rfl
    · rw [if_neg hc, Bool.eq_false_iff.2 hc, Bool.false_or]
      by_cases hm : ixS (arr r) 0 = -1
      · rw [if_pos (by simpa using hm), hm]
      · rw [if_neg (by simpa using hm), decide_eq_true (show ixS (arr r) 0 ≥ 0 by omega), decide_eq_true (by omega)]
def slashL (s : List UInt8) : Bool := !(splitN [] s).isEmpty && (s.getD (s.length - 1) 0 == 47)
abbrev SplitT := (((((Bool × Unit × Bool × Unit) × Int × Unit) × Unit) × Unit × Unit) ⊕ ((((Bool × Unit × Bool × Unit) × Int × Unit) × Unit) × (List ByteArray × Unit) × Unit))
def errS (c : Int) : SplitT := .inl ((((false, (), false, ()), c, ()), ()), (), ())
def okS (s : List UInt8) : SplitT := .inr ((((absL s, (), slashL s, ()), 0, ()), ()), ((splitN [] s).map arr, ()), ())
def codeL (s : List UInt8) : Int := if s.isEmpty then 2 else if decide (s.length > 255) || longB (splitN [] s) then 36 else if s.any (· == 0) then 22 else 0
def splitS (s : List UInt8) : SplitT := if codeL s == 0 then okS s else errS (codeL s)
theorem head47 (c : UInt8) (t : List UInt8) : (((((arr (c :: t)).data.getD 0 (OfNat.ofNat 0)).toNat : Nat) : Int) == 47) = absL (c :: t) := by
  rw [arr_get]; exact beq47 c
theorem last47 (s : List UInt8) (h : s.length + 1 ≤ lim) (h0 : 0 < s.length) :
    (IntKind.i64.wrap (((arr s).size : Int) - 1) = ((s.length - 1 : Nat) : Int)) ∧ (((((arr s).data.getD (s.length - 1) (OfNat.ofNat 0)).toNat : Nat) : Int) == 47) = (s.getD (s.length - 1) 0 == 47) := by
  have h' : s.length + 1 ≤ 4294967296 := h
  refine ⟨by rw [arr_size]; exact wsubL _ (by show _ ≤ 4294967296; omega) h0, ?_⟩
  rw [arr_get]; exact beq47 _
theorem F8_eq (k : Nat) (s : List UInt8) (h : s.length + 1 ≤ lim) : F8.go k (arr s) = some (splitS s) := by
  have h' : s.length + 1 ≤ 4294967296 := h
  cases hs : s with
  | nil => unfold F8.go; rw [ne_beq]; rfl
  | cons c t =>
    have hne : s.isEmpty = false := by rw [hs]; rfl
    have hlen : 0 < s.length := by rw [hs]; exact Nat.succ_pos _
    have habs := head47 c t
    rw [← hs] at habs ⊢
    obtain ⟨hw, hlast⟩ := last47 s h hlen
    have hlg : decide (((arr s).size : Int) > 255) = decide (s.length > 255) := by
      rw [arr_size]
      by_cases hh : s.length > 255
      · rw [decide_eq_true hh, decide_eq_true (by omega)]
      · rw [decide_eq_false hh, decide_eq_false (by omega)]
    have hf := F8_fold k (arr s) (absL s) (splitN [] s) (goNames (arr s)) [] (decide (s.length > 255)) (goNames_eq s) (by simpa using splitN_lim s h)
    rw [List.nil_append] at hf
    have hf' : F8.l_250 k (goNames (arr s)) (((), (), arr s, (), ()), ((false, (), false, ()), (absL s, (), false, ()), (decide (s.length > 255), ()), [], ()), ()) = _ := hf
    unfold F8.go splitS codeL
    rw [ne_beq, hne, hlg, habs, decide_eq_true (show (0 : Int) < ((arr s).size : Int) by rw [arr_size]; omega)]
    show (bif Nat.ble (arr s).size 4611686018427387904 then Option.bind (F8.l_250 k (goNames (arr s)) (((), (), arr s, (), ()), ((false, (), false, ()), (absL s, (), false, ()), (decide (s.length > 255), ()), [], ()), ())) _ else none) = _
    rw [Nat.ble_eq_true_of_le (by rw [arr_size]; omega), hf']
    simp only [Option.bind_some, Sum.elim_inl, cond_true, Bool.false_eq_true, if_false]
    cases hl : decide (s.length > 255) || longB (splitN [] s)
    · have h28 : F28.go k (arr s) 0 = some ((ixS (arr s) 0, ()), (), ()) := rfl
      simp only [cond_false, h28, Option.bind_some, ix0, Bool.false_eq_true, if_false]
      cases hz : s.any (· == 0)
      · simp only [cond_false, Bool.false_eq_true, if_false]
        rw [List.length_map, lenG, hw, dec0, arr_size, ltD (show s.length - 1 < s.length by omega), Int.toNat_natCast, hlast]
        unfold okS slashL
        cases (splitN [] s).isEmpty <;> rfl
      · rfl
    · rfl
def Nm (n : List UInt8) : Prop := n ≠ [] ∧ ∀ c ∈ n, (c == 47) = false
theorem splitN_app : ∀ (u cur t : List UInt8), splitN cur (u ++ 47 :: t) = splitN cur u ++ splitN [] t
  | [], cur, t => by rw [List.nil_append, splitN_cons, splitN_nil]; rfl
  | c :: u, cur, t => by
    rw [List.cons_append, splitN_cons, splitN_cons]
    by_cases hc : (c == 47) = true
    · rw [if_pos hc, if_pos hc, splitN_app u [] t, List.append_assoc]
    · rw [if_neg hc, if_neg hc, splitN_app u (cur ++ [c]) t]
theorem splitN_lead (t : List UInt8) : splitN [] (47 :: t) = splitN [] t := splitN_app [] [] t
theorem splitN_trail (u : List UInt8) : splitN [] (u ++ [47]) = splitN [] u := by
  rw [splitN_app u [] []]; show _ ++ [] = _; rw [List.append_nil]
theorem splitN_pre : ∀ (n cur t : List UInt8), (∀ c ∈ n, (c == 47) = false) → splitN cur (n ++ t) = splitN (cur ++ n) t
  | [], cur, t, h => by simp
  | c :: n, cur, t, h => by
    rw [List.cons_append, splitN_cons, if_neg (by rw [h c (by simp)]; simp), splitN_pre n (cur ++ [c]) t (fun x hx => h x (by simp [hx]))]
    simp
theorem splitN_one {n : List UInt8} (h : Nm n) : splitN [] n = [n] := by
  have := splitN_pre n [] [] h.2
  rw [List.append_nil, List.nil_append, splitN_nil] at this
  rw [this]
  unfold endN
  cases n with
  | nil => exact absurd rfl h.1
  | cons a r => rfl
theorem splitN_join (cur : List UInt8) : ∀ (r : List (List UInt8)) (u : List UInt8), (∀ x ∈ r, Nm x) → splitN cur (u ++ joinT r) = splitN cur u ++ r
  | [], u, h => by show splitN cur (u ++ []) = splitN cur u ++ []; simp
  | b :: r, u, h => by
    have hb := h b (by simp)
    have e : u ++ joinT (b :: r) = (u ++ 47 :: b) ++ joinT r := by show u ++ (47 :: b ++ joinT r) = _; simp
    rw [e, splitN_join cur r (u ++ 47 :: b) (fun x hx => h x (by simp [hx])), splitN_app, splitN_one hb]
    simp
theorem splitN_joinL (m : List (List UInt8)) (h : ∀ x ∈ m, Nm x) : splitN [] (joinL m) = m := by
  cases m with
  | nil => rfl
  | cons a r =>
    show splitN [] (a ++ joinT r) = _
    rw [splitN_join [] r a (fun x hx => h x (by simp [hx])), splitN_one (h a (by simp))]; rfl
theorem endN_nm {cur : List UInt8} (h : ∀ c ∈ cur, (c == 47) = false) : ∀ x ∈ endN cur, Nm x := by
  unfold endN
  cases cur with
  | nil => intro x hx; cases hx
  | cons a r => intro x hx; have : x = a :: r := by simpa using hx
                subst this; exact ⟨by simp, h⟩
theorem splitN_nm : ∀ (t cur : List UInt8), (∀ c ∈ cur, (c == 47) = false) → ∀ x ∈ splitN cur t, Nm x
  | [], cur, h => by rw [splitN_nil]; exact endN_nm h
  | c :: t, cur, h => by
    rw [splitN_cons]
    by_cases hc : (c == 47) = true
    · rw [if_pos hc]
      intro x hx
      rcases List.mem_append.1 hx with hx | hx
      · exact endN_nm h x hx
      · exact splitN_nm t [] (fun _ hh => by cases hh) x hx
    · rw [if_neg hc]
      refine splitN_nm t (cur ++ [c]) (fun y hy => ?_)
      rcases List.mem_append.1 hy with hy | hy
      · exact h y hy
      · have : y = c := by simpa using hy
        subst this; exact Bool.eq_false_iff.2 hc
theorem splitN_nm0 (s : List UInt8) : ∀ x ∈ splitN [] s, Nm x := splitN_nm s [] (fun _ h => by cases h)
theorem splitN_ne : ∀ (t cur : List UInt8), cur ≠ [] → splitN cur t ≠ []
  | [], cur, h => by
    rw [splitN_nil]; unfold endN
    cases cur with
    | nil => exact absurd rfl h
    | cons a r => simp
  | c :: t, cur, h => by
    rw [splitN_cons]
    by_cases hc : (c == 47) = true
    · rw [if_pos hc]; unfold endN
      cases cur with
      | nil => exact absurd rfl h
      | cons a r => simp
    · rw [if_neg hc]; exact splitN_ne t (cur ++ [c]) (by simp)
theorem abs_of_none (s : List UInt8) (h0 : s ≠ []) (h : splitN [] s = []) : absL s = true := by
  cases s with
  | nil => exact absurd rfl h0
  | cons c t =>
    show (c == 47) = true
    by_cases hc : (c == 47) = true
    · exact hc
    · rw [splitN_cons, if_neg hc] at h
      exact absurd h (splitN_ne t _ (by simp))
theorem strL_abs (abs slash : Bool) (m : List (List UInt8)) (h : ∀ x ∈ m, Nm x) : absL (strL abs slash m) = abs := by
  unfold strL
  cases abs
  · cases m with
    | nil => rfl
    | cons a r =>
      have ha := h a (by simp)
      cases a with
      | nil => exact absurd rfl ha.1
      | cons c t => exact ha.2 c (by simp)
  · cases m <;> rfl
theorem strL_split (abs slash : Bool) (m : List (List UInt8)) (h : ∀ x ∈ m, Nm x) : splitN [] (strL abs slash m) = if m.isEmpty && !abs then [[46]] else m := by
  unfold strL
  cases hc : m.isEmpty && !abs
  · simp only [Bool.false_eq_true, if_false]
    have e1 : splitN [] ((if abs then [47] else []) ++ joinL m) = m := by
      cases abs
      · exact splitN_joinL m h
      · show splitN [] (47 :: joinL m) = m
        rw [splitN_lead]; exact splitN_joinL m h
    cases hs : slash && !m.isEmpty
    · simp only [Bool.false_eq_true, if_false, List.append_nil]; exact e1
    · simp only [if_true]; rw [splitN_trail]; exact e1
  · rfl
theorem joinT_mem : ∀ (r : List (List UInt8)) (c : UInt8), c ∈ joinT r → c = 47 ∨ ∃ x ∈ r, c ∈ x
  | [], c, h => by cases h
  | b :: r, c, h => by
    have h : c ∈ 47 :: b ++ joinT r := h
    rcases List.mem_append.1 h with h | h
    · rcases List.mem_cons.1 h with h | h
      · exact .inl h
      · exact .inr ⟨b, by simp, h⟩
    · rcases joinT_mem r c h with h | ⟨x, hx, hc⟩
      · exact .inl h
      · exact .inr ⟨x, by simp [hx], hc⟩
theorem joinL_mem (m : List (List UInt8)) (c : UInt8) (h : c ∈ joinL m) : c = 47 ∨ ∃ x ∈ m, c ∈ x := by
  cases m with
  | nil => cases h
  | cons a r =>
    have h : c ∈ a ++ joinT r := h
    rcases List.mem_append.1 h with h | h
    · exact .inr ⟨a, by simp, h⟩
    · rcases joinT_mem r c h with h | ⟨x, hx, hc⟩
      · exact .inl h
      · exact .inr ⟨x, by simp [hx], hc⟩
theorem splitN_mem : ∀ (t cur : List UInt8), ∀ x ∈ splitN cur t, ∀ c ∈ x, c ∈ cur ∨ c ∈ t
  | [], cur, x, hx, c, hc => by
    rw [splitN_nil] at hx
    unfold endN at hx
    cases cur with
    | nil => cases hx
    | cons a r => have : x = a :: r := by simpa using hx
                  subst this; exact .inl hc
  | d :: t, cur, x, hx, c, hc => by
    rw [splitN_cons] at hx
    by_cases hd : (d == 47) = true
    · rw [if_pos hd] at hx
      rcases List.mem_append.1 hx with hx | hx
      · rcases splitN_mem [] cur x (by rw [splitN_nil]; exact hx) c hc with h | h
        · exact .inl h
        · cases h
      · rcases splitN_mem t [] x hx c hc with h | h
        · cases h
        · exact .inr (by simp [h])
    · rw [if_neg hd] at hx
      rcases splitN_mem t (cur ++ [d]) x hx c hc with h | h
      · rcases List.mem_append.1 h with h | h
        · exact .inl h
        · have : c = d := by simpa using h
          exact .inr (by simp [this])
      · exact .inr (by simp [h])
theorem last_snoc (m : List UInt8) (c : UInt8) : (m ++ [c]).getD ((m ++ [c]).length - 1) 0 = c := by simp
theorem joinL_last (m : List (List UInt8)) (h : ∀ x ∈ m, Nm x) (h0 : m ≠ []) : ∃ u c, joinL m = u ++ [c] ∧ (c == 47) = false := by
  rcases List.eq_nil_or_concat m with e | ⟨p, x, e⟩
  · exact absurd e h0
  · have e : m = p ++ [x] := by simpa using e
    subst e
    have hx := h x (by simp)
    rcases snoc_cases x with hx0 | ⟨y, c, hy⟩
    · exact absurd hx0 hx.1
    · have hc : (c == 47) = false := hx.2 c (by rw [hy]; simp)
      rw [joinL_snoc]
      cases p.isEmpty
      · exact ⟨joinL p ++ [47] ++ y, c, by simp [hy], hc⟩
      · exact ⟨y, c, by simp [hy], hc⟩
theorem joinL_len3 (m : List (List UInt8)) (h : m ≠ []) : (joinL m).length + 1 = tot m := by
  cases m with
  | nil => exact absurd rfl h
  | cons a r => show (a ++ joinT r).length + 1 = a.length + 1 + tot r; rw [List.length_append, joinT_len]; omega
/-- splitting what was written changes nothing -/
theorem split_back (s : List UInt8) (hc : (codeL s == 0) = true) : splitS (strL (absL s) (slashL s) (splitN [] s)) = okS s := by
  have hnm := splitN_nm0 s
  have hs0 : s ≠ [] := by intro e; subst e; cases hc
  have hse : s.isEmpty = false := by cases s with | nil => exact absurd rfl hs0 | cons a r => rfl
  have hlen : 0 < s.length := by cases s with | nil => exact absurd rfl hs0 | cons a r => exact Nat.succ_pos _
  -- what code 0 says
  have hcode : decide (s.length > 255) = false ∧ longB (splitN [] s) = false ∧ s.any (· == 0) = false := by
    unfold codeL at hc
    rw [hse] at hc
    cases h1 : decide (s.length > 255) <;> cases h2 : longB (splitN [] s) <;> cases h3 : s.any (· == 0) <;> simp_all
  obtain ⟨h1, h2, h3⟩ := hcode
  have h1 := of_decide_eq_false h1
  -- the text that was written
  generalize hw : strL (absL s) (slashL s) (splitN [] s) = w
  have hnabs : ((splitN [] s).isEmpty && !absL s) = false := by
    cases he : (splitN [] s).isEmpty
    · rfl
    · rw [abs_of_none s hs0 (List.isEmpty_iff.1 he)]; rfl
  have hwa : absL w = absL s := by rw [← hw]; exact strL_abs _ _ _ hnm
  have hws : splitN [] w = splitN [] s := by rw [← hw, strL_split _ _ _ hnm, hnabs]; rfl
  have hwv : w = (if absL s then [47] else []) ++ joinL (splitN [] s) ++ (if slashL s && !(splitN [] s).isEmpty then [47] else []) := by
    rw [← hw]; unfold strL; rw [hnabs]; rfl
  have hw0 : w ≠ [] := by
    intro e
    have he : splitN [] s = [] := by rw [← hws, e]; rfl
    have := abs_of_none s hs0 he
    rw [e] at hwa
    rw [this] at hwa; cases hwa
  have hslash : slashL w = slashL s := by
    show (!(splitN [] w).isEmpty && (w.getD (w.length - 1) 0 == 47)) = slashL s
    rw [hws]
    cases he : (splitN [] s).isEmpty
    · have hne : splitN [] s ≠ [] := by intro e; rw [e] at he; cases he
      cases hsl : slashL s
      · obtain ⟨u, c, hu, hcc⟩ := joinL_last _ hnm hne
        have : w = ((if absL s then [47] else []) ++ u) ++ [c] := by rw [hwv, hsl, hu]; simp
        rw [this, last_snoc, hcc]; rfl
      · have : w = ((if absL s then [47] else []) ++ joinL (splitN [] s)) ++ [47] := by rw [hwv, hsl, he]; rfl
        rw [this, last_snoc]; rfl
    · unfold slashL; rw [he]; rfl
  have hwl : ¬ w.length > 255 := by
    have hle : w.length ≤ s.length := by
      cases he : (splitN [] s).isEmpty
      · have hne : splitN [] s ≠ [] := by intro e; rw [e] at he; cases he
        have hj := joinL_len3 _ hne
        have hl : w.length = (if absL s then 1 else 0) + (joinL (splitN [] s)).length + (if slashL s then 1 else 0) := by
          rw [hwv, he]
          cases absL s <;> cases slashL s <;> simp <;> omega
        rw [hl]
        cases hsl : slashL s
        · cases ha : absL s
          · have := tot_splitN s []
            simp only [List.length_nil] at this
            simp only [Bool.false_eq_true, if_false]; omega
          · cases s with
            | nil => exact absurd rfl hs0
            | cons c t =>
              have hc47 : c = 47 := eq_of_beq ha
              subst hc47
              rw [splitN_lead] at hj ⊢
              have := tot_splitN t []
              simp only [List.length_nil] at this
              simp only [if_true, Bool.false_eq_true, if_false, List.length_cons]; omega
        · -- it ends with a slash
          have hlast : (s.getD (s.length - 1) 0 == 47) = true := by
            unfold slashL at hsl; rw [he] at hsl; exact hsl
          rcases snoc_cases s with e | ⟨u, c, e⟩
          · exact absurd e hs0
          · subst e
            rw [last_snoc] at hlast
            have hc47 : c = 47 := eq_of_beq hlast
            subst hc47
            rw [splitN_trail] at hj he hne ⊢
            cases ha : absL (u ++ [47])
            · have := tot_splitN u []
              simp only [List.length_nil] at this
              simp only [if_true, Bool.false_eq_true, if_false, List.length_append, List.length_cons, List.length_nil]; omega
            · cases u with
              | nil => exact absurd rfl hne
              | cons c t =>
                have hc47 : c = 47 := eq_of_beq ha
                subst hc47
                rw [splitN_lead] at hj ⊢
                have := tot_splitN t []
                simp only [List.length_nil] at this
                simp only [if_true, List.length_append, List.length_cons, List.length_nil]; omega
      · have hne := List.isEmpty_iff.1 he
        have ha := abs_of_none s hs0 hne
        rw [hwv, ha, hne]
        simp [joinL]; omega
    omega
  have hz : w.any (· == 0) = false := by
    rw [List.any_eq_false]
    intro c hcw h0
    have h0 : c = 0 := by simpa using h0
    subst h0
    rw [hwv] at hcw
    have hcase : (0 : UInt8) ∈ joinL (splitN [] s) := by
      rcases List.mem_append.1 hcw with hcw | hcw
      · rcases List.mem_append.1 hcw with hcw | hcw
        · cases absL s <;> simp at hcw
        · exact hcw
      · cases hb : (slashL s && !(splitN [] s).isEmpty) <;> rw [hb] at hcw <;> simp at hcw
    rcases joinL_mem _ _ hcase with h | ⟨x, hx, hc0⟩
    · cases h
    · rcases splitN_mem s [] x hx 0 hc0 with h | h
      · cases h
      · have := List.any_eq_false.1 h3 0 h
        simp at this
  have hcw : codeL w = 0 := by
    unfold codeL
    have hwe : w.isEmpty = false := by cases w with | nil => exact absurd rfl hw0 | cons a r => rfl
    rw [hwe, decide_eq_false hwl, hws, h2, hz]; rfl
  unfold splitS
  rw [hcw]
  show okS w = okS s
  unfold okS
  rw [hwa, hslash, hws]
abbrev fo (abs : Bool) (out l : List (List UInt8)) : List (List UInt8) := l.foldl (cstep abs) out
theorem fo_app (abs : Bool) (out a b : List (List UInt8)) : fo abs out (a ++ b) = fo abs (fo abs out a) b := List.foldl_append
def Stab (abs : Bool) (l : List (List UInt8)) : Prop := fo abs [] l = l ∧ ∀ x ∈ l, Nm x
theorem fo_len (abs : Bool) : ∀ (l out : List (List UInt8)), (fo abs out l).length ≤ out.length + l.length
  | [], out => Nat.le_refl _
  | a :: r, out => by
    have h1 := fo_len abs r (cstep abs out a)
    have h2 := cstep_len abs out a
    show (fo abs (cstep abs out a) r).length ≤ out.length + (r.length + 1)
    omega
theorem cstep_grow (abs : Bool) (out : List (List UInt8)) (n : List UInt8) (h : (cstep abs out n).length = out.length + 1) : cstep abs out n = out ++ [n] := by
  unfold cstep at h ⊢
  split
  · rename_i h1; rw [if_pos h1] at h; omega
  · rename_i h1
    rw [if_neg h1] at h
    split
    · rfl
    · rename_i h2
      rw [if_neg h2] at h
      split
      · rename_i h3; rw [if_pos h3, List.length_take] at h; omega
      · rename_i h3
        rw [if_neg h3] at h
        split
        · rename_i h4; rw [if_pos h4] at h; omega
        · rfl
theorem stab_pre1 (abs : Bool) (p : List (List UInt8)) (y : List UInt8) (h : Stab abs (p ++ [y])) : Stab abs p := by
  have h1 := h.1
  rw [fo_app] at h1
  have h1 : cstep abs (fo abs [] p) y = p ++ [y] := h1
  have hl := fo_len abs p []
  have hc := cstep_len abs (fo abs [] p) y
  have hlen := congrArg List.length h1
  simp only [List.length_append, List.length_cons, List.length_nil] at hlen hl
  have hg := cstep_grow abs (fo abs [] p) y (by omega)
  rw [hg] at h1
  exact ⟨(List.append_inj' h1 rfl).1, fun x hx => h.2 x (by simp [hx])⟩
theorem stab_pre (abs : Bool) : ∀ (q p : List (List UInt8)), Stab abs (p ++ q) → Stab abs p
  | [], p, h => by rw [List.append_nil] at h; exact h
  | y :: q, p, h => by
    rw [show p ++ y :: q = (p ++ [y]) ++ q by simp] at h
    exact stab_pre1 abs p y (stab_pre abs q (p ++ [y]) h)
theorem stab_step (abs : Bool) (out : List (List UInt8)) (n : List UInt8) (h : Stab abs out) (hn : Nm n) : Stab abs (cstep abs out n) := by
  have happ : cstep abs out n = out ++ [n] → Stab abs (out ++ [n]) := fun e => by
    refine ⟨?_, ?_⟩
    · rw [fo_app, h.1]; exact e
    · intro x hx
      rcases List.mem_append.1 hx with hx | hx
      · exact h.2 x hx
      · have : x = n := by simpa using hx
        subst this; exact hn
  by_cases hg : cstep abs out n = out ++ [n]
  · rw [hg]; exact happ hg
  · unfold cstep at hg ⊢
    split
    · exact h
    · rename_i h1
      rw [if_neg h1] at hg
      split
      · rename_i h2; rw [if_pos h2] at hg; exact absurd rfl hg
      · rename_i h2
        rw [if_neg h2] at hg
        split
        · exact stab_pre abs (out.drop (out.length - 1)) _ (by rw [List.take_append_drop]; exact h)
        · rename_i h3
          rw [if_neg h3] at hg
          split
          · exact h
          · rename_i h4; rw [if_neg h4] at hg; exact absurd rfl hg
theorem stab_fo (abs : Bool) : ∀ (l out : List (List UInt8)), Stab abs out → (∀ x ∈ l, Nm x) → Stab abs (fo abs out l)
  | [], out, h, _ => h
  | a :: r, out, h, hl => stab_fo abs r (cstep abs out a) (stab_step abs out a h (hl a (by simp))) (fun x hx => hl x (by simp [hx]))
theorem stab_nil (abs : Bool) : Stab abs [] := ⟨rfl, fun x hx => by cases hx⟩
theorem stab_clean (s : List UInt8) : Stab (absL s) (cleanL s) := stab_fo _ _ [] (stab_nil _) (splitN_nm0 s)
/-- what was written of a clean list reads as it -/
theorem fo_strL (abs abs' : Bool) (out m : List (List UInt8)) (h : ∀ x ∈ m, Nm x) : fo abs out (splitN [] (strL abs' false m)) = fo abs out m := by
  rw [strL_split _ _ _ h]
  cases hc : m.isEmpty && !abs'
  · rfl
  · have : m = [] := by
      cases m with
      | nil => rfl
      | cons a r => cases hc
    subst this; rfl
theorem clean_str (abs : Bool) (m : List (List UInt8)) (h : Stab abs m) : cleanL (strL abs false m) = m ∧ absL (strL abs false m) = abs := by
  have ha := strL_abs abs false m h.2
  refine ⟨?_, ha⟩
  show fo (absL (strL abs false m)) [] (splitN [] (strL abs false m)) = m
  rw [ha, fo_strL _ _ _ _ h.2]; exact h.1
theorem cl_clean (s : List UInt8) : cleanL (clL s) = cleanL s ∧ absL (clL s) = absL s := clean_str _ _ (stab_clean s)
/-- clean is clean -/
theorem cl_cl (s : List UInt8) : clL (clL s) = clL s := by
  have h := cl_clean s
  show strL (absL (clL s)) false (cleanL (clL s)) = strL (absL s) false (cleanL s)
  rw [h.1, h.2]
theorem strL_ne (abs slash : Bool) (m : List (List UInt8)) (h : ∀ x ∈ m, Nm x) : strL abs slash m ≠ [] := by
  unfold strL
  cases abs
  · cases m with
    | nil => simp
    | cons a r =>
      have := (h a (by simp)).1
      cases a with
      | nil => exact absurd rfl this
      | cons c t => simp [joinL]
  · simp
theorem clL_ne (s : List UInt8) : clL s ≠ [] := strL_ne _ _ _ (stab_clean s).2
theorem pJoin_two (x y : List UInt8) (hx : x ≠ []) (hy : y ≠ []) : pJoin [x, y] = clL (x ++ 47 :: y) := by
  cases x with
  | nil => exact absurd rfl hx
  | cons a r =>
    cases y with
    | nil => exact absurd rfl hy
    | cons b u =>
      show clL ((a :: r) ++ ((47 :: (b :: u)) ++ [])) = _
      rw [List.append_nil]
theorem clean_two (x y : List UInt8) (hx : x ≠ []) : cleanL (x ++ 47 :: y) = fo (absL x) (cleanL x) (splitN [] y) ∧ absL (x ++ 47 :: y) = absL x := by
  have ha : absL (x ++ 47 :: y) = absL x := by
    cases x with
    | nil => exact absurd rfl hx
    | cons a r => rfl
  refine ⟨?_, ha⟩
  show fo (absL (x ++ 47 :: y)) [] (splitN [] (x ++ 47 :: y)) = _
  rw [ha, splitN_app, fo_app]; rfl
theorem cl_of {a b : List UInt8} (h1 : cleanL a = cleanL b) (h2 : absL a = absL b) : clL a = clL b := by
  show strL (absL a) false (cleanL a) = strL (absL b) false (cleanL b)
  rw [h1, h2]
theorem strip_spec : ∀ a b : List (List UInt8), ∃ p, a = p ++ (strip a b).1 ∧ b = p ++ (strip a b).2
  | [], b => ⟨[], by rw [strip_nil]; rfl, by rw [strip_nil]; rfl⟩
  | x :: a, [] => ⟨[], by rw [strip_nil2]; rfl, by rw [strip_nil2]; rfl⟩
  | x :: a, y :: b => by
    rw [strip_cons]
    by_cases h : (x == y) = true
    · rw [if_pos h]
      obtain ⟨p, h1, h2⟩ := strip_spec a b
      have : x = y := eq_of_beq h
      subst this
      exact ⟨x :: p, by rw [List.cons_append, ← h1], by rw [List.cons_append, ← h2]⟩
    · rw [if_neg h]; exact ⟨[], rfl, rfl⟩
theorem up_once (abs : Bool) (q : List (List UInt8)) (y : List UInt8) (h : (y == dd) = false) : cstep abs (q ++ [y]) dd = q := by
  unfold cstep
  have h1 : (dd == [46]) = false := by decide
  have h2 : (!(dd == dd)) = false := by decide
  have h3 : (q ++ [y]).getD ((q ++ [y]).length - 1) [] = y := by simp
  rw [h1, h2, h3, h, decide_eq_true (by simp)]
  simp
theorem up_all (abs : Bool) (p : List (List UInt8)) : ∀ (n : Nat) (a : List (List UInt8)), a.length = n → a.any (· == dd) = false → fo abs (p ++ a) (List.replicate n dd) = p
  | 0, a, hl, _ => by
    have : a = [] := List.length_eq_zero_iff.1 hl
    subst this; simp [fo]
  | n + 1, a, hl, h => by
    rcases List.eq_nil_or_concat a with e | ⟨q, y, e⟩
    · subst e; cases hl
    · have e : a = q ++ [y] := by simpa using e
      subst e
      rw [List.any_append, Bool.or_eq_false_iff] at h
      have hy : (y == dd) = false := by simpa using h.2
      show fo abs (cstep abs (p ++ (q ++ [y])) dd) (List.replicate n dd) = p
      rw [← List.append_assoc, up_once abs (p ++ q) y hy]
      exact up_all abs p n q (by simpa using hl) h.1
theorem dd_nm : Nm dd := ⟨by decide, by decide⟩
theorem rel_leads (s t : List UInt8) (h : (relL s t).2 = true) : clL (pJoin [clL s, (relL s t).1]) = clL t := by
  unfold relL at h ⊢
  cases ha : absL s == absL t
  · rw [ha] at h; cases h
  · rw [ha] at h
    have hab : absL s = absL t := eq_of_beq ha
    simp only [if_true] at h ⊢
    unfold relOf at h ⊢
    cases hn : (strip (cleanL s) (cleanL t)).1.any (· == dd)
    · rw [hn] at h
      simp only [Bool.false_eq_true, if_false]
      obtain ⟨p, hp1, hp2⟩ := strip_spec (cleanL s) (cleanL t)
      generalize hA : (strip (cleanL s) (cleanL t)).1 = A at *
      generalize hB : (strip (cleanL s) (cleanL t)).2 = B at *
      have hst := stab_clean t
      have hR : ∀ x ∈ List.replicate A.length dd ++ B, Nm x := by
        intro x hx
        rcases List.mem_append.1 hx with hx | hx
        · rw [List.eq_of_mem_replicate hx]; exact dd_nm
        · exact hst.2 x (by rw [hp2]; simp [hx])
      rw [pJoin_two _ _ (clL_ne s) (strL_ne _ _ _ hR), cl_cl]
      obtain ⟨c1, c2⟩ := clean_two (clL s) (strL false false (List.replicate A.length dd ++ B)) (clL_ne s)
      obtain ⟨d1, d2⟩ := cl_clean s
      refine cl_of ?_ (by rw [c2, d2, hab])
      rw [c1, d1, d2, fo_strL _ _ _ _ hR, fo_app]
      have hup : fo (absL s) (cleanL s) (List.replicate A.length dd) = p := by rw [hp1]; exact up_all _ p A.length A rfl hn
      rw [hup, hab]
      have hpst := stab_pre (absL t) B p (by rw [← hp2]; exact hst)
      have := hst.1
      rw [hp2, fo_app, hpst.1] at this
      rw [this, ← hp2]
    · rw [hn] at h; cases h
theorem rt_split (s : List UInt8) : splitN [] (rtrim s) = splitN [] s := by
  suffices h : ∀ (n : Nat) (s : List UInt8), s.length = n → splitN [] (rtrim s) = splitN [] s from h _ s rfl
  intro n
  induction n with
  | zero => intro s hl; have : s = [] := List.length_eq_zero_iff.1 hl
            subst this; rfl
  | succ n ih =>
    intro s hl
    rcases snoc_cases s with rfl | ⟨m, c, rfl⟩
    · rfl
    · rw [rtrim_snoc]
      by_cases hc : (c == 47) = true
      · have : c = 47 := eq_of_beq hc
        subst this
        rw [if_pos hc, splitN_trail]
        exact ih m (by simpa using hl)
      · rw [if_neg hc]
theorem absL_snoc (m : List UInt8) (c : UInt8) (h : m ≠ []) : absL (m ++ [c]) = absL m := by
  cases m with
  | nil => exact absurd rfl h
  | cons a r => rfl
theorem rt_abs (s : List UInt8) (h0 : s ≠ []) : absL s = if rtrim s = [] then true else absL (rtrim s) := by
  suffices h : ∀ (n : Nat) (s : List UInt8), s.length = n → s ≠ [] → absL s = if rtrim s = [] then true else absL (rtrim s) from h _ s rfl h0
  intro n
  induction n with
  | zero => intro s hl h0; exact absurd (List.length_eq_zero_iff.1 hl) h0
  | succ n ih =>
    intro s hl h0
    rcases snoc_cases s with rfl | ⟨m, c, rfl⟩
    · exact absurd rfl h0
    · rw [rtrim_snoc]
      by_cases hc : (c == 47) = true
      · rw [if_pos hc]
        by_cases hm : m = []
        · subst hm
          rw [rtrim_nil, if_pos rfl]; exact hc
        · rw [absL_snoc m c hm]
          exact ih m (by simpa using hl) hm
      · rw [if_neg hc, if_neg (by simp)]
theorem lastSl_zero (t : List UInt8) : lastSl t = 0 → ∀ c ∈ t, (c == 47) = false := by
  suffices h : ∀ (n : Nat) (t : List UInt8), t.length = n → lastSl t = 0 → ∀ c ∈ t, (c == 47) = false from h _ t rfl
  intro n
  induction n with
  | zero => intro t hl _ c hc; rw [List.length_eq_zero_iff.1 hl] at hc; cases hc
  | succ n ih =>
    intro t hl hz c hc
    rcases snoc_cases t with rfl | ⟨m, d, rfl⟩
    · cases hc
    · rw [lastSl_snoc] at hz
      by_cases hd : (d == 47) = true
      · rw [if_pos hd] at hz; omega
      · rw [if_neg hd] at hz
        rcases List.mem_append.1 hc with hc | hc
        · exact ih m (by simpa using hl) hz c hc
        · have : c = d := by simpa using hc
          subst this; exact Bool.eq_false_iff.2 hd
theorem rt_end (s : List UInt8) (h : rtrim s ≠ []) : ∃ m c, rtrim s = m ++ [c] ∧ (c == 47) = false := by
  suffices hh : ∀ (n : Nat) (s : List UInt8), s.length = n → rtrim s ≠ [] → ∃ m c, rtrim s = m ++ [c] ∧ (c == 47) = false from hh _ s rfl h
  intro n
  induction n with
  | zero => intro s hl h; rw [List.length_eq_zero_iff.1 hl] at h; exact absurd rfl h
  | succ n ih =>
    intro s hl h
    rcases snoc_cases s with rfl | ⟨m, c, rfl⟩
    · exact absurd rfl h
    · rw [rtrim_snoc] at h ⊢
      by_cases hc : (c == 47) = true
      · rw [if_pos hc] at h ⊢; exact ih m (by simpa using hl) h
      · rw [if_neg hc]; exact ⟨m, c, rfl, Bool.eq_false_iff.2 hc⟩
theorem base_eq (s : List UInt8) (h : rtrim s ≠ []) : baseL s [] = (rtrim s).drop (lastSl (rtrim s)) := by
  have h0 : s ≠ [] := by intro e; subst e; exact h rfl
  unfold baseL
  have e1 : s.isEmpty = false := by cases s with | nil => exact absurd rfl h0 | cons a r => rfl
  have e2 : (rtrim s).isEmpty = false := by cases hr : rtrim s with | nil => exact absurd hr h | cons a r => rfl
  rw [e1, e2]
  simp only [Bool.false_eq_true, if_false]
  split
  · rfl
  · split
    · exact List.take_of_length_le (by simp)
    · rfl
theorem dir_base (s : List UInt8) (h0 : s ≠ []) : pJoin [dirL s, baseL s []] = clL s := by
  have e1 : s.isEmpty = false := by cases s with | nil => exact absurd rfl h0 | cons a r => rfl
  have hab := rt_abs s h0
  by_cases ht : rtrim s = []
  · have hd : dirL s = [47] := by unfold dirL; rw [e1, ht]; rfl
    have hb : baseL s [] = [47] := by unfold baseL; rw [e1, ht]; rfl
    rw [if_pos ht] at hab
    have hs : splitN [] s = [] := by rw [← rt_split, ht]; rfl
    have hc : cleanL s = [] := by unfold cleanL; rw [hs]; rfl
    rw [hd, hb, pJoin_two _ _ (by simp) (by simp)]
    exact cl_of (by rw [hc]; rfl) (by rw [hab]; rfl)
  · rw [if_neg ht] at hab
    have hb := base_eq s ht
    obtain ⟨m, c, hm, hc⟩ := rt_end s ht
    have hlt : lastSl (rtrim s) < (rtrim s).length := by
      rw [hm, lastSl_snoc, if_neg (by rw [hc]; simp)]
      have := lastSl_le m
      simp; omega
    have hbne : baseL s [] ≠ [] := by
      rw [hb]; intro e
      have := congrArg List.length e
      rw [List.length_drop] at this
      simp only [List.length_nil] at this; omega
    have e2 : (rtrim s).isEmpty = false := by cases hr : rtrim s with | nil => exact absurd hr ht | cons a r => rfl
    have hcs : cleanL s = fo (absL (rtrim s)) [] (splitN [] (rtrim s)) := by unfold cleanL; rw [hab, rt_split]
    by_cases hz : lastSl (rtrim s) = 0
    · have hd : dirL s = [46] := by unfold dirL; rw [e1, e2]; simp only [Bool.false_eq_true, if_false]; rw [if_pos hz]
      rw [hd, pJoin_two _ _ (by simp) hbne]
      have hns := lastSl_zero _ hz
      have hba : baseL s [] = rtrim s := by rw [hb, hz, List.drop_zero]
      have habf : absL (rtrim s) = false := by
        cases hr : rtrim s with
        | nil => exact absurd hr ht
        | cons a r => exact hns a (by rw [hr]; simp)
      obtain ⟨c1, c2⟩ := clean_two [46] (baseL s []) (by simp)
      refine cl_of ?_ (by rw [c2, hab, habf]; rfl)
      rw [c1, hcs, habf, hba]; rfl
    · have htl := take_last _ (rtrim s) rfl hz
      generalize hu : (rtrim s).take (lastSl (rtrim s) - 1) = u at htl
      have ht2 : rtrim s = u ++ 47 :: baseL s [] := by
        rw [hb]
        conv => lhs; rw [← List.take_append_drop (lastSl (rtrim s)) (rtrim s), htl]
        simp
      have hd : dirL s = if (rtrim u).isEmpty then [47] else rtrim u := by
        unfold dirL; rw [e1, e2]; simp only [Bool.false_eq_true, if_false]; rw [if_neg hz, hu]
      have hus : splitN [] (dirL s) = splitN [] u := by
        rw [hd, ← rt_split u]
        cases hr : rtrim u with
        | nil => rfl
        | cons a r => rfl
      have hdne : dirL s ≠ [] := by
        rw [hd]
        cases hr : rtrim u with
        | nil => simp
        | cons a r => simp
      have hda : absL (dirL s) = absL (rtrim s) := by
        rw [ht2]
        by_cases hu0 : u = []
        · subst hu0
          rw [hd]; rfl
        · have e : absL (u ++ 47 :: baseL s []) = absL u := by
            cases u with
            | nil => exact absurd rfl hu0
            | cons a r => rfl
          rw [e, hd, rt_abs u hu0]
          cases hr : rtrim u with
          | nil => rfl
          | cons a r => simp
      rw [pJoin_two _ _ hdne hbne]
      obtain ⟨c1, c2⟩ := clean_two (dirL s) (baseL s []) hdne
      refine cl_of ?_ (by rw [c2, hda, hab])
      rw [c1, hcs, hda]
      have e3 : cleanL (dirL s) = fo (absL (rtrim s)) [] (splitN [] u) := by unfold cleanL; rw [hda, hus]
      rw [e3, ht2, splitN_app, fo_app, ← ht2]
theorem preL_app : ∀ a b : List (List UInt8), preL a (a ++ b) = true
  | [], b => preL_nil _
  | x :: a, b => by show (x == x && preL a (a ++ b)) = true; rw [beq_self_eq_true, preL_app a b]; rfl
theorem within_x (s : List UInt8) : withinL s (pJoin [clL s, [120]]) = true := by
  rw [pJoin_two _ _ (clL_ne s) (by simp)]
  obtain ⟨a1, a2⟩ := cl_clean (clL s ++ 47 :: [120])
  obtain ⟨c1, c2⟩ := clean_two (clL s) [120] (clL_ne s)
  obtain ⟨d1, d2⟩ := cl_clean s
  have e1 : cleanL (clL (clL s ++ 47 :: [120])) = cleanL s ++ [[120]] := by rw [a1, c1, d1]; rfl
  have e2 : absL (clL (clL s ++ 47 :: [120])) = absL s := by rw [a2, c2, d2]
  unfold withinL
  rw [e1, e2, beq_self_eq_true, preL_app, if_pos rfl, if_neg (by simp), if_pos rfl]
  cases he : (cleanL s).isEmpty
  · rfl
  · rw [List.isEmpty_iff.1 he]
    cases absL s <;> decide
theorem F11_3_eq (k : Nat) (abs slash : Bool) (m : List (List UInt8)) (ht : tot m ≤ lim) (hk : m.length < k) :
    F11_3.go k abs slash (m.map arr) = some (.inl ((arr (strL abs slash m), ()), (m.map arr, ()), ())) := by
  have ht' : tot m ≤ 4294967296 := ht
  have hj := joinL_len m
  unfold F11_3.go strL
  show Option.bind (F31.go k (arr [47]) (m.map arr)) _ = _
  rw [F31_eq k m ht hk]
  simp only [Option.bind_some, Sum.elim_inl]
  rw [List.length_map, lenZ, lenG, szP, decide_eq_true (show 1 + (arr (joinL m)).size ≤ 9223372036854775807 by rw [arr_size]; omega), decide_eq_true (show (arr (joinL m)).size + 1 ≤ 9223372036854775807 by rw [arr_size]; omega),
    decide_eq_true (show 1 + (joinL m).length + 1 ≤ 9223372036854775807 by omega)]
  cases hm : m.isEmpty
  · cases abs <;> cases slash <;> simp [arr]
  · cases abs <;> cases slash <;> simp [arr]
theorem same5_loop (m : List (List UInt8)) (a b c d : Bool) (hl : m.length ≤ lim) : ∀ (post pre : List (List UInt8)) (k q : Nat), pre ++ post = m → post.length < k →
    loopN (F10_5.s58 q) k (((pre.length : Int), (), (), (m.length : Int), ()), (m.map arr, m.map arr, (a, (), b, ()), (c, (), d, ()), ()), ()) = some (.inr ((), (m.map arr, m.map arr, ()), ()))
  | [], pre, k, q, hm, hk => by
    rw [List.append_nil] at hm
    subst hm
    obtain ⟨k, rfl⟩ : ∃ k', k = k' + 1 := ⟨k - 1, by omega⟩
    refine loopN_inr ?_
    show F10_5.go58 q (pre.length : Int) (pre.length : Int) (pre.map arr) (pre.map arr) a b c d = _
    unfold F10_5.go58
    rw [ltN (by omega)]; rfl
  | x :: post, pre, k, q, hm, hk => by
    have hl' : m.length ≤ 4294967296 := hl
    have hml : m.length = pre.length + 1 + post.length := by rw [← hm]; simp; omega
    obtain ⟨k, rfl⟩ : ∃ k', k = k' + 1 := ⟨k - 1, by omega⟩
    have hs : F10_5.s58 q (((pre.length : Int), (), (), (m.length : Int), ()), (m.map arr, m.map arr, (a, (), b, ()), (c, (), d, ()), ()), ()) = some (.inl ((((pre ++ [x]).length : Int), (), (), (m.length : Int), ()), (m.map arr, m.map arr, (a, (), b, ()), (c, (), d, ()), ()), ())) := by
      show F10_5.go58 q (pre.length : Int) (m.length : Int) (m.map arr) (m.map arr) a b c d = _
      unfold F10_5.go58
      have hwn : IntKind.i64.wrap ((pre.length : Int) + 1) = ((pre.length + 1 : Nat) : Int) := wadd1 _ (by show _ ≤ 140737488351232; omega)
      have hl1 : (pre ++ [x]).length = pre.length + 1 := by simp
      rw [List.length_map, ltD (by omega), dec0, Int.toNat_natCast, hwn, hl1, beq_self_eq_true]
      rfl
    rw [loopN_inl hs]
    exact same5_loop m a b c d hl post (pre ++ [x]) k q (by rw [← hm]; simp) (by simp only [List.length_cons] at hk; omega)
theorem F10_5_eq (k : Nat) (a b : Bool) (m : List (List UInt8)) (hl : m.length ≤ lim) (hk : m.length < k) : F10_5.go k a b a b (m.map arr) (m.map arr) = some ((true, ()), (m.map arr, m.map arr, ()), ()) := by
  have h := same5_loop m a b a b hl m [] k k rfl hk
  have h' : F10_5.l_58 k (((0 : Int), (), (), (m.length : Int), ()), (m.map arr, m.map arr, (a, (), b, ()), (a, (), b, ()), ()), ()) = _ := h
  unfold F10_5.go
  rw [List.length_map, h']
  have e : ((m.length : Int) != (m.length : Int)) = false := by simp
  rw [e]
  cases a <;> cases b <;> rfl
theorem F17_1_loop (m : List (List UInt8)) (hl : m.length ≤ lim) : ∀ (post pre : List (List UInt8)) (k q : Nat), pre ++ post = m → post.length < k →
    loopN (F17_1.s58 q) k (((pre.length : Int), (), (), (m.length : Int), ()), (m.map arr, (neL pre).map arr, ()), ()) = some (((), ()), (m.map arr, (neL m).map arr, ()), ())
  | [], pre, k, q, hm, hk => by
    rw [List.append_nil] at hm
    subst hm
    obtain ⟨k, rfl⟩ : ∃ k', k = k' + 1 := ⟨k - 1, by omega⟩
    refine loopN_inr ?_
    show F17_1.go58 q (pre.length : Int) (pre.length : Int) (pre.map arr) ((neL pre).map arr) = _
    unfold F17_1.go58
    rw [ltN (by omega)]; rfl
  | x :: post, pre, k, q, hm, hk => by
    have hl' : m.length ≤ 4294967296 := hl
    have hml : m.length = pre.length + 1 + post.length := by rw [← hm]; simp; omega
    have hnl := neL_len pre
    obtain ⟨k, rfl⟩ : ∃ k', k = k' + 1 := ⟨k - 1, by omega⟩
    have hs : F17_1.s58 q (((pre.length : Int), (), (), (m.length : Int), ()), (m.map arr, (neL pre).map arr, ()), ()) = some (.inl ((((pre ++ [x]).length : Int), (), (), (m.length : Int), ()), (m.map arr, (neL (pre ++ [x])).map arr, ()), ())) := by
      show F17_1.go58 q (pre.length : Int) (m.length : Int) (m.map arr) ((neL pre).map arr) = _
      unfold F17_1.go58
      have hwn : IntKind.i64.wrap ((pre.length : Int) + 1) = ((pre.length + 1 : Nat) : Int) := wadd1 _ (by show _ ≤ 140737488351232; omega)
      have hg : (m.map arr).getD pre.length ⟨⟨[]⟩⟩ = arr x := by rw [map_getD, ← hm]; simp
      have hl1 : (pre ++ [x]).length = pre.length + 1 := by simp
      have hap : (neL pre).map arr ++ [arr x] = (neL pre ++ [x]).map arr := by simp
      have hguard := guard16 ((neL pre).map arr ++ [arr x]) (by rw [List.length_append, List.length_map]; show (neL pre).length + 1 ≤ 4294967296; omega)
      rw [List.length_map, ltD (by omega), dec0, Int.toNat_natCast, hg, hwn, hl1, hguard, ne_beq, neL_snoc, hap]
      cases x.isEmpty <;> rfl
    rw [loopN_inl hs]
    exact F17_1_loop m hl post (pre ++ [x]) k q (by rw [← hm]; simp) (by simp only [List.length_cons] at hk; omega)
theorem F17_1_eq (k : Nat) (m : List (List UInt8)) (ht : tot m + 1 ≤ lim) (hk : tot m + 1 < k) : F17_1.go k (m.map arr) = some (.inl ((arr (pJoin m), ()), (m.map arr, ()), ())) := by
  have ht' : tot m + 1 ≤ 4294967296 := ht
  have hml := tot_len m
  have hnt := neL_tot m
  have hnl := neL_len m
  have hj := joinL_len (neL m)
  have h1 := F17_1_loop m (by show _ ≤ 4294967296; omega) m [] k k rfl (by omega)
  have h1' : F17_1.l_58 k (((0 : Int), (), (), ((m.length : Nat) : Int), ()), (m.map arr, [], ()), ()) = _ := h1
  unfold F17_1.go pJoin
  rw [List.length_map, h1']
  simp only [Option.bind_some]
  rw [List.length_map, lenZ]
  cases hne : (neL m).isEmpty
  · show Option.bind (F31.go k (arr [47]) ((neL m).map arr)) _ = _
    rw [F31_eq k (neL m) (by show _ ≤ 4294967296; omega) (by omega)]
    simp only [Option.bind_some, Sum.elim_inl]
    rw [F15_eq k (joinL (neL m)) (by show _ ≤ 4294967296; omega) (by omega)]
    rfl
  · rfl
theorem strL_len (abs slash : Bool) (m : List (List UInt8)) : (strL abs slash m).length ≤ tot m + 2 := by
  have h := joinL_len m
  unfold strL
  cases m.isEmpty <;> cases abs <;> cases slash <;> simp <;> omega
theorem clL_len (s : List UInt8) : (clL s).length ≤ s.length + 3 := by
  have h1 := strL_len (absL s) false (cleanL s)
  have h2 := cleanL_tot s
  unfold clL; omega
theorem pJoin_len (x y : List UInt8) (hx : x ≠ []) (hy : y ≠ []) : (pJoin [x, y]).length ≤ x.length + y.length + 4 := by
  rw [pJoin_two x y hx hy]
  have := clL_len (x ++ 47 :: y)
  simp only [List.length_append, List.length_cons] at this
  omega
theorem dirL_len (s : List UInt8) : (dirL s).length ≤ s.length + 1 := by
  unfold dirL
  have h1 := rtrim_length s
  have h2 := rtrim_length ((rtrim s).take (lastSl (rtrim s) - 1))
  rw [List.length_take] at h2
  split
  · simp
  · split
    · simp
    · split
      · simp
      · show (if _ then _ else _ : List UInt8).length ≤ _
        split
        · simp
        · omega
theorem baseL_len (s : List UInt8) : (baseL s []).length ≤ s.length + 1 := by
  by_cases h : rtrim s = []
  · unfold baseL
    rw [h]
    split
    · simp
    · simp
  · rw [base_eq s h, List.length_drop]
    have h1 := rtrim_length s
    omega
theorem relL_len (s t : List UInt8) : (relL s t).1.length ≤ 3 * (s.length + 1) + (t.length + 1) + 2 := by
  unfold relL relOf
  have h := strip_len (cleanL s) (cleanL t)
  have h1 := cleanL_tot s
  have h2 := cleanL_tot t
  have h3 := tot_len (strip (cleanL s) (cleanL t)).1
  have h4 := strL_len false false (List.replicate (strip (cleanL s) (cleanL t)).1.length dd ++ (strip (cleanL s) (cleanL t)).2)
  rw [tot_append, tot_rep] at h4
  split
  · split
    · simp
    · simp only; omega
  · simp
theorem relL_ne (s t : List UInt8) (h : (relL s t).2 = true) : (relL s t).1 ≠ [] := by
  unfold relL at h ⊢
  cases ha : absL s == absL t
  · rw [ha] at h; cases h
  · rw [ha] at h
    simp only [if_true] at h ⊢
    unfold relOf at h ⊢
    cases hn : (strip (cleanL s) (cleanL t)).1.any (· == dd)
    · simp only [Bool.false_eq_true, if_false]
      refine strL_ne _ _ _ (fun x hx => ?_)
      rcases List.mem_append.1 hx with hx | hx
      · rw [List.eq_of_mem_replicate hx]; exact dd_nm
      · obtain ⟨p, _, hp2⟩ := strip_spec (cleanL s) (cleanL t)
        exact (stab_clean t).2 x (by rw [hp2]; simp [hx])
    · rw [hn] at h; cases h
abbrev upB : Nat := 1048576
/-- what was split, cleaned, taken apart or related comes back -/
theorem pathBack (k : Nat) (s t : List UInt8) (hs : s.length ≤ upB) (ht : t.length ≤ upB) (hk : 4294967296 < k) : F7.go k (arr s) (arr t) = some (Sum.inl ((true, ()), (), ())) := by
  have hs' : s.length ≤ 1048576 := hs
  have ht' : t.length ≤ 1048576 := ht
  have hcl := clL_len s
  have hxl := pJoin_len (clL s) [120] (clL_ne s) (by simp)
  simp only [List.length_cons, List.length_nil] at hxl
  have hrl := relL_len s t
  have e8 := F8_eq k s (by show _ ≤ 4294967296; omega)
  have f15s := F15_eq k s (by show _ ≤ 4294967296; omega) (by omega)
  have f15c := F15_eq k (clL s) (by show _ ≤ 4294967296; omega) (by omega)
  rw [cl_cl] at f15c
  have f15t := F15_eq k t (by show _ ≤ 4294967296; omega) (by omega)
  have f19 := F19_eq k s t (by show _ ≤ 268435456; omega) (by show _ ≤ 268435456; omega) hk
  have f21 := F21_eq k s (pJoin [clL s, [120]]) (by show _ ≤ 268435456; omega) (by show _ ≤ 268435456; omega) hk
  rw [within_x] at f21
  have f17x := F17_1_eq k [clL s, [120]] (by show (clL s).length + 1 + (1 + 1 + 0) + 1 ≤ 4294967296; omega) (by show (clL s).length + 1 + (1 + 1 + 0) + 1 < k; omega)
  have f17x' : F17_1.go k [arr (clL s), ⟨⟨[120]⟩⟩] = some (.inl ((arr (pJoin [clL s, [120]]), ()), ([clL s, [120]].map arr, ()), ())) := f17x
  have f14 := lives k (by omega)
  have f17r : (relL s t).2 = true → F17_1.go k [arr (clL s), arr (relL s t).1] = some (.inl ((arr (pJoin [clL s, (relL s t).1]), ()), ([clL s, (relL s t).1].map arr, ()), ())) := fun h =>
    F17_1_eq k [clL s, (relL s t).1] (by show (clL s).length + 1 + ((relL s t).1.length + 1 + 0) + 1 ≤ 4294967296; omega) (by show (clL s).length + 1 + ((relL s t).1.length + 1 + 0) + 1 < k; omega)
  have f15r : (relL s t).2 = true → F15.go k (arr (pJoin [clL s, (relL s t).1])) = some (.inl ((arr (clL t), ()), (), ())) := fun h => by
    have hl := pJoin_len (clL s) (relL s t).1 (clL_ne s) (relL_ne s t h)
    have := F15_eq k (pJoin [clL s, (relL s t).1]) (by show _ ≤ 4294967296; omega) (by omega)
    rw [rel_leads s t h] at this
    exact this
  have f25 := F25_eq k s (limBig (by show _ ≤ 4294967296; omega)) (by omega)
  have f23 := F23_eq k s [] (limBig (by show _ ≤ 4294967296; omega)) (by omega)
  have f23' : F23.go k (arr s) ⟨⟨[]⟩⟩ = _ := f23
  have f17d : s.isEmpty = false → F17_1.go k [arr (dirL s), arr (baseL s [])] = some (.inl ((arr (clL s), ()), ([dirL s, baseL s []].map arr, ()), ())) := fun h => by
    have h0 : s ≠ [] := by intro e; subst e; cases h
    have hd := dirL_len s
    have hb := baseL_len s
    have := F17_1_eq k [dirL s, baseL s []] (by show (dirL s).length + 1 + ((baseL s []).length + 1 + 0) + 1 ≤ 4294967296; omega) (by show (dirL s).length + 1 + ((baseL s []).length + 1 + 0) + 1 < k; omega)
    rw [dir_base s h0] at this
    exact this
  have hem := ne_beq s
  unfold splitS at e8
  unfold F7.go
  cases hc : codeL s == 0
  · rw [hc] at e8
    have e8' : F8.go k (arr s) = some (errS (codeL s)) := e8
    unfold errS at e8'
    cases hr : (relL s t).2 <;> cases he : s.isEmpty
    · have g := f17d he
      simp only [e8', Option.bind_some, Sum.elim_inl, hc, cond_false, f15s, f15c, beq_self_eq_true, Bool.not_true, hem, he, Bool.not_false, cond_true, f25, f23', g, f19, hr, f17x', f21, f14]
    · simp only [e8', Option.bind_some, Sum.elim_inl, hc, cond_false, f15s, f15c, beq_self_eq_true, Bool.not_true, hem, he, Bool.not_false, cond_true, f19, hr, f17x', f21, f14]
    · have g := f17d he
      have g2 := f17r hr
      have g3 := f15r hr
      simp only [e8', Option.bind_some, Sum.elim_inl, hc, cond_false, f15s, f15c, beq_self_eq_true, Bool.not_true, hem, he, Bool.not_false, cond_true, f25, f23', g, f19, hr, f17x', f21, f14, g2, g3, f15t]
    · have g2 := f17r hr
      have g3 := f15r hr
      simp only [e8', Option.bind_some, Sum.elim_inl, hc, cond_false, f15s, f15c, beq_self_eq_true, Bool.not_true, hem, he, Bool.not_false, cond_true, f19, hr, f17x', f21, f14, g2, g3, f15t]
  · rw [hc] at e8
    have e8' : F8.go k (arr s) = some (okS s) := e8
    unfold okS at e8'
    have h1 := tot_splitN s []
    have h2 := tot_len (splitN [] s)
    simp only [List.length_nil] at h1
    have f11 := F11_3_eq k (absL s) (slashL s) (splitN [] s) (by show _ ≤ 4294967296; omega) (by omega)
    have hwl := strL_len (absL s) (slashL s) (splitN [] s)
    have e8w := F8_eq k (strL (absL s) (slashL s) (splitN [] s)) (by show _ ≤ 4294967296; omega)
    rw [split_back s hc] at e8w
    unfold okS at e8w
    have f10 := F10_5_eq k (absL s) (slashL s) (splitN [] s) (by show _ ≤ 4294967296; omega) (by omega)
    have hz : ((0 : Int) == 0) = true := rfl
    have hz2 : ((0 : Int) != 0) = false := rfl
    cases hr : (relL s t).2 <;> cases he : s.isEmpty
    · have g := f17d he
      simp only [e8', Option.bind_some, Sum.elim_inl, Sum.elim_inr, hz, hz2, f11, e8w, f10, cond_false, f15s, f15c, beq_self_eq_true, Bool.not_true, hem, he, Bool.not_false, cond_true, f25, f23', g, f19, hr, f17x', f21, f14]
    · simp only [e8', Option.bind_some, Sum.elim_inl, Sum.elim_inr, hz, hz2, f11, e8w, f10, cond_false, f15s, f15c, beq_self_eq_true, Bool.not_true, hem, he, Bool.not_false, cond_true, f19, hr, f17x', f21, f14]
    · have g := f17d he
      have g2 := f17r hr
      have g3 := f15r hr
      simp only [e8', Option.bind_some, Sum.elim_inl, Sum.elim_inr, hz, hz2, f11, e8w, f10, cond_false, f15s, f15c, beq_self_eq_true, Bool.not_true, hem, he, Bool.not_false, cond_true, f25, f23', g, f19, hr, f17x', f21, f14, g2, g3, f15t]
    · have g2 := f17r hr
      have g3 := f15r hr
      simp only [e8', Option.bind_some, Sum.elim_inl, Sum.elim_inr, hz, hz2, f11, e8w, f10, cond_false, f15s, f15c, beq_self_eq_true, Bool.not_true, hem, he, Bool.not_false, cond_true, f19, hr, f17x', f21, f14, g2, g3, f15t]
theorem pathBackP (a b : ByteArray) (ha : a.size ≤ 1048576) (hb : b.size ≤ 1048576) : ∃ k, F7.go k a b = some (Sum.inl ((true, ()), (), ())) :=
  ⟨4294967297, pathBack 4294967297 a.data.toList b.data.toList ha hb (by decide)⟩
end Go.Proofs.Tryd.S

