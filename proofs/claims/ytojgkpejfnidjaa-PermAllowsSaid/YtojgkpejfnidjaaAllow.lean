/- The plain law: Access, Member and Remove answer as the reference does. -/
import Derived.Test.YtojgkpejfnidjaaPlain
set_option linter.unusedVariables false
set_option linter.unusedSimpArgs false
set_option linter.unusedSectionVars false
set_option maxRecDepth 100000
namespace Go.Proofs.Try.S
open Go Go.Ev
theorem list_at {l : List Int} {i : Nat} (h : i < l.length) : l.getD i 0 = l[i] := by
  rw [List.getD_eq_getElem?_getD, List.getElem?_eq_getElem h]; rfl
theorem drop_int {l : List Int} {i : Nat} (h : i < l.length) : l.drop i = l[i] :: l.drop (i + 1) := List.drop_eq_getElem_cons h
theorem M13 (k0 : Nat) (g : Int) (l : List Int) (hl : l.length ≤ 140737488351232) : ∀ (k i : Nat), i ≤ l.length → l.length - i < k →
    loopN (fun x => F13.go58 k0 x.fst.fst x.fst.snd.fst x.fst.snd.snd.fst x.fst.snd.snd.snd.fst) k (((i : Int), g, l, (l.length : Int), ()), (), ()) =
      some (bif (l.drop i).any (fun d => d == g) then .inl ((true, ()), (), ()) else .inr ((), (), ()))
  | 0, i, h, hk => absurd hk (Nat.not_lt_zero _)
  | k + 1, i, h, hk => by
    rcases Nat.lt_or_ge i l.length with c | c
    · have h0 : (i : Int) < (l.length : Int) := by omega
      have h0' : (0 : Int) ≤ (i : Int) := by omega
      rw [drop_int c, List.any_cons]
      cases e : l[i] == g
      · have s : F13.go58 k0 i g l l.length = some (.inl ((((i + 1 : Nat) : Int), g, l, (l.length : Int), ()), (), ())) := by
          unfold F13.go58
          simp only [h0, h0', decide_true, cond_true, Int.toNat_natCast, get_in c, e, cond_false, wrap_id (n := (i : Int) + 1) (by omega) (by omega)]
          rfl
        exact (loopN_inl s).trans (M13 k0 g l hl k (i + 1) c (by omega))
      · refine loopN_inr ?_
        dsimp only
        unfold F13.go58
        simp only [h0, h0', decide_true, cond_true, Int.toNat_natCast, get_in c, e]
        rfl
    · have : i = l.length := Nat.le_antisymm h c
      subst this
      refine loopN_inr ?_
      dsimp only
      unfold F13.go58
      simp only [Int.lt_irrefl, decide_false, cond_false, List.drop_length]
      rfl
theorem M38 (k0 : Nat) (g : Int) (l : List Int) (hl : l.length ≤ 140737488351232) : ∀ (k i : Nat), i ≤ l.length → l.length - i < k →
    ∃ y, loopN (fun x => F38.go26 k0 x.fst.fst x.fst.snd.fst x.fst.snd.snd.fst x.fst.snd.snd.snd.fst) k (((i : Int), l, g, (l.length : Int), ()), (), ()) = some y ∧
      ((l.drop i).any (fun d => d == g) = true ∧ (∃ j : Int, y = .inl ((j, ()), (), ()) ∧ 0 ≤ j) ∨ (l.drop i).any (fun d => d == g) = false ∧ y = .inr ((), (), ()))
  | 0, i, h, hk => absurd hk (Nat.not_lt_zero _)
  | k + 1, i, h, hk => by
    rcases Nat.lt_or_ge i l.length with c | c
    · have h0 : (i : Int) < (l.length : Int) := by omega
      have h0' : (0 : Int) ≤ (i : Int) := by omega
      rw [drop_int c, List.any_cons]
      have hq : (g == l[i]) = (l[i] == g) := Bool.beq_comm
      cases e : l[i] == g
      · have s : F38.go26 k0 i l g l.length = some (.inl ((((i + 1 : Nat) : Int), l, g, (l.length : Int), ()), (), ())) := by
          unfold F38.go26
          simp only [h0, h0', decide_true, cond_true, Int.toNat_natCast, get_in c, hq, e, cond_false, wrap_id (n := (i : Int) + 1) (by omega) (by omega)]
          rfl
        obtain ⟨y, h1, h2⟩ := M38 k0 g l hl k (i + 1) c (by omega)
        exact ⟨y, (loopN_inl s).trans h1, h2⟩
      · refine ⟨.inl (((i : Int), ()), (), ()), loopN_inr ?_, .inl ⟨rfl, (i : Int), rfl, h0'⟩⟩
        dsimp only
        unfold F38.go26
        simp only [h0, h0', decide_true, cond_true, Int.toNat_natCast, get_in c, hq, e]
    · have : i = l.length := Nat.le_antisymm h c
      subst this
      refine ⟨.inr ((), (), ()), loopN_inr ?_, .inr ⟨by rw [List.drop_length]; rfl, rfl⟩⟩
      dsimp only
      unfold F38.go26
      simp only [Int.lt_irrefl, decide_false, cond_false]
theorem F13_eq (k : Nat) (l : List Int) (hl : l.length ≤ 140737488351232) (hk : l.length < k) (a0 a1 a3 a4 g : Int) : F13.go k a0 a1 l a3 a4 g = some ((a1 == g || l.any (fun d => d == g), ()), (), ()) := by
  unfold F13.go
  cases e : a1 == g
  · have L : F13.l_58 k ((0, g, l, ↑l.length, ()), (), ()) = _ := M13 k g l hl k 0 (Nat.zero_le _) (by omega)
    rw [List.drop_zero] at L
    rw [cond_false, L]
    cases l.any (fun d => d == g) <;> rfl
  · rfl
theorem F12_eq (k : Nat) (l : List Int) (hl : l.length ≤ 140737488351232) (hk : l.length < k) (a0 a1 a3 a4 g : Int) : F12.go k a0 a1 l a3 a4 g = some ((a1 == g || l.any (fun d => d == g), ()), (), ()) := by
  unfold F12.go
  cases e : a1 == g
  · obtain ⟨y, h1, h2⟩ := M38 k g l hl k 0 (Nat.zero_le _) (by omega)
    have L : F38.l_26 k ((0, l, g, ↑l.length, ()), (), ()) = some y := h1
    rw [List.drop_zero] at h2
    unfold F27.go F38.go
    rw [cond_false, L]
    rcases h2 with ⟨h2, j, rfl, hj⟩ | ⟨h2, rfl⟩
    · rw [h2]
      simp only [Option.bind_some, Sum.elim_inl, decide_eq_true (show j ≥ 0 from hj), Bool.or_true]
    · rw [h2]; rfl
  · rfl
theorem F10_F11 (k : Nat) (l : List Int) (hl : l.length ≤ 140737488351232) (hk : l.length < k) (a0 a1 a2 a3 a4 a6 a7 a8 : Int) : ∃ b, F10.go k a0 a1 a2 a3 a4 l a6 a7 a8 = some ((b, ()), (), ()) ∧ F11.go k a0 a1 a2 a3 a4 l a6 a7 a8 = some ((b, ()), (), ()) := by
  unfold F10.go F11.go
  rw [F12_eq k l hl hk, F13_eq k l hl hk]
  cases a3 == 0
  · cases a3 == a1
    · cases a4 == a2 || l.any (fun d => d == a2)
      · exact ⟨_, rfl, rfl⟩
      · exact ⟨_, rfl, rfl⟩
    · exact ⟨_, rfl, rfl⟩
  · simp only [cond_true]
    cases and' (and' a8 7) 1 == 0
    · cases and' a0 61440 == 16384
      · exact ⟨_, rfl, rfl⟩
      · exact ⟨_, rfl, rfl⟩
    · exact ⟨_, rfl, rfl⟩
theorem F14_F15 (k : Nat) (a0 a1 a2 a3 a4 a5 a6 a7 a8 a9 a10 a11 a12 a13 a14 a15 a16 a17 a18 a19 a20 a21 : Int) (l : List Int) (a23 a24 : Int) :
    ∃ b, F14.go k a0 a1 a2 a3 a4 a5 a6 a7 a8 a9 a10 a11 a12 a13 a14 a15 a16 a17 a18 a19 a20 a21 l a23 a24 = some ((b, ()), (), ()) ∧ F15.go k a0 a1 a2 a3 a4 a5 a6 a7 a8 a9 a10 a11 a12 a13 a14 a15 a16 a17 a18 a19 a20 a21 l a23 a24 = some ((b, ()), (), ()) := by
  unfold F14.go F15.go
  cases and' a6 512 == 0
  · cases a20 == 0
    · cases a20 == a12
      · exact ⟨_, rfl, rfl⟩
      · exact ⟨_, rfl, rfl⟩
    · exact ⟨_, rfl, rfl⟩
  · exact ⟨_, rfl, rfl⟩
theorem permAllows (a0 a1 : Int) (a2 : List Int) (a3 a4 a5 a6 a7 a8 a9 a10 a11 a12 a13 a14 a15 a16 a17 a18 a19 a20 a21 a22 a23 a24 a25 a26 a27 a28 : Int) (h : a2.length ≤ reachBytes) :
    ∃ k, F4.go k a0 a1 a2 a3 a4 a5 a6 a7 a8 a9 a10 a11 a12 a13 a14 a15 a16 a17 a18 a19 a20 a21 a22 a23 a24 a25 a26 a27 a28 = some ((true, ()), (), ()) := by
  have hl : a2.length ≤ 140737488351232 := h
  refine ⟨a2.length + 40, ?_⟩
  obtain ⟨b, h1, h2⟩ := F10_F11 (a2.length + 40) a2 hl (by omega) a5 a6 a7 a0 a1 a3 a4 a8
  obtain ⟨c, h3, h4⟩ := F14_F15 (a2.length + 40) a9 a10 a11 a12 a13 a14 a15 a16 a17 a18 a19 a20 a21 a22 a23 a24 a25 a26 a27 a28 a0 a1 a2 a3 a4
  unfold F4.go
  rw [h1, h2, F12_eq _ a2 hl (by omega), F13_eq _ a2 hl (by omega), h3, h4, lives]
  simp only [Option.bind_some, beq_self_eq_true, cond_true, cond_false]
end Go.Proofs.Try.S

