/- The plain law: a mode is written as the reference writes it, in letters and in octal, and a text is read as the reference reads it. -/
import Derived.Test.YtojgkpejfnidjaaBack
set_option linter.unusedVariables false
set_option linter.unusedSimpArgs false
set_option linter.unusedSectionVars false
set_option maxRecDepth 100000
namespace Go.Proofs.Try.S
open Go Go.Ev
/-! the reference's three letters -/
theorem R0_0_115 (k : Nat) : F31.go (k + 5) ((0 : Nat) : Int) false (ByteArray.mk ⟨[115]⟩) (ByteArray.mk ⟨[83]⟩) = some ((arr (tri 0 0), ()), (), ()) := by kernel_rfl
theorem R0_0_116 (k : Nat) : F31.go (k + 5) ((0 : Nat) : Int) false (ByteArray.mk ⟨[116]⟩) (ByteArray.mk ⟨[84]⟩) = some ((arr (tri 0 0), ()), (), ()) := by kernel_rfl
theorem R0_1_115 (k : Nat) : F31.go (k + 5) ((0 : Nat) : Int) true (ByteArray.mk ⟨[115]⟩) (ByteArray.mk ⟨[83]⟩) = some ((arr (tri 0 115), ()), (), ()) := by kernel_rfl
theorem R0_1_116 (k : Nat) : F31.go (k + 5) ((0 : Nat) : Int) true (ByteArray.mk ⟨[116]⟩) (ByteArray.mk ⟨[84]⟩) = some ((arr (tri 0 116), ()), (), ()) := by kernel_rfl
theorem R1_0_115 (k : Nat) : F31.go (k + 5) ((1 : Nat) : Int) false (ByteArray.mk ⟨[115]⟩) (ByteArray.mk ⟨[83]⟩) = some ((arr (tri 1 0), ()), (), ()) := by kernel_rfl
theorem R1_0_116 (k : Nat) : F31.go (k + 5) ((1 : Nat) : Int) false (ByteArray.mk ⟨[116]⟩) (ByteArray.mk ⟨[84]⟩) = some ((arr (tri 1 0), ()), (), ()) := by kernel_rfl
theorem R1_1_115 (k : Nat) : F31.go (k + 5) ((1 : Nat) : Int) true (ByteArray.mk ⟨[115]⟩) (ByteArray.mk ⟨[83]⟩) = some ((arr (tri 1 115), ()), (), ()) := by kernel_rfl
theorem R1_1_116 (k : Nat) : F31.go (k + 5) ((1 : Nat) : Int) true (ByteArray.mk ⟨[116]⟩) (ByteArray.mk ⟨[84]⟩) = some ((arr (tri 1 116), ()), (), ()) := by kernel_rfl
theorem R2_0_115 (k : Nat) : F31.go (k + 5) ((2 : Nat) : Int) false (ByteArray.mk ⟨[115]⟩) (ByteArray.mk ⟨[83]⟩) = some ((arr (tri 2 0), ()), (), ()) := by kernel_rfl
theorem R2_0_116 (k : Nat) : F31.go (k + 5) ((2 : Nat) : Int) false (ByteArray.mk ⟨[116]⟩) (ByteArray.mk ⟨[84]⟩) = some ((arr (tri 2 0), ()), (), ()) := by kernel_rfl
theorem R2_1_115 (k : Nat) : F31.go (k + 5) ((2 : Nat) : Int) true (ByteArray.mk ⟨[115]⟩) (ByteArray.mk ⟨[83]⟩) = some ((arr (tri 2 115), ()), (), ()) := by kernel_rfl
theorem R2_1_116 (k : Nat) : F31.go (k + 5) ((2 : Nat) : Int) true (ByteArray.mk ⟨[116]⟩) (ByteArray.mk ⟨[84]⟩) = some ((arr (tri 2 116), ()), (), ()) := by kernel_rfl
theorem R3_0_115 (k : Nat) : F31.go (k + 5) ((3 : Nat) : Int) false (ByteArray.mk ⟨[115]⟩) (ByteArray.mk ⟨[83]⟩) = some ((arr (tri 3 0), ()), (), ()) := by kernel_rfl
theorem R3_0_116 (k : Nat) : F31.go (k + 5) ((3 : Nat) : Int) false (ByteArray.mk ⟨[116]⟩) (ByteArray.mk ⟨[84]⟩) = some ((arr (tri 3 0), ()), (), ()) := by kernel_rfl
theorem R3_1_115 (k : Nat) : F31.go (k + 5) ((3 : Nat) : Int) true (ByteArray.mk ⟨[115]⟩) (ByteArray.mk ⟨[83]⟩) = some ((arr (tri 3 115), ()), (), ()) := by kernel_rfl
theorem R3_1_116 (k : Nat) : F31.go (k + 5) ((3 : Nat) : Int) true (ByteArray.mk ⟨[116]⟩) (ByteArray.mk ⟨[84]⟩) = some ((arr (tri 3 116), ()), (), ()) := by kernel_rfl
theorem R4_0_115 (k : Nat) : F31.go (k + 5) ((4 : Nat) : Int) false (ByteArray.mk ⟨[115]⟩) (ByteArray.mk ⟨[83]⟩) = some ((arr (tri 4 0), ()), (), ()) := by kernel_rfl
theorem R4_0_116 (k : Nat) : F31.go (k + 5) ((4 : Nat) : Int) false (ByteArray.mk ⟨[116]⟩) (ByteArray.mk ⟨[84]⟩) = some ((arr (tri 4 0), ()), (), ()) := by kernel_rfl
theorem R4_1_115 (k : Nat) : F31.go (k + 5) ((4 : Nat) : Int) true (ByteArray.mk ⟨[115]⟩) (ByteArray.mk ⟨[83]⟩) = some ((arr (tri 4 115), ()), (), ()) := by kernel_rfl
theorem R4_1_116 (k : Nat) : F31.go (k + 5) ((4 : Nat) : Int) true (ByteArray.mk ⟨[116]⟩) (ByteArray.mk ⟨[84]⟩) = some ((arr (tri 4 116), ()), (), ()) := by kernel_rfl
theorem R5_0_115 (k : Nat) : F31.go (k + 5) ((5 : Nat) : Int) false (ByteArray.mk ⟨[115]⟩) (ByteArray.mk ⟨[83]⟩) = some ((arr (tri 5 0), ()), (), ()) := by kernel_rfl
theorem R5_0_116 (k : Nat) : F31.go (k + 5) ((5 : Nat) : Int) false (ByteArray.mk ⟨[116]⟩) (ByteArray.mk ⟨[84]⟩) = some ((arr (tri 5 0), ()), (), ()) := by kernel_rfl
theorem R5_1_115 (k : Nat) : F31.go (k + 5) ((5 : Nat) : Int) true (ByteArray.mk ⟨[115]⟩) (ByteArray.mk ⟨[83]⟩) = some ((arr (tri 5 115), ()), (), ()) := by kernel_rfl
theorem R5_1_116 (k : Nat) : F31.go (k + 5) ((5 : Nat) : Int) true (ByteArray.mk ⟨[116]⟩) (ByteArray.mk ⟨[84]⟩) = some ((arr (tri 5 116), ()), (), ()) := by kernel_rfl
theorem R6_0_115 (k : Nat) : F31.go (k + 5) ((6 : Nat) : Int) false (ByteArray.mk ⟨[115]⟩) (ByteArray.mk ⟨[83]⟩) = some ((arr (tri 6 0), ()), (), ()) := by kernel_rfl
theorem R6_0_116 (k : Nat) : F31.go (k + 5) ((6 : Nat) : Int) false (ByteArray.mk ⟨[116]⟩) (ByteArray.mk ⟨[84]⟩) = some ((arr (tri 6 0), ()), (), ()) := by kernel_rfl
theorem R6_1_115 (k : Nat) : F31.go (k + 5) ((6 : Nat) : Int) true (ByteArray.mk ⟨[115]⟩) (ByteArray.mk ⟨[83]⟩) = some ((arr (tri 6 115), ()), (), ()) := by kernel_rfl
theorem R6_1_116 (k : Nat) : F31.go (k + 5) ((6 : Nat) : Int) true (ByteArray.mk ⟨[116]⟩) (ByteArray.mk ⟨[84]⟩) = some ((arr (tri 6 116), ()), (), ()) := by kernel_rfl
theorem R7_0_115 (k : Nat) : F31.go (k + 5) ((7 : Nat) : Int) false (ByteArray.mk ⟨[115]⟩) (ByteArray.mk ⟨[83]⟩) = some ((arr (tri 7 0), ()), (), ()) := by kernel_rfl
theorem R7_0_116 (k : Nat) : F31.go (k + 5) ((7 : Nat) : Int) false (ByteArray.mk ⟨[116]⟩) (ByteArray.mk ⟨[84]⟩) = some ((arr (tri 7 0), ()), (), ()) := by kernel_rfl
theorem R7_1_115 (k : Nat) : F31.go (k + 5) ((7 : Nat) : Int) true (ByteArray.mk ⟨[115]⟩) (ByteArray.mk ⟨[83]⟩) = some ((arr (tri 7 115), ()), (), ()) := by kernel_rfl
theorem R7_1_116 (k : Nat) : F31.go (k + 5) ((7 : Nat) : Int) true (ByteArray.mk ⟨[116]⟩) (ByteArray.mk ⟨[84]⟩) = some ((arr (tri 7 116), ()), (), ()) := by kernel_rfl
theorem F31_115 (k b : Nat) (hb : b < 8) (e : Bool) : F31.go (k + 5) (b : Int) e (ByteArray.mk ⟨[115]⟩) (ByteArray.mk ⟨[83]⟩) = some ((arr (tri b (bif e then 115 else 0)), ()), (), ()) := by
  have h : b = 0 ∨ b = 1 ∨ b = 2 ∨ b = 3 ∨ b = 4 ∨ b = 5 ∨ b = 6 ∨ b = 7 := by omega
  rcases h with rfl | rfl | rfl | rfl | rfl | rfl | rfl | rfl <;> cases e
  · exact R0_0_115 k
  · exact R0_1_115 k
  · exact R1_0_115 k
  · exact R1_1_115 k
  · exact R2_0_115 k
  · exact R2_1_115 k
  · exact R3_0_115 k
  · exact R3_1_115 k
  · exact R4_0_115 k
  · exact R4_1_115 k
  · exact R5_0_115 k
  · exact R5_1_115 k
  · exact R6_0_115 k
  · exact R6_1_115 k
  · exact R7_0_115 k
  · exact R7_1_115 k
theorem F31_116 (k b : Nat) (hb : b < 8) (e : Bool) : F31.go (k + 5) (b : Int) e (ByteArray.mk ⟨[116]⟩) (ByteArray.mk ⟨[84]⟩) = some ((arr (tri b (bif e then 116 else 0)), ()), (), ()) := by
  have h : b = 0 ∨ b = 1 ∨ b = 2 ∨ b = 3 ∨ b = 4 ∨ b = 5 ∨ b = 6 ∨ b = 7 := by omega
  rcases h with rfl | rfl | rfl | rfl | rfl | rfl | rfl | rfl <;> cases e
  · exact R0_0_116 k
  · exact R0_1_116 k
  · exact R1_0_116 k
  · exact R1_1_116 k
  · exact R2_0_116 k
  · exact R2_1_116 k
  · exact R3_0_116 k
  · exact R3_1_116 k
  · exact R4_0_116 k
  · exact R4_1_116 k
  · exact R5_0_116 k
  · exact R5_1_116 k
  · exact R6_0_116 k
  · exact R6_1_116 k
  · exact R7_0_116 k
  · exact R7_1_116 k
theorem and7_any (x : Int) : ∃ n : Nat, n < 8 ∧ and' x 7 = (n : Int) := by
  have e := and_toInt x 7#64
  have hle : (BitVec.ofInt 64 x &&& 7#64).toNat ≤ 7 := by
    rw [BitVec.toNat_and]; exact Nat.and_le_right
  refine ⟨(BitVec.ofInt 64 x &&& 7#64).toNat, by omega, ?_⟩
  refine e.trans ?_
  show (BitVec.ofInt 64 x &&& 7#64).toInt = _
  rw [BitVec.toInt_eq_toNat_cond, if_pos (by omega)]
def kindI (q : Int) : UInt8 := bif q == 16384 then 100 else bif q == 40960 then 108 else bif q == 4096 then 112 else bif q == 32768 then 45 else 63
theorem F30_any (k : Nat) (m p : Int) (l : Nat) : F30.go k m p (l : Int) = some ((((bif and' m p != 0 then l else 0 : Nat) : Int), ()), (), ()) := by
  unfold F30.go
  cases and' m p != 0 <;> rfl
/-- Both write a mode alike. -/
theorem text_eq (k : Nat) (m : Int) : ∃ t, F18.go (k + 5) m = some ((arr t, ()), (), ()) ∧ F19.go (k + 5) m = some ((arr t, ()), (), ()) := by
  obtain ⟨b2, hb2, e2⟩ := and7_any (m.fdiv (2 ^ 6))
  obtain ⟨b1, hb1, e1⟩ := and7_any (m.fdiv (2 ^ 3))
  obtain ⟨b0, hb0, e0⟩ := and7_any m
  obtain ⟨c2, h2⟩ : ∃ c : Bool, (and' m 2048 != 0) = c := ⟨_, rfl⟩
  obtain ⟨c1, h1⟩ : ∃ c : Bool, (and' m 1024 != 0) = c := ⟨_, rfl⟩
  obtain ⟨c0, h0⟩ : ∃ c : Bool, (and' m 512 != 0) = c := ⟨_, rfl⟩
  obtain ⟨q, hq⟩ : ∃ q : Int, and' m 61440 = q := ⟨_, rfl⟩
  obtain ⟨l2, hl2, hl2'⟩ : ∃ l : Nat, (bif c2 then 115 else 0) = l ∧ (l = 0 ∨ l = 115 ∨ l = 116) := ⟨_, rfl, by cases c2 <;> simp⟩
  obtain ⟨l1, hl1, hl1'⟩ : ∃ l : Nat, (bif c1 then 115 else 0) = l ∧ (l = 0 ∨ l = 115 ∨ l = 116) := ⟨_, rfl, by cases c1 <;> simp⟩
  obtain ⟨l0, hl0, hl0'⟩ : ∃ l : Nat, (bif c0 then 116 else 0) = l ∧ (l = 0 ∨ l = 115 ∨ l = 116) := ⟨_, rfl, by cases c0 <;> simp⟩
  have f2 := F29_eq k b2 l2 hb2 hl2'
  have f1 := F29_eq k b1 l1 hb1 hl1'
  have f0 := F29_eq k b0 l0 hb0 hl0'
  have g2 := F31_115 k b2 hb2 c2
  have g1 := F31_115 k b1 hb1 c1
  have g0 := F31_116 k b0 hb0 c0
  rw [hl2] at g2
  rw [hl1] at g1
  rw [hl0] at g0
  have s1 (c : UInt8) : (ByteArray.mk ⟨[c]⟩).append (arr (tri b2 l2)) = arr (c :: tri b2 l2) := arr_append [c] _
  refine ⟨kindI q :: (tri b2 l2 ++ tri b1 l1 ++ tri b0 l0), ?_, ?_⟩
  · have a1 : F30.go (k + 5) m (Int.ofNat 2048) (Int.ofNat 115) = _ := F30_any (k + 5) m 2048 115
    have a2 : F30.go (k + 5) m (Int.ofNat 1024) (Int.ofNat 115) = _ := F30_any (k + 5) m 1024 115
    have a3 : F30.go (k + 5) m (Int.ofNat 512) (Int.ofNat 116) = _ := F30_any (k + 5) m 512 116
    rw [h2, hl2] at a1
    rw [h1, hl1] at a2
    rw [h0, hl0] at a3
    unfold F18.go kindI
    simp only [a1, a2, a3, hq, e2, e1, e0, f2, f1, f0, Option.bind_some, arr_size, tri_len, s1, arr_append, List.length_append, List.length_cons]
    cases q == 16384 <;> cases q == 40960 <;> cases q == 4096 <;> cases q == 32768 <;> rfl
  · unfold F19.go kindI
    simp only [hq, h2, h1, h0, e2, e1, e0, g2, g1, g0, Option.bind_some, arr_size, tri_len, s1, arr_append, List.length_append, List.length_cons]
    cases q == 16384 <;> cases q == 40960 <;> cases q == 4096 <;> cases q == 32768 <;> rfl
/-! octal -/
theorem F21_raw (k : Nat) (n : Int) : F21.go (k + 5) n = some ((((((ByteArray.mk ⟨[]⟩).append (strOf [IntKind.u8.wrap (IntKind.i64.wrap (48 + and' (n.fdiv (2 ^ 9)) 7))])).append (strOf [IntKind.u8.wrap (IntKind.i64.wrap (48 + and' (n.fdiv (2 ^ 6)) 7))])).append
    (strOf [IntKind.u8.wrap (IntKind.i64.wrap (48 + and' (n.fdiv (2 ^ 3)) 7))])).append (strOf [IntKind.u8.wrap (IntKind.i64.wrap (48 + and' (n.fdiv (2 ^ 0)) 7))]), ()), (), ()) := by kernel_rfl
theorem dig2 (d : Nat) (h : d < 8) : IntKind.u8.wrap (IntKind.i64.wrap (48 + (d : Int))) = ((48 + d : Nat) : Int) := by
  rw [wrap_id (by omega) (by omega), IntKind.wrap_u8]; omega
theorem strOf_one (d : Nat) : strOf [((d : Nat) : Int)] = arr [UInt8.ofNat d] := rfl
theorem octal_eq (k : Nat) (m : Int) : ∃ t, F20.go (k + 5) m = some ((arr t, ()), (), ()) ∧ F21.go (k + 5) m = some ((arr t, ()), (), ()) := by
  obtain ⟨d3, h3, e3⟩ := and7_any (m.fdiv (2 ^ 9))
  obtain ⟨d2, h2, e2⟩ := and7_any (m.fdiv (2 ^ 6))
  obtain ⟨d1, h1, e1⟩ := and7_any (m.fdiv (2 ^ 3))
  obtain ⟨d0, h0, e0⟩ := and7_any (m.fdiv (2 ^ 0))
  refine ⟨[UInt8.ofNat (48 + d3), UInt8.ofNat (48 + d2), UInt8.ofNat (48 + d1), UInt8.ofNat (48 + d0)], ?_, ?_⟩
  · rw [F20_raw, e3, e2, e1, e0, u8_dig _ h3, u8_dig _ h2, u8_dig _ h1, u8_dig _ h0]
    rfl
  · have z : (ByteArray.mk ⟨[]⟩).append (arr [UInt8.ofNat (48 + d3)]) = arr [UInt8.ofNat (48 + d3)] := arr_append [] _
    rw [F21_raw, e3, e2, e1, e0, dig2 _ h3, dig2 _ h2, dig2 _ h1, dig2 _ h0, strOf_one, strOf_one, strOf_one, strOf_one, z, arr_append, arr_append, arr_append]
    rfl
/-! reading -/
noncomputable abbrev in28 (k0 : Nat) (x : (Int × ByteArray × Int × Int × Int × (Int × Int × Unit) × Int × Unit) × Unit × Unit) := F28.go7826 k0 x.fst.fst x.fst.snd.fst x.fst.snd.snd.fst x.fst.snd.snd.snd.fst x.fst.snd.snd.snd.snd.fst
        x.fst.snd.snd.snd.snd.snd.fst.fst x.fst.snd.snd.snd.snd.snd.fst.snd.fst x.fst.snd.snd.snd.snd.snd.snd.fst
noncomputable abbrev out28 (k0 : Nat) (x : (ByteArray × Int × Int × Int × Int × Unit) × Unit × Unit) := F28.go122 k0 x.fst.fst x.fst.snd.fst x.fst.snd.snd.fst x.fst.snd.snd.snd.fst x.fst.snd.snd.snd.snd.fst
def valV (i b l : Nat) : Nat := ((bif b / 4 % 2 == 1 then 256 / 8 ^ i else 0) ||| (bif b / 2 % 2 == 1 then 128 / 8 ^ i else 0) ||| (bif b % 2 == 1 then 64 / 8 ^ i else 0)) ||| (bif l == 0 then 0 else 2048 / 2 ^ i)
theorem P0_0_0 (k : Nat) (s : ByteArray) : F28.go7826 (k + 10) 0 s 0 6 0 0 2048 2048 = bif tri 0 0 == s.toList then some (.inr (.inl ((((valV 0 0 0 : Nat) : Int), true, ()), (), ()))) else some (.inl ((1, s, 0, 6, 0, (0, 2048, ()), 2048, ()), (), ())) := by kernel_rfl
theorem P0_0_1 (k : Nat) (s : ByteArray) : F28.go7826 (k + 10) 1 s 0 6 0 0 2048 2048 = bif tri 0 115 == s.toList then some (.inr (.inl ((((valV 0 0 115 : Nat) : Int), true, ()), (), ()))) else some (.inl ((2, s, 0, 6, 0, (0, 2048, ()), 2048, ()), (), ())) := by kernel_rfl
theorem Q0_0 (k j : Nat) (s : ByteArray) (h0 : (tri 0 0 == s.toList) = false) (h1 : (tri 0 115 == s.toList) = false) : F28.go122 (k + 10) s 0 6 0 2048 = some (.inl ((s, 0, 6, 1, 2048, ()), (), ())) := by
  have e0 := P0_0_0 k s
  have e1 := P0_0_1 k s
  rw [h0, cond_false] at e0
  rw [h1, cond_false] at e1
  have e2 : F28.go7826 (k + 10) 2 s 0 6 0 0 2048 2048 = some (.inr (.inr ((s, 0, 6, 2048, 0, ()), (), ()))) := by kernel_rfl
  have L : F28.l_7826 (k + 10) ((0, s, 0, 6, 0, (Int.ofNat 0, 2048, ()), 2048, ()), (), ()) = _ := (loopN_inl (f := in28 (k + 10)) (k := k + 9) e0).trans ((loopN_inl (k := k + 8) e1).trans (loopN_inr (k := k + 7) e2))
  have c : decide ((0 : Int) < 8) = true := by decide
  unfold F28.go122
  rw [c, cond_true, L]
  rfl
theorem H0_0_0 (k : Nat) : F28.go (k + 20) (arr (tri 0 0)) 0 = some (((((valV 0 0 0 : Nat) : Int), true, ()), ()), (), ()) := by kernel_rfl
theorem H0_0_115 (k : Nat) : F28.go (k + 20) (arr (tri 0 115)) 0 = some (((((valV 0 0 115 : Nat) : Int), true, ()), ()), (), ()) := by kernel_rfl
theorem P0_1_0 (k : Nat) (s : ByteArray) : F28.go7826 (k + 10) 0 s 0 6 1 0 2048 2048 = bif tri 1 0 == s.toList then some (.inr (.inl ((((valV 0 1 0 : Nat) : Int), true, ()), (), ()))) else some (.inl ((1, s, 0, 6, 1, (0, 2048, ()), 2048, ()), (), ())) := by kernel_rfl
theorem P0_1_1 (k : Nat) (s : ByteArray) : F28.go7826 (k + 10) 1 s 0 6 1 0 2048 2048 = bif tri 1 115 == s.toList then some (.inr (.inl ((((valV 0 1 115 : Nat) : Int), true, ()), (), ()))) else some (.inl ((2, s, 0, 6, 1, (0, 2048, ()), 2048, ()), (), ())) := by kernel_rfl
theorem Q0_1 (k j : Nat) (s : ByteArray) (h0 : (tri 1 0 == s.toList) = false) (h1 : (tri 1 115 == s.toList) = false) : F28.go122 (k + 10) s 0 6 1 2048 = some (.inl ((s, 0, 6, 2, 2048, ()), (), ())) := by
  have e0 := P0_1_0 k s
  have e1 := P0_1_1 k s
  rw [h0, cond_false] at e0
  rw [h1, cond_false] at e1
  have e2 : F28.go7826 (k + 10) 2 s 0 6 1 0 2048 2048 = some (.inr (.inr ((s, 0, 6, 2048, 1, ()), (), ()))) := by kernel_rfl
  have L : F28.l_7826 (k + 10) ((0, s, 0, 6, 1, (Int.ofNat 0, 2048, ()), 2048, ()), (), ()) = _ := (loopN_inl (f := in28 (k + 10)) (k := k + 9) e0).trans ((loopN_inl (k := k + 8) e1).trans (loopN_inr (k := k + 7) e2))
  have c : decide ((1 : Int) < 8) = true := by decide
  unfold F28.go122
  rw [c, cond_true, L]
  rfl
theorem H0_1_0 (k : Nat) : F28.go (k + 20) (arr (tri 1 0)) 0 = some (((((valV 0 1 0 : Nat) : Int), true, ()), ()), (), ()) := by kernel_rfl
theorem H0_1_115 (k : Nat) : F28.go (k + 20) (arr (tri 1 115)) 0 = some (((((valV 0 1 115 : Nat) : Int), true, ()), ()), (), ()) := by kernel_rfl
theorem P0_2_0 (k : Nat) (s : ByteArray) : F28.go7826 (k + 10) 0 s 0 6 2 0 2048 2048 = bif tri 2 0 == s.toList then some (.inr (.inl ((((valV 0 2 0 : Nat) : Int), true, ()), (), ()))) else some (.inl ((1, s, 0, 6, 2, (0, 2048, ()), 2048, ()), (), ())) := by kernel_rfl
theorem P0_2_1 (k : Nat) (s : ByteArray) : F28.go7826 (k + 10) 1 s 0 6 2 0 2048 2048 = bif tri 2 115 == s.toList then some (.inr (.inl ((((valV 0 2 115 : Nat) : Int), true, ()), (), ()))) else some (.inl ((2, s, 0, 6, 2, (0, 2048, ()), 2048, ()), (), ())) := by kernel_rfl
theorem Q0_2 (k j : Nat) (s : ByteArray) (h0 : (tri 2 0 == s.toList) = false) (h1 : (tri 2 115 == s.toList) = false) : F28.go122 (k + 10) s 0 6 2 2048 = some (.inl ((s, 0, 6, 3, 2048, ()), (), ())) := by
  have e0 := P0_2_0 k s
  have e1 := P0_2_1 k s
  rw [h0, cond_false] at e0
  rw [h1, cond_false] at e1
  have e2 : F28.go7826 (k + 10) 2 s 0 6 2 0 2048 2048 = some (.inr (.inr ((s, 0, 6, 2048, 2, ()), (), ()))) := by kernel_rfl
  have L : F28.l_7826 (k + 10) ((0, s, 0, 6, 2, (Int.ofNat 0, 2048, ()), 2048, ()), (), ()) = _ := (loopN_inl (f := in28 (k + 10)) (k := k + 9) e0).trans ((loopN_inl (k := k + 8) e1).trans (loopN_inr (k := k + 7) e2))
  have c : decide ((2 : Int) < 8) = true := by decide
  unfold F28.go122
  rw [c, cond_true, L]
  rfl
theorem H0_2_0 (k : Nat) : F28.go (k + 20) (arr (tri 2 0)) 0 = some (((((valV 0 2 0 : Nat) : Int), true, ()), ()), (), ()) := by kernel_rfl
theorem H0_2_115 (k : Nat) : F28.go (k + 20) (arr (tri 2 115)) 0 = some (((((valV 0 2 115 : Nat) : Int), true, ()), ()), (), ()) := by kernel_rfl
theorem P0_3_0 (k : Nat) (s : ByteArray) : F28.go7826 (k + 10) 0 s 0 6 3 0 2048 2048 = bif tri 3 0 == s.toList then some (.inr (.inl ((((valV 0 3 0 : Nat) : Int), true, ()), (), ()))) else some (.inl ((1, s, 0, 6, 3, (0, 2048, ()), 2048, ()), (), ())) := by kernel_rfl
theorem P0_3_1 (k : Nat) (s : ByteArray) : F28.go7826 (k + 10) 1 s 0 6 3 0 2048 2048 = bif tri 3 115 == s.toList then some (.inr (.inl ((((valV 0 3 115 : Nat) : Int), true, ()), (), ()))) else some (.inl ((2, s, 0, 6, 3, (0, 2048, ()), 2048, ()), (), ())) := by kernel_rfl
theorem Q0_3 (k j : Nat) (s : ByteArray) (h0 : (tri 3 0 == s.toList) = false) (h1 : (tri 3 115 == s.toList) = false) : F28.go122 (k + 10) s 0 6 3 2048 = some (.inl ((s, 0, 6, 4, 2048, ()), (), ())) := by
  have e0 := P0_3_0 k s
  have e1 := P0_3_1 k s
  rw [h0, cond_false] at e0
  rw [h1, cond_false] at e1
  have e2 : F28.go7826 (k + 10) 2 s 0 6 3 0 2048 2048 = some (.inr (.inr ((s, 0, 6, 2048, 3, ()), (), ()))) := by kernel_rfl
  have L : F28.l_7826 (k + 10) ((0, s, 0, 6, 3, (Int.ofNat 0, 2048, ()), 2048, ()), (), ()) = _ := (loopN_inl (f := in28 (k + 10)) (k := k + 9) e0).trans ((loopN_inl (k := k + 8) e1).trans (loopN_inr (k := k + 7) e2))
  have c : decide ((3 : Int) < 8) = true := by decide
  unfold F28.go122
  rw [c, cond_true, L]
  rfl
theorem H0_3_0 (k : Nat) : F28.go (k + 20) (arr (tri 3 0)) 0 = some (((((valV 0 3 0 : Nat) : Int), true, ()), ()), (), ()) := by kernel_rfl
theorem H0_3_115 (k : Nat) : F28.go (k + 20) (arr (tri 3 115)) 0 = some (((((valV 0 3 115 : Nat) : Int), true, ()), ()), (), ()) := by kernel_rfl
theorem P0_4_0 (k : Nat) (s : ByteArray) : F28.go7826 (k + 10) 0 s 0 6 4 0 2048 2048 = bif tri 4 0 == s.toList then some (.inr (.inl ((((valV 0 4 0 : Nat) : Int), true, ()), (), ()))) else some (.inl ((1, s, 0, 6, 4, (0, 2048, ()), 2048, ()), (), ())) := by kernel_rfl
theorem P0_4_1 (k : Nat) (s : ByteArray) : F28.go7826 (k + 10) 1 s 0 6 4 0 2048 2048 = bif tri 4 115 == s.toList then some (.inr (.inl ((((valV 0 4 115 : Nat) : Int), true, ()), (), ()))) else some (.inl ((2, s, 0, 6, 4, (0, 2048, ()), 2048, ()), (), ())) := by kernel_rfl
theorem Q0_4 (k j : Nat) (s : ByteArray) (h0 : (tri 4 0 == s.toList) = false) (h1 : (tri 4 115 == s.toList) = false) : F28.go122 (k + 10) s 0 6 4 2048 = some (.inl ((s, 0, 6, 5, 2048, ()), (), ())) := by
  have e0 := P0_4_0 k s
  have e1 := P0_4_1 k s
  rw [h0, cond_false] at e0
  rw [h1, cond_false] at e1
  have e2 : F28.go7826 (k + 10) 2 s 0 6 4 0 2048 2048 = some (.inr (.inr ((s, 0, 6, 2048, 4, ()), (), ()))) := by kernel_rfl
  have L : F28.l_7826 (k + 10) ((0, s, 0, 6, 4, (Int.ofNat 0, 2048, ()), 2048, ()), (), ()) = _ := (loopN_inl (f := in28 (k + 10)) (k := k + 9) e0).trans ((loopN_inl (k := k + 8) e1).trans (loopN_inr (k := k + 7) e2))
  have c : decide ((4 : Int) < 8) = true := by decide
  unfold F28.go122
  rw [c, cond_true, L]
  rfl
theorem H0_4_0 (k : Nat) : F28.go (k + 20) (arr (tri 4 0)) 0 = some (((((valV 0 4 0 : Nat) : Int), true, ()), ()), (), ()) := by kernel_rfl
theorem H0_4_115 (k : Nat) : F28.go (k + 20) (arr (tri 4 115)) 0 = some (((((valV 0 4 115 : Nat) : Int), true, ()), ()), (), ()) := by kernel_rfl
theorem P0_5_0 (k : Nat) (s : ByteArray) : F28.go7826 (k + 10) 0 s 0 6 5 0 2048 2048 = bif tri 5 0 == s.toList then some (.inr (.inl ((((valV 0 5 0 : Nat) : Int), true, ()), (), ()))) else some (.inl ((1, s, 0, 6, 5, (0, 2048, ()), 2048, ()), (), ())) := by kernel_rfl
theorem P0_5_1 (k : Nat) (s : ByteArray) : F28.go7826 (k + 10) 1 s 0 6 5 0 2048 2048 = bif tri 5 115 == s.toList then some (.inr (.inl ((((valV 0 5 115 : Nat) : Int), true, ()), (), ()))) else some (.inl ((2, s, 0, 6, 5, (0, 2048, ()), 2048, ()), (), ())) := by kernel_rfl
theorem Q0_5 (k j : Nat) (s : ByteArray) (h0 : (tri 5 0 == s.toList) = false) (h1 : (tri 5 115 == s.toList) = false) : F28.go122 (k + 10) s 0 6 5 2048 = some (.inl ((s, 0, 6, 6, 2048, ()), (), ())) := by
  have e0 := P0_5_0 k s
  have e1 := P0_5_1 k s
  rw [h0, cond_false] at e0
  rw [h1, cond_false] at e1
  have e2 : F28.go7826 (k + 10) 2 s 0 6 5 0 2048 2048 = some (.inr (.inr ((s, 0, 6, 2048, 5, ()), (), ()))) := by kernel_rfl
  have L : F28.l_7826 (k + 10) ((0, s, 0, 6, 5, (Int.ofNat 0, 2048, ()), 2048, ()), (), ()) = _ := (loopN_inl (f := in28 (k + 10)) (k := k + 9) e0).trans ((loopN_inl (k := k + 8) e1).trans (loopN_inr (k := k + 7) e2))
  have c : decide ((5 : Int) < 8) = true := by decide
  unfold F28.go122
  rw [c, cond_true, L]
  rfl
theorem H0_5_0 (k : Nat) : F28.go (k + 20) (arr (tri 5 0)) 0 = some (((((valV 0 5 0 : Nat) : Int), true, ()), ()), (), ()) := by kernel_rfl
theorem H0_5_115 (k : Nat) : F28.go (k + 20) (arr (tri 5 115)) 0 = some (((((valV 0 5 115 : Nat) : Int), true, ()), ()), (), ()) := by kernel_rfl
theorem P0_6_0 (k : Nat) (s : ByteArray) : F28.go7826 (k + 10) 0 s 0 6 6 0 2048 2048 = bif tri 6 0 == s.toList then some (.inr (.inl ((((valV 0 6 0 : Nat) : Int), true, ()), (), ()))) else some (.inl ((1, s, 0, 6, 6, (0, 2048, ()), 2048, ()), (), ())) := by kernel_rfl
theorem P0_6_1 (k : Nat) (s : ByteArray) : F28.go7826 (k + 10) 1 s 0 6 6 0 2048 2048 = bif tri 6 115 == s.toList then some (.inr (.inl ((((valV 0 6 115 : Nat) : Int), true, ()), (), ()))) else some (.inl ((2, s, 0, 6, 6, (0, 2048, ()), 2048, ()), (), ())) := by kernel_rfl
theorem Q0_6 (k j : Nat) (s : ByteArray) (h0 : (tri 6 0 == s.toList) = false) (h1 : (tri 6 115 == s.toList) = false) : F28.go122 (k + 10) s 0 6 6 2048 = some (.inl ((s, 0, 6, 7, 2048, ()), (), ())) := by
  have e0 := P0_6_0 k s
  have e1 := P0_6_1 k s
  rw [h0, cond_false] at e0
  rw [h1, cond_false] at e1
  have e2 : F28.go7826 (k + 10) 2 s 0 6 6 0 2048 2048 = some (.inr (.inr ((s, 0, 6, 2048, 6, ()), (), ()))) := by kernel_rfl
  have L : F28.l_7826 (k + 10) ((0, s, 0, 6, 6, (Int.ofNat 0, 2048, ()), 2048, ()), (), ()) = _ := (loopN_inl (f := in28 (k + 10)) (k := k + 9) e0).trans ((loopN_inl (k := k + 8) e1).trans (loopN_inr (k := k + 7) e2))
  have c : decide ((6 : Int) < 8) = true := by decide
  unfold F28.go122
  rw [c, cond_true, L]
  rfl
theorem H0_6_0 (k : Nat) : F28.go (k + 20) (arr (tri 6 0)) 0 = some (((((valV 0 6 0 : Nat) : Int), true, ()), ()), (), ()) := by kernel_rfl
theorem H0_6_115 (k : Nat) : F28.go (k + 20) (arr (tri 6 115)) 0 = some (((((valV 0 6 115 : Nat) : Int), true, ()), ()), (), ()) := by kernel_rfl
theorem P0_7_0 (k : Nat) (s : ByteArray) : F28.go7826 (k + 10) 0 s 0 6 7 0 2048 2048 = bif tri 7 0 == s.toList then some (.inr (.inl ((((valV 0 7 0 : Nat) : Int), true, ()), (), ()))) else some (.inl ((1, s, 0, 6, 7, (0, 2048, ()), 2048, ()), (), ())) := by kernel_rfl
theorem P0_7_1 (k : Nat) (s : ByteArray) : F28.go7826 (k + 10) 1 s 0 6 7 0 2048 2048 = bif tri 7 115 == s.toList then some (.inr (.inl ((((valV 0 7 115 : Nat) : Int), true, ()), (), ()))) else some (.inl ((2, s, 0, 6, 7, (0, 2048, ()), 2048, ()), (), ())) := by kernel_rfl
theorem Q0_7 (k j : Nat) (s : ByteArray) (h0 : (tri 7 0 == s.toList) = false) (h1 : (tri 7 115 == s.toList) = false) : F28.go122 (k + 10) s 0 6 7 2048 = some (.inl ((s, 0, 6, 8, 2048, ()), (), ())) := by
  have e0 := P0_7_0 k s
  have e1 := P0_7_1 k s
  rw [h0, cond_false] at e0
  rw [h1, cond_false] at e1
  have e2 : F28.go7826 (k + 10) 2 s 0 6 7 0 2048 2048 = some (.inr (.inr ((s, 0, 6, 2048, 7, ()), (), ()))) := by kernel_rfl
  have L : F28.l_7826 (k + 10) ((0, s, 0, 6, 7, (Int.ofNat 0, 2048, ()), 2048, ()), (), ()) = _ := (loopN_inl (f := in28 (k + 10)) (k := k + 9) e0).trans ((loopN_inl (k := k + 8) e1).trans (loopN_inr (k := k + 7) e2))
  have c : decide ((7 : Int) < 8) = true := by decide
  unfold F28.go122
  rw [c, cond_true, L]
  rfl
theorem H0_7_0 (k : Nat) : F28.go (k + 20) (arr (tri 7 0)) 0 = some (((((valV 0 7 0 : Nat) : Int), true, ()), ()), (), ()) := by kernel_rfl
theorem H0_7_115 (k : Nat) : F28.go (k + 20) (arr (tri 7 115)) 0 = some (((((valV 0 7 115 : Nat) : Int), true, ()), ()), (), ()) := by kernel_rfl
theorem hit0 (k b l : Nat) (hb : b < 8) (hl : l = 0 ∨ l = 115) : F28.go (k + 20) (arr (tri b l)) 0 = some (((((valV 0 b l : Nat) : Int), true, ()), ()), (), ()) := by
  have h : b = 0 ∨ b = 1 ∨ b = 2 ∨ b = 3 ∨ b = 4 ∨ b = 5 ∨ b = 6 ∨ b = 7 := by omega
  rcases h with rfl | rfl | rfl | rfl | rfl | rfl | rfl | rfl <;> rcases hl with rfl | rfl
  · exact H0_0_0 k
  · exact H0_0_115 k
  · exact H0_1_0 k
  · exact H0_1_115 k
  · exact H0_2_0 k
  · exact H0_2_115 k
  · exact H0_3_0 k
  · exact H0_3_115 k
  · exact H0_4_0 k
  · exact H0_4_115 k
  · exact H0_5_0 k
  · exact H0_5_115 k
  · exact H0_6_0 k
  · exact H0_6_115 k
  · exact H0_7_0 k
  · exact H0_7_115 k
theorem miss0 (k : Nat) (s : ByteArray) (h : ¬ ∃ b l, b < 8 ∧ (l = 0 ∨ l = 115) ∧ s.toList = tri b l) : F28.go (k + 20) s 0 = some (((0, false, ()), ()), (), ()) := by
  have n (b l : Nat) (hb : b < 8) (hl : l = 0 ∨ l = 115) : (tri b l == s.toList) = false := by
    rw [beq_eq_false_iff_ne]; intro e; exact h ⟨b, l, hb, hl, e.symm⟩
  have q0 := Q0_0 (k + 10) 0 s (n 0 0 (by decide) (Or.inl rfl)) (n 0 115 (by decide) (Or.inr rfl))
  have q1 := Q0_1 (k + 10) 0 s (n 1 0 (by decide) (Or.inl rfl)) (n 1 115 (by decide) (Or.inr rfl))
  have q2 := Q0_2 (k + 10) 0 s (n 2 0 (by decide) (Or.inl rfl)) (n 2 115 (by decide) (Or.inr rfl))
  have q3 := Q0_3 (k + 10) 0 s (n 3 0 (by decide) (Or.inl rfl)) (n 3 115 (by decide) (Or.inr rfl))
  have q4 := Q0_4 (k + 10) 0 s (n 4 0 (by decide) (Or.inl rfl)) (n 4 115 (by decide) (Or.inr rfl))
  have q5 := Q0_5 (k + 10) 0 s (n 5 0 (by decide) (Or.inl rfl)) (n 5 115 (by decide) (Or.inr rfl))
  have q6 := Q0_6 (k + 10) 0 s (n 6 0 (by decide) (Or.inl rfl)) (n 6 115 (by decide) (Or.inr rfl))
  have q7 := Q0_7 (k + 10) 0 s (n 7 0 (by decide) (Or.inl rfl)) (n 7 115 (by decide) (Or.inr rfl))
  have q8 : F28.go122 (k + 20) s 0 6 8 2048 = some (.inr (.inr ((), (), ()))) := by kernel_rfl
  have L : F28.l_122 (k + 20) ((s, 0, 6, 0, 2048, ()), (), ()) = _ :=
    (loopN_inl (f := out28 (k + 20)) (k := k + 19) q0).trans ((loopN_inl (k := k + 18) q1).trans ((loopN_inl (k := k + 17) q2).trans ((loopN_inl (k := k + 16) q3).trans ((loopN_inl (k := k + 15) q4).trans ((loopN_inl (k := k + 14) q5).trans ((loopN_inl (k := k + 13) q6).trans ((loopN_inl (k := k + 12) q7).trans (loopN_inr (k := k + 11) q8))))))))
  have c : decide (IntKind.u64.wrap 0 < 0) = false := by decide
  have L' : F28.l_122 (k + 20) ((s, 0, IntKind.u64.wrap (IntKind.i64.wrap (6 - IntKind.i64.wrap (3 * 0))), 0, Int.fdiv 2048 (2 ^ min (IntKind.u64.wrap 0).toNat IntKind.i64.bits), ()), (), ()) = _ := L
  unfold F28.go
  rw [c, cond_false, L']
  rfl
theorem P1_0_0 (k : Nat) (s : ByteArray) : F28.go7826 (k + 10) 0 s 1 3 0 0 1024 1024 = bif tri 0 0 == s.toList then some (.inr (.inl ((((valV 1 0 0 : Nat) : Int), true, ()), (), ()))) else some (.inl ((1, s, 1, 3, 0, (0, 1024, ()), 1024, ()), (), ())) := by kernel_rfl
theorem P1_0_1 (k : Nat) (s : ByteArray) : F28.go7826 (k + 10) 1 s 1 3 0 0 1024 1024 = bif tri 0 115 == s.toList then some (.inr (.inl ((((valV 1 0 115 : Nat) : Int), true, ()), (), ()))) else some (.inl ((2, s, 1, 3, 0, (0, 1024, ()), 1024, ()), (), ())) := by kernel_rfl
theorem Q1_0 (k j : Nat) (s : ByteArray) (h0 : (tri 0 0 == s.toList) = false) (h1 : (tri 0 115 == s.toList) = false) : F28.go122 (k + 10) s 1 3 0 1024 = some (.inl ((s, 1, 3, 1, 1024, ()), (), ())) := by
  have e0 := P1_0_0 k s
  have e1 := P1_0_1 k s
  rw [h0, cond_false] at e0
  rw [h1, cond_false] at e1
  have e2 : F28.go7826 (k + 10) 2 s 1 3 0 0 1024 1024 = some (.inr (.inr ((s, 1, 3, 1024, 0, ()), (), ()))) := by kernel_rfl
  have L : F28.l_7826 (k + 10) ((0, s, 1, 3, 0, (Int.ofNat 0, 1024, ()), 1024, ()), (), ()) = _ := (loopN_inl (f := in28 (k + 10)) (k := k + 9) e0).trans ((loopN_inl (k := k + 8) e1).trans (loopN_inr (k := k + 7) e2))
  have c : decide ((0 : Int) < 8) = true := by decide
  unfold F28.go122
  rw [c, cond_true, L]
  rfl
theorem H1_0_0 (k : Nat) : F28.go (k + 20) (arr (tri 0 0)) 1 = some (((((valV 1 0 0 : Nat) : Int), true, ()), ()), (), ()) := by kernel_rfl
theorem H1_0_115 (k : Nat) : F28.go (k + 20) (arr (tri 0 115)) 1 = some (((((valV 1 0 115 : Nat) : Int), true, ()), ()), (), ()) := by kernel_rfl
theorem P1_1_0 (k : Nat) (s : ByteArray) : F28.go7826 (k + 10) 0 s 1 3 1 0 1024 1024 = bif tri 1 0 == s.toList then some (.inr (.inl ((((valV 1 1 0 : Nat) : Int), true, ()), (), ()))) else some (.inl ((1, s, 1, 3, 1, (0, 1024, ()), 1024, ()), (), ())) := by kernel_rfl
theorem P1_1_1 (k : Nat) (s : ByteArray) : F28.go7826 (k + 10) 1 s 1 3 1 0 1024 1024 = bif tri 1 115 == s.toList then some (.inr (.inl ((((valV 1 1 115 : Nat) : Int), true, ()), (), ()))) else some (.inl ((2, s, 1, 3, 1, (0, 1024, ()), 1024, ()), (), ())) := by kernel_rfl
theorem Q1_1 (k j : Nat) (s : ByteArray) (h0 : (tri 1 0 == s.toList) = false) (h1 : (tri 1 115 == s.toList) = false) : F28.go122 (k + 10) s 1 3 1 1024 = some (.inl ((s, 1, 3, 2, 1024, ()), (), ())) := by
  have e0 := P1_1_0 k s
  have e1 := P1_1_1 k s
  rw [h0, cond_false] at e0
  rw [h1, cond_false] at e1
  have e2 : F28.go7826 (k + 10) 2 s 1 3 1 0 1024 1024 = some (.inr (.inr ((s, 1, 3, 1024, 1, ()), (), ()))) := by kernel_rfl
  have L : F28.l_7826 (k + 10) ((0, s, 1, 3, 1, (Int.ofNat 0, 1024, ()), 1024, ()), (), ()) = _ := (loopN_inl (f := in28 (k + 10)) (k := k + 9) e0).trans ((loopN_inl (k := k + 8) e1).trans (loopN_inr (k := k + 7) e2))
  have c : decide ((1 : Int) < 8) = true := by decide
  unfold F28.go122
  rw [c, cond_true, L]
  rfl
theorem H1_1_0 (k : Nat) : F28.go (k + 20) (arr (tri 1 0)) 1 = some (((((valV 1 1 0 : Nat) : Int), true, ()), ()), (), ()) := by kernel_rfl
theorem H1_1_115 (k : Nat) : F28.go (k + 20) (arr (tri 1 115)) 1 = some (((((valV 1 1 115 : Nat) : Int), true, ()), ()), (), ()) := by kernel_rfl
theorem P1_2_0 (k : Nat) (s : ByteArray) : F28.go7826 (k + 10) 0 s 1 3 2 0 1024 1024 = bif tri 2 0 == s.toList then some (.inr (.inl ((((valV 1 2 0 : Nat) : Int), true, ()), (), ()))) else some (.inl ((1, s, 1, 3, 2, (0, 1024, ()), 1024, ()), (), ())) := by kernel_rfl
theorem P1_2_1 (k : Nat) (s : ByteArray) : F28.go7826 (k + 10) 1 s 1 3 2 0 1024 1024 = bif tri 2 115 == s.toList then some (.inr (.inl ((((valV 1 2 115 : Nat) : Int), true, ()), (), ()))) else some (.inl ((2, s, 1, 3, 2, (0, 1024, ()), 1024, ()), (), ())) := by kernel_rfl
theorem Q1_2 (k j : Nat) (s : ByteArray) (h0 : (tri 2 0 == s.toList) = false) (h1 : (tri 2 115 == s.toList) = false) : F28.go122 (k + 10) s 1 3 2 1024 = some (.inl ((s, 1, 3, 3, 1024, ()), (), ())) := by
  have e0 := P1_2_0 k s
  have e1 := P1_2_1 k s
  rw [h0, cond_false] at e0
  rw [h1, cond_false] at e1
  have e2 : F28.go7826 (k + 10) 2 s 1 3 2 0 1024 1024 = some (.inr (.inr ((s, 1, 3, 1024, 2, ()), (), ()))) := by kernel_rfl
  have L : F28.l_7826 (k + 10) ((0, s, 1, 3, 2, (Int.ofNat 0, 1024, ()), 1024, ()), (), ()) = _ := (loopN_inl (f := in28 (k + 10)) (k := k + 9) e0).trans ((loopN_inl (k := k + 8) e1).trans (loopN_inr (k := k + 7) e2))
  have c : decide ((2 : Int) < 8) = true := by decide
  unfold F28.go122
  rw [c, cond_true, L]
  rfl
theorem H1_2_0 (k : Nat) : F28.go (k + 20) (arr (tri 2 0)) 1 = some (((((valV 1 2 0 : Nat) : Int), true, ()), ()), (), ()) := by kernel_rfl
theorem H1_2_115 (k : Nat) : F28.go (k + 20) (arr (tri 2 115)) 1 = some (((((valV 1 2 115 : Nat) : Int), true, ()), ()), (), ()) := by kernel_rfl
theorem P1_3_0 (k : Nat) (s : ByteArray) : F28.go7826 (k + 10) 0 s 1 3 3 0 1024 1024 = bif tri 3 0 == s.toList then some (.inr (.inl ((((valV 1 3 0 : Nat) : Int), true, ()), (), ()))) else some (.inl ((1, s, 1, 3, 3, (0, 1024, ()), 1024, ()), (), ())) := by kernel_rfl
theorem P1_3_1 (k : Nat) (s : ByteArray) : F28.go7826 (k + 10) 1 s 1 3 3 0 1024 1024 = bif tri 3 115 == s.toList then some (.inr (.inl ((((valV 1 3 115 : Nat) : Int), true, ()), (), ()))) else some (.inl ((2, s, 1, 3, 3, (0, 1024, ()), 1024, ()), (), ())) := by kernel_rfl
theorem Q1_3 (k j : Nat) (s : ByteArray) (h0 : (tri 3 0 == s.toList) = false) (h1 : (tri 3 115 == s.toList) = false) : F28.go122 (k + 10) s 1 3 3 1024 = some (.inl ((s, 1, 3, 4, 1024, ()), (), ())) := by
  have e0 := P1_3_0 k s
  have e1 := P1_3_1 k s
  rw [h0, cond_false] at e0
  rw [h1, cond_false] at e1
  have e2 : F28.go7826 (k + 10) 2 s 1 3 3 0 1024 1024 = some (.inr (.inr ((s, 1, 3, 1024, 3, ()), (), ()))) := by kernel_rfl
  have L : F28.l_7826 (k + 10) ((0, s, 1, 3, 3, (Int.ofNat 0, 1024, ()), 1024, ()), (), ()) = _ := (loopN_inl (f := in28 (k + 10)) (k := k + 9) e0).trans ((loopN_inl (k := k + 8) e1).trans (loopN_inr (k := k + 7) e2))
  have c : decide ((3 : Int) < 8) = true := by decide
  unfold F28.go122
  rw [c, cond_true, L]
  rfl
theorem H1_3_0 (k : Nat) : F28.go (k + 20) (arr (tri 3 0)) 1 = some (((((valV 1 3 0 : Nat) : Int), true, ()), ()), (), ()) := by kernel_rfl
theorem H1_3_115 (k : Nat) : F28.go (k + 20) (arr (tri 3 115)) 1 = some (((((valV 1 3 115 : Nat) : Int), true, ()), ()), (), ()) := by kernel_rfl
theorem P1_4_0 (k : Nat) (s : ByteArray) : F28.go7826 (k + 10) 0 s 1 3 4 0 1024 1024 = bif tri 4 0 == s.toList then some (.inr (.inl ((((valV 1 4 0 : Nat) : Int), true, ()), (), ()))) else some (.inl ((1, s, 1, 3, 4, (0, 1024, ()), 1024, ()), (), ())) := by kernel_rfl
theorem P1_4_1 (k : Nat) (s : ByteArray) : F28.go7826 (k + 10) 1 s 1 3 4 0 1024 1024 = bif tri 4 115 == s.toList then some (.inr (.inl ((((valV 1 4 115 : Nat) : Int), true, ()), (), ()))) else some (.inl ((2, s, 1, 3, 4, (0, 1024, ()), 1024, ()), (), ())) := by kernel_rfl
theorem Q1_4 (k j : Nat) (s : ByteArray) (h0 : (tri 4 0 == s.toList) = false) (h1 : (tri 4 115 == s.toList) = false) : F28.go122 (k + 10) s 1 3 4 1024 = some (.inl ((s, 1, 3, 5, 1024, ()), (), ())) := by
  have e0 := P1_4_0 k s
  have e1 := P1_4_1 k s
  rw [h0, cond_false] at e0
  rw [h1, cond_false] at e1
  have e2 : F28.go7826 (k + 10) 2 s 1 3 4 0 1024 1024 = some (.inr (.inr ((s, 1, 3, 1024, 4, ()), (), ()))) := by kernel_rfl
  have L : F28.l_7826 (k + 10) ((0, s, 1, 3, 4, (Int.ofNat 0, 1024, ()), 1024, ()), (), ()) = _ := (loopN_inl (f := in28 (k + 10)) (k := k + 9) e0).trans ((loopN_inl (k := k + 8) e1).trans (loopN_inr (k := k + 7) e2))
  have c : decide ((4 : Int) < 8) = true := by decide
  unfold F28.go122
  rw [c, cond_true, L]
  rfl
theorem H1_4_0 (k : Nat) : F28.go (k + 20) (arr (tri 4 0)) 1 = some (((((valV 1 4 0 : Nat) : Int), true, ()), ()), (), ()) := by kernel_rfl
theorem H1_4_115 (k : Nat) : F28.go (k + 20) (arr (tri 4 115)) 1 = some (((((valV 1 4 115 : Nat) : Int), true, ()), ()), (), ()) := by kernel_rfl
theorem P1_5_0 (k : Nat) (s : ByteArray) : F28.go7826 (k + 10) 0 s 1 3 5 0 1024 1024 = bif tri 5 0 == s.toList then some (.inr (.inl ((((valV 1 5 0 : Nat) : Int), true, ()), (), ()))) else some (.inl ((1, s, 1, 3, 5, (0, 1024, ()), 1024, ()), (), ())) := by kernel_rfl
theorem P1_5_1 (k : Nat) (s : ByteArray) : F28.go7826 (k + 10) 1 s 1 3 5 0 1024 1024 = bif tri 5 115 == s.toList then some (.inr (.inl ((((valV 1 5 115 : Nat) : Int), true, ()), (), ()))) else some (.inl ((2, s, 1, 3, 5, (0, 1024, ()), 1024, ()), (), ())) := by kernel_rfl
theorem Q1_5 (k j : Nat) (s : ByteArray) (h0 : (tri 5 0 == s.toList) = false) (h1 : (tri 5 115 == s.toList) = false) : F28.go122 (k + 10) s 1 3 5 1024 = some (.inl ((s, 1, 3, 6, 1024, ()), (), ())) := by
  have e0 := P1_5_0 k s
  have e1 := P1_5_1 k s
  rw [h0, cond_false] at e0
  rw [h1, cond_false] at e1
  have e2 : F28.go7826 (k + 10) 2 s 1 3 5 0 1024 1024 = some (.inr (.inr ((s, 1, 3, 1024, 5, ()), (), ()))) := by kernel_rfl
  have L : F28.l_7826 (k + 10) ((0, s, 1, 3, 5, (Int.ofNat 0, 1024, ()), 1024, ()), (), ()) = _ := (loopN_inl (f := in28 (k + 10)) (k := k + 9) e0).trans ((loopN_inl (k := k + 8) e1).trans (loopN_inr (k := k + 7) e2))
  have c : decide ((5 : Int) < 8) = true := by decide
  unfold F28.go122
  rw [c, cond_true, L]
  rfl
theorem H1_5_0 (k : Nat) : F28.go (k + 20) (arr (tri 5 0)) 1 = some (((((valV 1 5 0 : Nat) : Int), true, ()), ()), (), ()) := by kernel_rfl
theorem H1_5_115 (k : Nat) : F28.go (k + 20) (arr (tri 5 115)) 1 = some (((((valV 1 5 115 : Nat) : Int), true, ()), ()), (), ()) := by kernel_rfl
theorem P1_6_0 (k : Nat) (s : ByteArray) : F28.go7826 (k + 10) 0 s 1 3 6 0 1024 1024 = bif tri 6 0 == s.toList then some (.inr (.inl ((((valV 1 6 0 : Nat) : Int), true, ()), (), ()))) else some (.inl ((1, s, 1, 3, 6, (0, 1024, ()), 1024, ()), (), ())) := by kernel_rfl
theorem P1_6_1 (k : Nat) (s : ByteArray) : F28.go7826 (k + 10) 1 s 1 3 6 0 1024 1024 = bif tri 6 115 == s.toList then some (.inr (.inl ((((valV 1 6 115 : Nat) : Int), true, ()), (), ()))) else some (.inl ((2, s, 1, 3, 6, (0, 1024, ()), 1024, ()), (), ())) := by kernel_rfl
theorem Q1_6 (k j : Nat) (s : ByteArray) (h0 : (tri 6 0 == s.toList) = false) (h1 : (tri 6 115 == s.toList) = false) : F28.go122 (k + 10) s 1 3 6 1024 = some (.inl ((s, 1, 3, 7, 1024, ()), (), ())) := by
  have e0 := P1_6_0 k s
  have e1 := P1_6_1 k s
  rw [h0, cond_false] at e0
  rw [h1, cond_false] at e1
  have e2 : F28.go7826 (k + 10) 2 s 1 3 6 0 1024 1024 = some (.inr (.inr ((s, 1, 3, 1024, 6, ()), (), ()))) := by kernel_rfl
  have L : F28.l_7826 (k + 10) ((0, s, 1, 3, 6, (Int.ofNat 0, 1024, ()), 1024, ()), (), ()) = _ := (loopN_inl (f := in28 (k + 10)) (k := k + 9) e0).trans ((loopN_inl (k := k + 8) e1).trans (loopN_inr (k := k + 7) e2))
  have c : decide ((6 : Int) < 8) = true := by decide
  unfold F28.go122
  rw [c, cond_true, L]
  rfl
theorem H1_6_0 (k : Nat) : F28.go (k + 20) (arr (tri 6 0)) 1 = some (((((valV 1 6 0 : Nat) : Int), true, ()), ()), (), ()) := by kernel_rfl
theorem H1_6_115 (k : Nat) : F28.go (k + 20) (arr (tri 6 115)) 1 = some (((((valV 1 6 115 : Nat) : Int), true, ()), ()), (), ()) := by kernel_rfl
theorem P1_7_0 (k : Nat) (s : ByteArray) : F28.go7826 (k + 10) 0 s 1 3 7 0 1024 1024 = bif tri 7 0 == s.toList then some (.inr (.inl ((((valV 1 7 0 : Nat) : Int), true, ()), (), ()))) else some (.inl ((1, s, 1, 3, 7, (0, 1024, ()), 1024, ()), (), ())) := by kernel_rfl
theorem P1_7_1 (k : Nat) (s : ByteArray) : F28.go7826 (k + 10) 1 s 1 3 7 0 1024 1024 = bif tri 7 115 == s.toList then some (.inr (.inl ((((valV 1 7 115 : Nat) : Int), true, ()), (), ()))) else some (.inl ((2, s, 1, 3, 7, (0, 1024, ()), 1024, ()), (), ())) := by kernel_rfl
theorem Q1_7 (k j : Nat) (s : ByteArray) (h0 : (tri 7 0 == s.toList) = false) (h1 : (tri 7 115 == s.toList) = false) : F28.go122 (k + 10) s 1 3 7 1024 = some (.inl ((s, 1, 3, 8, 1024, ()), (), ())) := by
  have e0 := P1_7_0 k s
  have e1 := P1_7_1 k s
  rw [h0, cond_false] at e0
  rw [h1, cond_false] at e1
  have e2 : F28.go7826 (k + 10) 2 s 1 3 7 0 1024 1024 = some (.inr (.inr ((s, 1, 3, 1024, 7, ()), (), ()))) := by kernel_rfl
  have L : F28.l_7826 (k + 10) ((0, s, 1, 3, 7, (Int.ofNat 0, 1024, ()), 1024, ()), (), ()) = _ := (loopN_inl (f := in28 (k + 10)) (k := k + 9) e0).trans ((loopN_inl (k := k + 8) e1).trans (loopN_inr (k := k + 7) e2))
  have c : decide ((7 : Int) < 8) = true := by decide
  unfold F28.go122
  rw [c, cond_true, L]
  rfl
theorem H1_7_0 (k : Nat) : F28.go (k + 20) (arr (tri 7 0)) 1 = some (((((valV 1 7 0 : Nat) : Int), true, ()), ()), (), ()) := by kernel_rfl
theorem H1_7_115 (k : Nat) : F28.go (k + 20) (arr (tri 7 115)) 1 = some (((((valV 1 7 115 : Nat) : Int), true, ()), ()), (), ()) := by kernel_rfl
theorem hit1 (k b l : Nat) (hb : b < 8) (hl : l = 0 ∨ l = 115) : F28.go (k + 20) (arr (tri b l)) 1 = some (((((valV 1 b l : Nat) : Int), true, ()), ()), (), ()) := by
  have h : b = 0 ∨ b = 1 ∨ b = 2 ∨ b = 3 ∨ b = 4 ∨ b = 5 ∨ b = 6 ∨ b = 7 := by omega
  rcases h with rfl | rfl | rfl | rfl | rfl | rfl | rfl | rfl <;> rcases hl with rfl | rfl
  · exact H1_0_0 k
  · exact H1_0_115 k
  · exact H1_1_0 k
  · exact H1_1_115 k
  · exact H1_2_0 k
  · exact H1_2_115 k
  · exact H1_3_0 k
  · exact H1_3_115 k
  · exact H1_4_0 k
  · exact H1_4_115 k
  · exact H1_5_0 k
  · exact H1_5_115 k
  · exact H1_6_0 k
  · exact H1_6_115 k
  · exact H1_7_0 k
  · exact H1_7_115 k
theorem miss1 (k : Nat) (s : ByteArray) (h : ¬ ∃ b l, b < 8 ∧ (l = 0 ∨ l = 115) ∧ s.toList = tri b l) : F28.go (k + 20) s 1 = some (((0, false, ()), ()), (), ()) := by
  have n (b l : Nat) (hb : b < 8) (hl : l = 0 ∨ l = 115) : (tri b l == s.toList) = false := by
    rw [beq_eq_false_iff_ne]; intro e; exact h ⟨b, l, hb, hl, e.symm⟩
  have q0 := Q1_0 (k + 10) 0 s (n 0 0 (by decide) (Or.inl rfl)) (n 0 115 (by decide) (Or.inr rfl))
  have q1 := Q1_1 (k + 10) 0 s (n 1 0 (by decide) (Or.inl rfl)) (n 1 115 (by decide) (Or.inr rfl))
  have q2 := Q1_2 (k + 10) 0 s (n 2 0 (by decide) (Or.inl rfl)) (n 2 115 (by decide) (Or.inr rfl))
  have q3 := Q1_3 (k + 10) 0 s (n 3 0 (by decide) (Or.inl rfl)) (n 3 115 (by decide) (Or.inr rfl))
  have q4 := Q1_4 (k + 10) 0 s (n 4 0 (by decide) (Or.inl rfl)) (n 4 115 (by decide) (Or.inr rfl))
  have q5 := Q1_5 (k + 10) 0 s (n 5 0 (by decide) (Or.inl rfl)) (n 5 115 (by decide) (Or.inr rfl))
  have q6 := Q1_6 (k + 10) 0 s (n 6 0 (by decide) (Or.inl rfl)) (n 6 115 (by decide) (Or.inr rfl))
  have q7 := Q1_7 (k + 10) 0 s (n 7 0 (by decide) (Or.inl rfl)) (n 7 115 (by decide) (Or.inr rfl))
  have q8 : F28.go122 (k + 20) s 1 3 8 1024 = some (.inr (.inr ((), (), ()))) := by kernel_rfl
  have L : F28.l_122 (k + 20) ((s, 1, 3, 0, 1024, ()), (), ()) = _ :=
    (loopN_inl (f := out28 (k + 20)) (k := k + 19) q0).trans ((loopN_inl (k := k + 18) q1).trans ((loopN_inl (k := k + 17) q2).trans ((loopN_inl (k := k + 16) q3).trans ((loopN_inl (k := k + 15) q4).trans ((loopN_inl (k := k + 14) q5).trans ((loopN_inl (k := k + 13) q6).trans ((loopN_inl (k := k + 12) q7).trans (loopN_inr (k := k + 11) q8))))))))
  have c : decide (IntKind.u64.wrap 1 < 0) = false := by decide
  have L' : F28.l_122 (k + 20) ((s, 1, IntKind.u64.wrap (IntKind.i64.wrap (6 - IntKind.i64.wrap (3 * 1))), 0, Int.fdiv 2048 (2 ^ min (IntKind.u64.wrap 1).toNat IntKind.i64.bits), ()), (), ()) = _ := L
  unfold F28.go
  rw [c, cond_false, L']
  rfl
theorem P2_0_0 (k : Nat) (s : ByteArray) : F28.go7826 (k + 10) 0 s 2 0 0 0 512 512 = bif tri 0 0 == s.toList then some (.inr (.inl ((((valV 2 0 0 : Nat) : Int), true, ()), (), ()))) else some (.inl ((1, s, 2, 0, 0, (0, 512, ()), 512, ()), (), ())) := by kernel_rfl
theorem P2_0_1 (k : Nat) (s : ByteArray) : F28.go7826 (k + 10) 1 s 2 0 0 0 512 512 = bif tri 0 116 == s.toList then some (.inr (.inl ((((valV 2 0 116 : Nat) : Int), true, ()), (), ()))) else some (.inl ((2, s, 2, 0, 0, (0, 512, ()), 512, ()), (), ())) := by kernel_rfl
theorem Q2_0 (k j : Nat) (s : ByteArray) (h0 : (tri 0 0 == s.toList) = false) (h1 : (tri 0 116 == s.toList) = false) : F28.go122 (k + 10) s 2 0 0 512 = some (.inl ((s, 2, 0, 1, 512, ()), (), ())) := by
  have e0 := P2_0_0 k s
  have e1 := P2_0_1 k s
  rw [h0, cond_false] at e0
  rw [h1, cond_false] at e1
  have e2 : F28.go7826 (k + 10) 2 s 2 0 0 0 512 512 = some (.inr (.inr ((s, 2, 0, 512, 0, ()), (), ()))) := by kernel_rfl
  have L : F28.l_7826 (k + 10) ((0, s, 2, 0, 0, (Int.ofNat 0, 512, ()), 512, ()), (), ()) = _ := (loopN_inl (f := in28 (k + 10)) (k := k + 9) e0).trans ((loopN_inl (k := k + 8) e1).trans (loopN_inr (k := k + 7) e2))
  have c : decide ((0 : Int) < 8) = true := by decide
  unfold F28.go122
  rw [c, cond_true, L]
  rfl
theorem H2_0_0 (k : Nat) : F28.go (k + 20) (arr (tri 0 0)) 2 = some (((((valV 2 0 0 : Nat) : Int), true, ()), ()), (), ()) := by kernel_rfl
theorem H2_0_116 (k : Nat) : F28.go (k + 20) (arr (tri 0 116)) 2 = some (((((valV 2 0 116 : Nat) : Int), true, ()), ()), (), ()) := by kernel_rfl
theorem P2_1_0 (k : Nat) (s : ByteArray) : F28.go7826 (k + 10) 0 s 2 0 1 0 512 512 = bif tri 1 0 == s.toList then some (.inr (.inl ((((valV 2 1 0 : Nat) : Int), true, ()), (), ()))) else some (.inl ((1, s, 2, 0, 1, (0, 512, ()), 512, ()), (), ())) := by kernel_rfl
theorem P2_1_1 (k : Nat) (s : ByteArray) : F28.go7826 (k + 10) 1 s 2 0 1 0 512 512 = bif tri 1 116 == s.toList then some (.inr (.inl ((((valV 2 1 116 : Nat) : Int), true, ()), (), ()))) else some (.inl ((2, s, 2, 0, 1, (0, 512, ()), 512, ()), (), ())) := by kernel_rfl
theorem Q2_1 (k j : Nat) (s : ByteArray) (h0 : (tri 1 0 == s.toList) = false) (h1 : (tri 1 116 == s.toList) = false) : F28.go122 (k + 10) s 2 0 1 512 = some (.inl ((s, 2, 0, 2, 512, ()), (), ())) := by
  have e0 := P2_1_0 k s
  have e1 := P2_1_1 k s
  rw [h0, cond_false] at e0
  rw [h1, cond_false] at e1
  have e2 : F28.go7826 (k + 10) 2 s 2 0 1 0 512 512 = some (.inr (.inr ((s, 2, 0, 512, 1, ()), (), ()))) := by kernel_rfl
  have L : F28.l_7826 (k + 10) ((0, s, 2, 0, 1, (Int.ofNat 0, 512, ()), 512, ()), (), ()) = _ := (loopN_inl (f := in28 (k + 10)) (k := k + 9) e0).trans ((loopN_inl (k := k + 8) e1).trans (loopN_inr (k := k + 7) e2))
  have c : decide ((1 : Int) < 8) = true := by decide
  unfold F28.go122
  rw [c, cond_true, L]
  rfl
theorem H2_1_0 (k : Nat) : F28.go (k + 20) (arr (tri 1 0)) 2 = some (((((valV 2 1 0 : Nat) : Int), true, ()), ()), (), ()) := by kernel_rfl
theorem H2_1_116 (k : Nat) : F28.go (k + 20) (arr (tri 1 116)) 2 = some (((((valV 2 1 116 : Nat) : Int), true, ()), ()), (), ()) := by kernel_rfl
theorem P2_2_0 (k : Nat) (s : ByteArray) : F28.go7826 (k + 10) 0 s 2 0 2 0 512 512 = bif tri 2 0 == s.toList then some (.inr (.inl ((((valV 2 2 0 : Nat) : Int), true, ()), (), ()))) else some (.inl ((1, s, 2, 0, 2, (0, 512, ()), 512, ()), (), ())) := by kernel_rfl
theorem P2_2_1 (k : Nat) (s : ByteArray) : F28.go7826 (k + 10) 1 s 2 0 2 0 512 512 = bif tri 2 116 == s.toList then some (.inr (.inl ((((valV 2 2 116 : Nat) : Int), true, ()), (), ()))) else some (.inl ((2, s, 2, 0, 2, (0, 512, ()), 512, ()), (), ())) := by kernel_rfl
theorem Q2_2 (k j : Nat) (s : ByteArray) (h0 : (tri 2 0 == s.toList) = false) (h1 : (tri 2 116 == s.toList) = false) : F28.go122 (k + 10) s 2 0 2 512 = some (.inl ((s, 2, 0, 3, 512, ()), (), ())) := by
  have e0 := P2_2_0 k s
  have e1 := P2_2_1 k s
  rw [h0, cond_false] at e0
  rw [h1, cond_false] at e1
  have e2 : F28.go7826 (k + 10) 2 s 2 0 2 0 512 512 = some (.inr (.inr ((s, 2, 0, 512, 2, ()), (), ()))) := by kernel_rfl
  have L : F28.l_7826 (k + 10) ((0, s, 2, 0, 2, (Int.ofNat 0, 512, ()), 512, ()), (), ()) = _ := (loopN_inl (f := in28 (k + 10)) (k := k + 9) e0).trans ((loopN_inl (k := k + 8) e1).trans (loopN_inr (k := k + 7) e2))
  have c : decide ((2 : Int) < 8) = true := by decide
  unfold F28.go122
  rw [c, cond_true, L]
  rfl
theorem H2_2_0 (k : Nat) : F28.go (k + 20) (arr (tri 2 0)) 2 = some (((((valV 2 2 0 : Nat) : Int), true, ()), ()), (), ()) := by kernel_rfl
theorem H2_2_116 (k : Nat) : F28.go (k + 20) (arr (tri 2 116)) 2 = some (((((valV 2 2 116 : Nat) : Int), true, ()), ()), (), ()) := by kernel_rfl
theorem P2_3_0 (k : Nat) (s : ByteArray) : F28.go7826 (k + 10) 0 s 2 0 3 0 512 512 = bif tri 3 0 == s.toList then some (.inr (.inl ((((valV 2 3 0 : Nat) : Int), true, ()), (), ()))) else some (.inl ((1, s, 2, 0, 3, (0, 512, ()), 512, ()), (), ())) := by kernel_rfl
theorem P2_3_1 (k : Nat) (s : ByteArray) : F28.go7826 (k + 10) 1 s 2 0 3 0 512 512 = bif tri 3 116 == s.toList then some (.inr (.inl ((((valV 2 3 116 : Nat) : Int), true, ()), (), ()))) else some (.inl ((2, s, 2, 0, 3, (0, 512, ()), 512, ()), (), ())) := by kernel_rfl
theorem Q2_3 (k j : Nat) (s : ByteArray) (h0 : (tri 3 0 == s.toList) = false) (h1 : (tri 3 116 == s.toList) = false) : F28.go122 (k + 10) s 2 0 3 512 = some (.inl ((s, 2, 0, 4, 512, ()), (), ())) := by
  have e0 := P2_3_0 k s
  have e1 := P2_3_1 k s
  rw [h0, cond_false] at e0
  rw [h1, cond_false] at e1
  have e2 : F28.go7826 (k + 10) 2 s 2 0 3 0 512 512 = some (.inr (.inr ((s, 2, 0, 512, 3, ()), (), ()))) := by kernel_rfl
  have L : F28.l_7826 (k + 10) ((0, s, 2, 0, 3, (Int.ofNat 0, 512, ()), 512, ()), (), ()) = _ := (loopN_inl (f := in28 (k + 10)) (k := k + 9) e0).trans ((loopN_inl (k := k + 8) e1).trans (loopN_inr (k := k + 7) e2))
  have c : decide ((3 : Int) < 8) = true := by decide
  unfold F28.go122
  rw [c, cond_true, L]
  rfl
theorem H2_3_0 (k : Nat) : F28.go (k + 20) (arr (tri 3 0)) 2 = some (((((valV 2 3 0 : Nat) : Int), true, ()), ()), (), ()) := by kernel_rfl
theorem H2_3_116 (k : Nat) : F28.go (k + 20) (arr (tri 3 116)) 2 = some (((((valV 2 3 116 : Nat) : Int), true, ()), ()), (), ()) := by kernel_rfl
theorem P2_4_0 (k : Nat) (s : ByteArray) : F28.go7826 (k + 10) 0 s 2 0 4 0 512 512 = bif tri 4 0 == s.toList then some (.inr (.inl ((((valV 2 4 0 : Nat) : Int), true, ()), (), ()))) else some (.inl ((1, s, 2, 0, 4, (0, 512, ()), 512, ()), (), ())) := by kernel_rfl
theorem P2_4_1 (k : Nat) (s : ByteArray) : F28.go7826 (k + 10) 1 s 2 0 4 0 512 512 = bif tri 4 116 == s.toList then some (.inr (.inl ((((valV 2 4 116 : Nat) : Int), true, ()), (), ()))) else some (.inl ((2, s, 2, 0, 4, (0, 512, ()), 512, ()), (), ())) := by kernel_rfl
theorem Q2_4 (k j : Nat) (s : ByteArray) (h0 : (tri 4 0 == s.toList) = false) (h1 : (tri 4 116 == s.toList) = false) : F28.go122 (k + 10) s 2 0 4 512 = some (.inl ((s, 2, 0, 5, 512, ()), (), ())) := by
  have e0 := P2_4_0 k s
  have e1 := P2_4_1 k s
  rw [h0, cond_false] at e0
  rw [h1, cond_false] at e1
  have e2 : F28.go7826 (k + 10) 2 s 2 0 4 0 512 512 = some (.inr (.inr ((s, 2, 0, 512, 4, ()), (), ()))) := by kernel_rfl
  have L : F28.l_7826 (k + 10) ((0, s, 2, 0, 4, (Int.ofNat 0, 512, ()), 512, ()), (), ()) = _ := (loopN_inl (f := in28 (k + 10)) (k := k + 9) e0).trans ((loopN_inl (k := k + 8) e1).trans (loopN_inr (k := k + 7) e2))
  have c : decide ((4 : Int) < 8) = true := by decide
  unfold F28.go122
  rw [c, cond_true, L]
  rfl
theorem H2_4_0 (k : Nat) : F28.go (k + 20) (arr (tri 4 0)) 2 = some (((((valV 2 4 0 : Nat) : Int), true, ()), ()), (), ()) := by kernel_rfl
theorem H2_4_116 (k : Nat) : F28.go (k + 20) (arr (tri 4 116)) 2 = some (((((valV 2 4 116 : Nat) : Int), true, ()), ()), (), ()) := by kernel_rfl
theorem P2_5_0 (k : Nat) (s : ByteArray) : F28.go7826 (k + 10) 0 s 2 0 5 0 512 512 = bif tri 5 0 == s.toList then some (.inr (.inl ((((valV 2 5 0 : Nat) : Int), true, ()), (), ()))) else some (.inl ((1, s, 2, 0, 5, (0, 512, ()), 512, ()), (), ())) := by kernel_rfl
theorem P2_5_1 (k : Nat) (s : ByteArray) : F28.go7826 (k + 10) 1 s 2 0 5 0 512 512 = bif tri 5 116 == s.toList then some (.inr (.inl ((((valV 2 5 116 : Nat) : Int), true, ()), (), ()))) else some (.inl ((2, s, 2, 0, 5, (0, 512, ()), 512, ()), (), ())) := by kernel_rfl
theorem Q2_5 (k j : Nat) (s : ByteArray) (h0 : (tri 5 0 == s.toList) = false) (h1 : (tri 5 116 == s.toList) = false) : F28.go122 (k + 10) s 2 0 5 512 = some (.inl ((s, 2, 0, 6, 512, ()), (), ())) := by
  have e0 := P2_5_0 k s
  have e1 := P2_5_1 k s
  rw [h0, cond_false] at e0
  rw [h1, cond_false] at e1
  have e2 : F28.go7826 (k + 10) 2 s 2 0 5 0 512 512 = some (.inr (.inr ((s, 2, 0, 512, 5, ()), (), ()))) := by kernel_rfl
  have L : F28.l_7826 (k + 10) ((0, s, 2, 0, 5, (Int.ofNat 0, 512, ()), 512, ()), (), ()) = _ := (loopN_inl (f := in28 (k + 10)) (k := k + 9) e0).trans ((loopN_inl (k := k + 8) e1).trans (loopN_inr (k := k + 7) e2))
  have c : decide ((5 : Int) < 8) = true := by decide
  unfold F28.go122
  rw [c, cond_true, L]
  rfl
theorem H2_5_0 (k : Nat) : F28.go (k + 20) (arr (tri 5 0)) 2 = some (((((valV 2 5 0 : Nat) : Int), true, ()), ()), (), ()) := by kernel_rfl
theorem H2_5_116 (k : Nat) : F28.go (k + 20) (arr (tri 5 116)) 2 = some (((((valV 2 5 116 : Nat) : Int), true, ()), ()), (), ()) := by kernel_rfl
theorem P2_6_0 (k : Nat) (s : ByteArray) : F28.go7826 (k + 10) 0 s 2 0 6 0 512 512 = bif tri 6 0 == s.toList then some (.inr (.inl ((((valV 2 6 0 : Nat) : Int), true, ()), (), ()))) else some (.inl ((1, s, 2, 0, 6, (0, 512, ()), 512, ()), (), ())) := by kernel_rfl
theorem P2_6_1 (k : Nat) (s : ByteArray) : F28.go7826 (k + 10) 1 s 2 0 6 0 512 512 = bif tri 6 116 == s.toList then some (.inr (.inl ((((valV 2 6 116 : Nat) : Int), true, ()), (), ()))) else some (.inl ((2, s, 2, 0, 6, (0, 512, ()), 512, ()), (), ())) := by kernel_rfl
theorem Q2_6 (k j : Nat) (s : ByteArray) (h0 : (tri 6 0 == s.toList) = false) (h1 : (tri 6 116 == s.toList) = false) : F28.go122 (k + 10) s 2 0 6 512 = some (.inl ((s, 2, 0, 7, 512, ()), (), ())) := by
  have e0 := P2_6_0 k s
  have e1 := P2_6_1 k s
  rw [h0, cond_false] at e0
  rw [h1, cond_false] at e1
  have e2 : F28.go7826 (k + 10) 2 s 2 0 6 0 512 512 = some (.inr (.inr ((s, 2, 0, 512, 6, ()), (), ()))) := by kernel_rfl
  have L : F28.l_7826 (k + 10) ((0, s, 2, 0, 6, (Int.ofNat 0, 512, ()), 512, ()), (), ()) = _ := (loopN_inl (f := in28 (k + 10)) (k := k + 9) e0).trans ((loopN_inl (k := k + 8) e1).trans (loopN_inr (k := k + 7) e2))
  have c : decide ((6 : Int) < 8) = true := by decide
  unfold F28.go122
  rw [c, cond_true, L]
  rfl
theorem H2_6_0 (k : Nat) : F28.go (k + 20) (arr (tri 6 0)) 2 = some (((((valV 2 6 0 : Nat) : Int), true, ()), ()), (), ()) := by kernel_rfl
theorem H2_6_116 (k : Nat) : F28.go (k + 20) (arr (tri 6 116)) 2 = some (((((valV 2 6 116 : Nat) : Int), true, ()), ()), (), ()) := by kernel_rfl
theorem P2_7_0 (k : Nat) (s : ByteArray) : F28.go7826 (k + 10) 0 s 2 0 7 0 512 512 = bif tri 7 0 == s.toList then some (.inr (.inl ((((valV 2 7 0 : Nat) : Int), true, ()), (), ()))) else some (.inl ((1, s, 2, 0, 7, (0, 512, ()), 512, ()), (), ())) := by kernel_rfl
theorem P2_7_1 (k : Nat) (s : ByteArray) : F28.go7826 (k + 10) 1 s 2 0 7 0 512 512 = bif tri 7 116 == s.toList then some (.inr (.inl ((((valV 2 7 116 : Nat) : Int), true, ()), (), ()))) else some (.inl ((2, s, 2, 0, 7, (0, 512, ()), 512, ()), (), ())) := by kernel_rfl
theorem Q2_7 (k j : Nat) (s : ByteArray) (h0 : (tri 7 0 == s.toList) = false) (h1 : (tri 7 116 == s.toList) = false) : F28.go122 (k + 10) s 2 0 7 512 = some (.inl ((s, 2, 0, 8, 512, ()), (), ())) := by
  have e0 := P2_7_0 k s
  have e1 := P2_7_1 k s
  rw [h0, cond_false] at e0
  rw [h1, cond_false] at e1
  have e2 : F28.go7826 (k + 10) 2 s 2 0 7 0 512 512 = some (.inr (.inr ((s, 2, 0, 512, 7, ()), (), ()))) := by kernel_rfl
  have L : F28.l_7826 (k + 10) ((0, s, 2, 0, 7, (Int.ofNat 0, 512, ()), 512, ()), (), ()) = _ := (loopN_inl (f := in28 (k + 10)) (k := k + 9) e0).trans ((loopN_inl (k := k + 8) e1).trans (loopN_inr (k := k + 7) e2))
  have c : decide ((7 : Int) < 8) = true := by decide
  unfold F28.go122
  rw [c, cond_true, L]
  rfl
theorem H2_7_0 (k : Nat) : F28.go (k + 20) (arr (tri 7 0)) 2 = some (((((valV 2 7 0 : Nat) : Int), true, ()), ()), (), ()) := by kernel_rfl
theorem H2_7_116 (k : Nat) : F28.go (k + 20) (arr (tri 7 116)) 2 = some (((((valV 2 7 116 : Nat) : Int), true, ()), ()), (), ()) := by kernel_rfl
theorem hit2 (k b l : Nat) (hb : b < 8) (hl : l = 0 ∨ l = 116) : F28.go (k + 20) (arr (tri b l)) 2 = some (((((valV 2 b l : Nat) : Int), true, ()), ()), (), ()) := by
  have h : b = 0 ∨ b = 1 ∨ b = 2 ∨ b = 3 ∨ b = 4 ∨ b = 5 ∨ b = 6 ∨ b = 7 := by omega
  rcases h with rfl | rfl | rfl | rfl | rfl | rfl | rfl | rfl <;> rcases hl with rfl | rfl
  · exact H2_0_0 k
  · exact H2_0_116 k
  · exact H2_1_0 k
  · exact H2_1_116 k
  · exact H2_2_0 k
  · exact H2_2_116 k
  · exact H2_3_0 k
  · exact H2_3_116 k
  · exact H2_4_0 k
  · exact H2_4_116 k
  · exact H2_5_0 k
  · exact H2_5_116 k
  · exact H2_6_0 k
  · exact H2_6_116 k
  · exact H2_7_0 k
  · exact H2_7_116 k
theorem miss2 (k : Nat) (s : ByteArray) (h : ¬ ∃ b l, b < 8 ∧ (l = 0 ∨ l = 116) ∧ s.toList = tri b l) : F28.go (k + 20) s 2 = some (((0, false, ()), ()), (), ()) := by
  have n (b l : Nat) (hb : b < 8) (hl : l = 0 ∨ l = 116) : (tri b l == s.toList) = false := by
    rw [beq_eq_false_iff_ne]; intro e; exact h ⟨b, l, hb, hl, e.symm⟩
  have q0 := Q2_0 (k + 10) 0 s (n 0 0 (by decide) (Or.inl rfl)) (n 0 116 (by decide) (Or.inr rfl))
  have q1 := Q2_1 (k + 10) 0 s (n 1 0 (by decide) (Or.inl rfl)) (n 1 116 (by decide) (Or.inr rfl))
  have q2 := Q2_2 (k + 10) 0 s (n 2 0 (by decide) (Or.inl rfl)) (n 2 116 (by decide) (Or.inr rfl))
  have q3 := Q2_3 (k + 10) 0 s (n 3 0 (by decide) (Or.inl rfl)) (n 3 116 (by decide) (Or.inr rfl))
  have q4 := Q2_4 (k + 10) 0 s (n 4 0 (by decide) (Or.inl rfl)) (n 4 116 (by decide) (Or.inr rfl))
  have q5 := Q2_5 (k + 10) 0 s (n 5 0 (by decide) (Or.inl rfl)) (n 5 116 (by decide) (Or.inr rfl))
  have q6 := Q2_6 (k + 10) 0 s (n 6 0 (by decide) (Or.inl rfl)) (n 6 116 (by decide) (Or.inr rfl))
  have q7 := Q2_7 (k + 10) 0 s (n 7 0 (by decide) (Or.inl rfl)) (n 7 116 (by decide) (Or.inr rfl))
  have q8 : F28.go122 (k + 20) s 2 0 8 512 = some (.inr (.inr ((), (), ()))) := by kernel_rfl
  have L : F28.l_122 (k + 20) ((s, 2, 0, 0, 512, ()), (), ()) = _ :=
    (loopN_inl (f := out28 (k + 20)) (k := k + 19) q0).trans ((loopN_inl (k := k + 18) q1).trans ((loopN_inl (k := k + 17) q2).trans ((loopN_inl (k := k + 16) q3).trans ((loopN_inl (k := k + 15) q4).trans ((loopN_inl (k := k + 14) q5).trans ((loopN_inl (k := k + 13) q6).trans ((loopN_inl (k := k + 12) q7).trans (loopN_inr (k := k + 11) q8))))))))
  have c : decide (IntKind.u64.wrap 2 < 0) = false := by decide
  have L' : F28.l_122 (k + 20) ((s, 2, IntKind.u64.wrap (IntKind.i64.wrap (6 - IntKind.i64.wrap (3 * 2))), 0, Int.fdiv 2048 (2 ^ min (IntKind.u64.wrap 2).toNat IntKind.i64.bits), ()), (), ()) = _ := L
  unfold F28.go
  rw [c, cond_false, L']
  rfl
end Go.Proofs.Try.S

namespace Go.Proofs.Try.S
open Go Go.Ev
theorem G0 (k0 : Nat) (y0 y1 y2 y3 y4 y5 y6 y7 y8 y9 : UInt8) (m : Int) : F16.go250 k0 0 m (arr [y0, y1, y2, y3, y4, y5, y6, y7, y8, y9]) = bif ((y1.toNat : Nat) : Int) == 45 then some (.inl (((1 : Int), m, arr [y0, y1, y2, y3, y4, y5, y6, y7, y8, y9], ()), (), ())) else bif ((y1.toNat : Nat) : Int) == 114 then some (.inl (((1 : Int), or' m 256, arr [y0, y1, y2, y3, y4, y5, y6, y7, y8, y9], ()), (), ())) else some (.inr (.inl ((0, 22, ()), (), ()))) := by kernel_rfl
theorem G1 (k0 : Nat) (y0 y1 y2 y3 y4 y5 y6 y7 y8 y9 : UInt8) (m : Int) : F16.go250 k0 1 m (arr [y0, y1, y2, y3, y4, y5, y6, y7, y8, y9]) = bif ((y2.toNat : Nat) : Int) == 45 then some (.inl (((2 : Int), m, arr [y0, y1, y2, y3, y4, y5, y6, y7, y8, y9], ()), (), ())) else bif ((y2.toNat : Nat) : Int) == 119 then some (.inl (((2 : Int), or' m 128, arr [y0, y1, y2, y3, y4, y5, y6, y7, y8, y9], ()), (), ())) else some (.inr (.inl ((0, 22, ()), (), ()))) := by kernel_rfl
theorem G2 (k0 : Nat) (y0 y1 y2 y3 y4 y5 y6 y7 y8 y9 : UInt8) (m : Int) : F16.go250 k0 2 m (arr [y0, y1, y2, y3, y4, y5, y6, y7, y8, y9]) = bif ((y3.toNat : Nat) : Int) == 45 then some (.inl (((3 : Int), m, arr [y0, y1, y2, y3, y4, y5, y6, y7, y8, y9], ()), (), ())) else bif ((y3.toNat : Nat) : Int) == 120 then some (.inl (((3 : Int), or' m 64, arr [y0, y1, y2, y3, y4, y5, y6, y7, y8, y9], ()), (), ())) else bif ((y3.toNat : Nat) : Int) == 115 then some (.inl (((3 : Int), or' m (or' 64 2048), arr [y0, y1, y2, y3, y4, y5, y6, y7, y8, y9], ()), (), ())) else bif ((y3.toNat : Nat) : Int) == 83 then some (.inl (((3 : Int), or' m 2048, arr [y0, y1, y2, y3, y4, y5, y6, y7, y8, y9], ()), (), ())) else some (.inr (.inl ((0, 22, ()), (), ()))) := by kernel_rfl
theorem G3 (k0 : Nat) (y0 y1 y2 y3 y4 y5 y6 y7 y8 y9 : UInt8) (m : Int) : F16.go250 k0 3 m (arr [y0, y1, y2, y3, y4, y5, y6, y7, y8, y9]) = bif ((y4.toNat : Nat) : Int) == 45 then some (.inl (((4 : Int), m, arr [y0, y1, y2, y3, y4, y5, y6, y7, y8, y9], ()), (), ())) else bif ((y4.toNat : Nat) : Int) == 114 then some (.inl (((4 : Int), or' m 32, arr [y0, y1, y2, y3, y4, y5, y6, y7, y8, y9], ()), (), ())) else some (.inr (.inl ((0, 22, ()), (), ()))) := by kernel_rfl
theorem G4 (k0 : Nat) (y0 y1 y2 y3 y4 y5 y6 y7 y8 y9 : UInt8) (m : Int) : F16.go250 k0 4 m (arr [y0, y1, y2, y3, y4, y5, y6, y7, y8, y9]) = bif ((y5.toNat : Nat) : Int) == 45 then some (.inl (((5 : Int), m, arr [y0, y1, y2, y3, y4, y5, y6, y7, y8, y9], ()), (), ())) else bif ((y5.toNat : Nat) : Int) == 119 then some (.inl (((5 : Int), or' m 16, arr [y0, y1, y2, y3, y4, y5, y6, y7, y8, y9], ()), (), ())) else some (.inr (.inl ((0, 22, ()), (), ()))) := by kernel_rfl
theorem G5 (k0 : Nat) (y0 y1 y2 y3 y4 y5 y6 y7 y8 y9 : UInt8) (m : Int) : F16.go250 k0 5 m (arr [y0, y1, y2, y3, y4, y5, y6, y7, y8, y9]) = bif ((y6.toNat : Nat) : Int) == 45 then some (.inl (((6 : Int), m, arr [y0, y1, y2, y3, y4, y5, y6, y7, y8, y9], ()), (), ())) else bif ((y6.toNat : Nat) : Int) == 120 then some (.inl (((6 : Int), or' m 8, arr [y0, y1, y2, y3, y4, y5, y6, y7, y8, y9], ()), (), ())) else bif ((y6.toNat : Nat) : Int) == 115 then some (.inl (((6 : Int), or' m (or' 8 1024), arr [y0, y1, y2, y3, y4, y5, y6, y7, y8, y9], ()), (), ())) else bif ((y6.toNat : Nat) : Int) == 83 then some (.inl (((6 : Int), or' m 1024, arr [y0, y1, y2, y3, y4, y5, y6, y7, y8, y9], ()), (), ())) else some (.inr (.inl ((0, 22, ()), (), ()))) := by kernel_rfl
theorem G6 (k0 : Nat) (y0 y1 y2 y3 y4 y5 y6 y7 y8 y9 : UInt8) (m : Int) : F16.go250 k0 6 m (arr [y0, y1, y2, y3, y4, y5, y6, y7, y8, y9]) = bif ((y7.toNat : Nat) : Int) == 45 then some (.inl (((7 : Int), m, arr [y0, y1, y2, y3, y4, y5, y6, y7, y8, y9], ()), (), ())) else bif ((y7.toNat : Nat) : Int) == 114 then some (.inl (((7 : Int), or' m 4, arr [y0, y1, y2, y3, y4, y5, y6, y7, y8, y9], ()), (), ())) else some (.inr (.inl ((0, 22, ()), (), ()))) := by kernel_rfl
theorem G7 (k0 : Nat) (y0 y1 y2 y3 y4 y5 y6 y7 y8 y9 : UInt8) (m : Int) : F16.go250 k0 7 m (arr [y0, y1, y2, y3, y4, y5, y6, y7, y8, y9]) = bif ((y8.toNat : Nat) : Int) == 45 then some (.inl (((8 : Int), m, arr [y0, y1, y2, y3, y4, y5, y6, y7, y8, y9], ()), (), ())) else bif ((y8.toNat : Nat) : Int) == 119 then some (.inl (((8 : Int), or' m 2, arr [y0, y1, y2, y3, y4, y5, y6, y7, y8, y9], ()), (), ())) else some (.inr (.inl ((0, 22, ()), (), ()))) := by kernel_rfl
theorem G8 (k0 : Nat) (y0 y1 y2 y3 y4 y5 y6 y7 y8 y9 : UInt8) (m : Int) : F16.go250 k0 8 m (arr [y0, y1, y2, y3, y4, y5, y6, y7, y8, y9]) = bif ((y9.toNat : Nat) : Int) == 45 then some (.inl (((9 : Int), m, arr [y0, y1, y2, y3, y4, y5, y6, y7, y8, y9], ()), (), ())) else bif ((y9.toNat : Nat) : Int) == 120 then some (.inl (((9 : Int), or' m 1, arr [y0, y1, y2, y3, y4, y5, y6, y7, y8, y9], ()), (), ())) else bif ((y9.toNat : Nat) : Int) == 116 then some (.inl (((9 : Int), or' m (or' 1 512), arr [y0, y1, y2, y3, y4, y5, y6, y7, y8, y9], ()), (), ())) else bif ((y9.toNat : Nat) : Int) == 84 then some (.inl (((9 : Int), or' m 512, arr [y0, y1, y2, y3, y4, y5, y6, y7, y8, y9], ()), (), ())) else some (.inr (.inl ((0, 22, ()), (), ()))) := by kernel_rfl
theorem ub (c d : UInt8) : ((c.toNat : Int) == (d.toNat : Int)) = (c == d) := u8_beq c d
theorem bad0 (k0 k : Nat) (y0 y1 y2 y3 y4 y5 y6 y7 y8 y9 : UInt8) (m : Int) (h : ¬ ∃ b l, b < 8 ∧ (l = 0 ∨ l = 115) ∧ [y1, y2, y3] = tri b l) : loopN (st250 k0) (k + 3) ((0, m, arr [y0, y1, y2, y3, y4, y5, y6, y7, y8, y9], ()), (), ()) = some (.inl ((0, 22, ()), (), ())) := by
  have A (d : UInt8) (n : Int) (e : (d.toNat : Int) = n) : ((y1.toNat : Int) == n) = (y1 == d) := by rw [← e]; exact ub _ _
  have B (d : UInt8) (n : Int) (e : (d.toNat : Int) = n) : ((y2.toNat : Int) == n) = (y2 == d) := by rw [← e]; exact ub _ _
  have C (d : UInt8) (n : Int) (e : (d.toNat : Int) = n) : ((y3.toNat : Int) == n) = (y3 == d) := by rw [← e]; exact ub _ _
  have g0 := fun m => G0 k0 y0 y1 y2 y3 y4 y5 y6 y7 y8 y9 m
  have g1 := fun m => G1 k0 y0 y1 y2 y3 y4 y5 y6 y7 y8 y9 m
  have g2 := fun m => G2 k0 y0 y1 y2 y3 y4 y5 y6 y7 y8 y9 m
  rw [A 45 45 rfl, A 114 114 rfl] at g0
  rw [B 45 45 rfl, B 119 119 rfl] at g1
  rw [C 45 45 rfl, C 120 120 rfl, C 115 115 rfl, C 83 83 rfl] at g2
  have last : ∀ m, ((y1 == 45) = true ∨ (y1 == 114) = true) → ((y2 == 45) = true ∨ (y2 == 119) = true) → loopN (st250 k0) (k + 1) ((2, m, arr [y0, y1, y2, y3, y4, y5, y6, y7, y8, y9], ()), (), ()) = some (.inl ((0, 22, ()), (), ())) := by
    intro m ha hb
    have n1 : (y3 == 45) = false := by
      rw [beq_eq_false_iff_ne]; rintro rfl
      rcases ha with ha | ha <;> rcases hb with hb | hb <;> rw [beq_iff_eq] at ha hb <;> subst ha <;> subst hb
      · exact h ⟨0, 0, by decide, Or.inl rfl, rfl⟩
      · exact h ⟨2, 0, by decide, Or.inl rfl, rfl⟩
      · exact h ⟨4, 0, by decide, Or.inl rfl, rfl⟩
      · exact h ⟨6, 0, by decide, Or.inl rfl, rfl⟩
    have n2 : (y3 == 120) = false := by
      rw [beq_eq_false_iff_ne]; rintro rfl
      rcases ha with ha | ha <;> rcases hb with hb | hb <;> rw [beq_iff_eq] at ha hb <;> subst ha <;> subst hb
      · exact h ⟨1, 0, by decide, Or.inl rfl, rfl⟩
      · exact h ⟨3, 0, by decide, Or.inl rfl, rfl⟩
      · exact h ⟨5, 0, by decide, Or.inl rfl, rfl⟩
      · exact h ⟨7, 0, by decide, Or.inl rfl, rfl⟩
    have n3 : (y3 == 115) = false := by
      rw [beq_eq_false_iff_ne]; rintro rfl
      rcases ha with ha | ha <;> rcases hb with hb | hb <;> rw [beq_iff_eq] at ha hb <;> subst ha <;> subst hb
      · exact h ⟨1, 115, by decide, Or.inr rfl, rfl⟩
      · exact h ⟨3, 115, by decide, Or.inr rfl, rfl⟩
      · exact h ⟨5, 115, by decide, Or.inr rfl, rfl⟩
      · exact h ⟨7, 115, by decide, Or.inr rfl, rfl⟩
    have n4 : (y3 == 83) = false := by
      rw [beq_eq_false_iff_ne]; rintro rfl
      rcases ha with ha | ha <;> rcases hb with hb | hb <;> rw [beq_iff_eq] at ha hb <;> subst ha <;> subst hb
      · exact h ⟨0, 115, by decide, Or.inr rfl, rfl⟩
      · exact h ⟨2, 115, by decide, Or.inr rfl, rfl⟩
      · exact h ⟨4, 115, by decide, Or.inr rfl, rfl⟩
      · exact h ⟨6, 115, by decide, Or.inr rfl, rfl⟩
    refine loopN_inr ((g2 m).trans ?_)
    rw [n1, n2, n3, n4]; rfl
  have mid : ∀ m, ((y1 == 45) = true ∨ (y1 == 114) = true) → loopN (st250 k0) (k + 2) ((1, m, arr [y0, y1, y2, y3, y4, y5, y6, y7, y8, y9], ()), (), ()) = some (.inl ((0, 22, ()), (), ())) := by
    intro m ha
    cases c1 : y2 == 45
    · cases c2 : y2 == 119
      · refine loopN_inr ((g1 m).trans ?_)
        rw [c1, c2]; rfl
      · refine (loopN_inl ((g1 m).trans (by rw [c1, c2]; rfl))).trans (last _ ha (Or.inr c2))
    · refine (loopN_inl ((g1 m).trans (by rw [c1]; rfl))).trans (last _ ha (Or.inl c1))
  cases c1 : y1 == 45
  · cases c2 : y1 == 114
    · refine loopN_inr ((g0 m).trans ?_)
      rw [c1, c2]; rfl
    · refine (loopN_inl ((g0 m).trans (by rw [c1, c2]; rfl))).trans (mid _ (Or.inr c2))
  · refine (loopN_inl ((g0 m).trans (by rw [c1]; rfl))).trans (mid _ (Or.inl c1))
theorem bad1 (k0 k : Nat) (y0 y1 y2 y3 y4 y5 y6 y7 y8 y9 : UInt8) (m : Int) (h : ¬ ∃ b l, b < 8 ∧ (l = 0 ∨ l = 115) ∧ [y4, y5, y6] = tri b l) : loopN (st250 k0) (k + 3) ((3, m, arr [y0, y1, y2, y3, y4, y5, y6, y7, y8, y9], ()), (), ()) = some (.inl ((0, 22, ()), (), ())) := by
  have A (d : UInt8) (n : Int) (e : (d.toNat : Int) = n) : ((y4.toNat : Int) == n) = (y4 == d) := by rw [← e]; exact ub _ _
  have B (d : UInt8) (n : Int) (e : (d.toNat : Int) = n) : ((y5.toNat : Int) == n) = (y5 == d) := by rw [← e]; exact ub _ _
  have C (d : UInt8) (n : Int) (e : (d.toNat : Int) = n) : ((y6.toNat : Int) == n) = (y6 == d) := by rw [← e]; exact ub _ _
  have g0 := fun m => G3 k0 y0 y1 y2 y3 y4 y5 y6 y7 y8 y9 m
  have g1 := fun m => G4 k0 y0 y1 y2 y3 y4 y5 y6 y7 y8 y9 m
  have g2 := fun m => G5 k0 y0 y1 y2 y3 y4 y5 y6 y7 y8 y9 m
  rw [A 45 45 rfl, A 114 114 rfl] at g0
  rw [B 45 45 rfl, B 119 119 rfl] at g1
  rw [C 45 45 rfl, C 120 120 rfl, C 115 115 rfl, C 83 83 rfl] at g2
  have last : ∀ m, ((y4 == 45) = true ∨ (y4 == 114) = true) → ((y5 == 45) = true ∨ (y5 == 119) = true) → loopN (st250 k0) (k + 1) ((5, m, arr [y0, y1, y2, y3, y4, y5, y6, y7, y8, y9], ()), (), ()) = some (.inl ((0, 22, ()), (), ())) := by
    intro m ha hb
    have n1 : (y6 == 45) = false := by
      rw [beq_eq_false_iff_ne]; rintro rfl
      rcases ha with ha | ha <;> rcases hb with hb | hb <;> rw [beq_iff_eq] at ha hb <;> subst ha <;> subst hb
      · exact h ⟨0, 0, by decide, Or.inl rfl, rfl⟩
      · exact h ⟨2, 0, by decide, Or.inl rfl, rfl⟩
      · exact h ⟨4, 0, by decide, Or.inl rfl, rfl⟩
      · exact h ⟨6, 0, by decide, Or.inl rfl, rfl⟩
    have n2 : (y6 == 120) = false := by
      rw [beq_eq_false_iff_ne]; rintro rfl
      rcases ha with ha | ha <;> rcases hb with hb | hb <;> rw [beq_iff_eq] at ha hb <;> subst ha <;> subst hb
      · exact h ⟨1, 0, by decide, Or.inl rfl, rfl⟩
      · exact h ⟨3, 0, by decide, Or.inl rfl, rfl⟩
      · exact h ⟨5, 0, by decide, Or.inl rfl, rfl⟩
      · exact h ⟨7, 0, by decide, Or.inl rfl, rfl⟩
    have n3 : (y6 == 115) = false := by
      rw [beq_eq_false_iff_ne]; rintro rfl
      rcases ha with ha | ha <;> rcases hb with hb | hb <;> rw [beq_iff_eq] at ha hb <;> subst ha <;> subst hb
      · exact h ⟨1, 115, by decide, Or.inr rfl, rfl⟩
      · exact h ⟨3, 115, by decide, Or.inr rfl, rfl⟩
      · exact h ⟨5, 115, by decide, Or.inr rfl, rfl⟩
      · exact h ⟨7, 115, by decide, Or.inr rfl, rfl⟩
    have n4 : (y6 == 83) = false := by
      rw [beq_eq_false_iff_ne]; rintro rfl
      rcases ha with ha | ha <;> rcases hb with hb | hb <;> rw [beq_iff_eq] at ha hb <;> subst ha <;> subst hb
      · exact h ⟨0, 115, by decide, Or.inr rfl, rfl⟩
      · exact h ⟨2, 115, by decide, Or.inr rfl, rfl⟩
      · exact h ⟨4, 115, by decide, Or.inr rfl, rfl⟩
      · exact h ⟨6, 115, by decide, Or.inr rfl, rfl⟩
    refine loopN_inr ((g2 m).trans ?_)
    rw [n1, n2, n3, n4]; rfl
  have mid : ∀ m, ((y4 == 45) = true ∨ (y4 == 114) = true) → loopN (st250 k0) (k + 2) ((4, m, arr [y0, y1, y2, y3, y4, y5, y6, y7, y8, y9], ()), (), ()) = some (.inl ((0, 22, ()), (), ())) := by
    intro m ha
    cases c1 : y5 == 45
    · cases c2 : y5 == 119
      · refine loopN_inr ((g1 m).trans ?_)
        rw [c1, c2]; rfl
      · refine (loopN_inl ((g1 m).trans (by rw [c1, c2]; rfl))).trans (last _ ha (Or.inr c2))
    · refine (loopN_inl ((g1 m).trans (by rw [c1]; rfl))).trans (last _ ha (Or.inl c1))
  cases c1 : y4 == 45
  · cases c2 : y4 == 114
    · refine loopN_inr ((g0 m).trans ?_)
      rw [c1, c2]; rfl
    · refine (loopN_inl ((g0 m).trans (by rw [c1, c2]; rfl))).trans (mid _ (Or.inr c2))
  · refine (loopN_inl ((g0 m).trans (by rw [c1]; rfl))).trans (mid _ (Or.inl c1))
theorem bad2 (k0 k : Nat) (y0 y1 y2 y3 y4 y5 y6 y7 y8 y9 : UInt8) (m : Int) (h : ¬ ∃ b l, b < 8 ∧ (l = 0 ∨ l = 116) ∧ [y7, y8, y9] = tri b l) : loopN (st250 k0) (k + 3) ((6, m, arr [y0, y1, y2, y3, y4, y5, y6, y7, y8, y9], ()), (), ()) = some (.inl ((0, 22, ()), (), ())) := by
  have A (d : UInt8) (n : Int) (e : (d.toNat : Int) = n) : ((y7.toNat : Int) == n) = (y7 == d) := by rw [← e]; exact ub _ _
  have B (d : UInt8) (n : Int) (e : (d.toNat : Int) = n) : ((y8.toNat : Int) == n) = (y8 == d) := by rw [← e]; exact ub _ _
  have C (d : UInt8) (n : Int) (e : (d.toNat : Int) = n) : ((y9.toNat : Int) == n) = (y9 == d) := by rw [← e]; exact ub _ _
  have g0 := fun m => G6 k0 y0 y1 y2 y3 y4 y5 y6 y7 y8 y9 m
  have g1 := fun m => G7 k0 y0 y1 y2 y3 y4 y5 y6 y7 y8 y9 m
  have g2 := fun m => G8 k0 y0 y1 y2 y3 y4 y5 y6 y7 y8 y9 m
  rw [A 45 45 rfl, A 114 114 rfl] at g0
  rw [B 45 45 rfl, B 119 119 rfl] at g1
  rw [C 45 45 rfl, C 120 120 rfl, C 116 116 rfl, C 84 84 rfl] at g2
  have last : ∀ m, ((y7 == 45) = true ∨ (y7 == 114) = true) → ((y8 == 45) = true ∨ (y8 == 119) = true) → loopN (st250 k0) (k + 1) ((8, m, arr [y0, y1, y2, y3, y4, y5, y6, y7, y8, y9], ()), (), ()) = some (.inl ((0, 22, ()), (), ())) := by
    intro m ha hb
    have n1 : (y9 == 45) = false := by
      rw [beq_eq_false_iff_ne]; rintro rfl
      rcases ha with ha | ha <;> rcases hb with hb | hb <;> rw [beq_iff_eq] at ha hb <;> subst ha <;> subst hb
      · exact h ⟨0, 0, by decide, Or.inl rfl, rfl⟩
      · exact h ⟨2, 0, by decide, Or.inl rfl, rfl⟩
      · exact h ⟨4, 0, by decide, Or.inl rfl, rfl⟩
      · exact h ⟨6, 0, by decide, Or.inl rfl, rfl⟩
    have n2 : (y9 == 120) = false := by
      rw [beq_eq_false_iff_ne]; rintro rfl
      rcases ha with ha | ha <;> rcases hb with hb | hb <;> rw [beq_iff_eq] at ha hb <;> subst ha <;> subst hb
      · exact h ⟨1, 0, by decide, Or.inl rfl, rfl⟩
      · exact h ⟨3, 0, by decide, Or.inl rfl, rfl⟩
      · exact h ⟨5, 0, by decide, Or.inl rfl, rfl⟩
      · exact h ⟨7, 0, by decide, Or.inl rfl, rfl⟩
    have n3 : (y9 == 116) = false := by
      rw [beq_eq_false_iff_ne]; rintro rfl
      rcases ha with ha | ha <;> rcases hb with hb | hb <;> rw [beq_iff_eq] at ha hb <;> subst ha <;> subst hb
      · exact h ⟨1, 116, by decide, Or.inr rfl, rfl⟩
      · exact h ⟨3, 116, by decide, Or.inr rfl, rfl⟩
      · exact h ⟨5, 116, by decide, Or.inr rfl, rfl⟩
      · exact h ⟨7, 116, by decide, Or.inr rfl, rfl⟩
    have n4 : (y9 == 84) = false := by
      rw [beq_eq_false_iff_ne]; rintro rfl
      rcases ha with ha | ha <;> rcases hb with hb | hb <;> rw [beq_iff_eq] at ha hb <;> subst ha <;> subst hb
      · exact h ⟨0, 116, by decide, Or.inr rfl, rfl⟩
      · exact h ⟨2, 116, by decide, Or.inr rfl, rfl⟩
      · exact h ⟨4, 116, by decide, Or.inr rfl, rfl⟩
      · exact h ⟨6, 116, by decide, Or.inr rfl, rfl⟩
    refine loopN_inr ((g2 m).trans ?_)
    rw [n1, n2, n3, n4]; rfl
  have mid : ∀ m, ((y7 == 45) = true ∨ (y7 == 114) = true) → loopN (st250 k0) (k + 2) ((7, m, arr [y0, y1, y2, y3, y4, y5, y6, y7, y8, y9], ()), (), ()) = some (.inl ((0, 22, ()), (), ())) := by
    intro m ha
    cases c1 : y8 == 45
    · cases c2 : y8 == 119
      · refine loopN_inr ((g1 m).trans ?_)
        rw [c1, c2]; rfl
      · refine (loopN_inl ((g1 m).trans (by rw [c1, c2]; rfl))).trans (last _ ha (Or.inr c2))
    · refine (loopN_inl ((g1 m).trans (by rw [c1]; rfl))).trans (last _ ha (Or.inl c1))
  cases c1 : y7 == 45
  · cases c2 : y7 == 114
    · refine loopN_inr ((g0 m).trans ?_)
      rw [c1, c2]; rfl
    · refine (loopN_inl ((g0 m).trans (by rw [c1, c2]; rfl))).trans (mid _ (Or.inr c2))
  · refine (loopN_inl ((g0 m).trans (by rw [c1]; rfl))).trans (mid _ (Or.inl c1))
theorem chain_val (j b l x : Nat) (hx : x < 65536) : chain j b l (x : Int) = ((x ||| valV j b l : Nat) : Int) := by
  rw [chain_nat j b l x hx]
  unfold valV
  simp only [Nat.or_assoc]
theorem valV_lt (j b l : Nat) : valV j b l < 65536 := by
  have p1 := pow_lt j 256 (by decide)
  have p2 := pow_lt j 128 (by decide)
  have p3 := pow_lt j 64 (by decide)
  have p4 := pow_lt2 j 2048 (by decide)
  unfold valV
  refine or_lt (or_lt (or_lt (bif_lt p1) (bif_lt p2)) (bif_lt p3)) ?_
  cases l == 0
  · exact p4
  · exact Nat.zero_lt_succ _
noncomputable abbrev st108 (k0 : Nat) (x : (Int × Int × ByteArray × Unit) × Unit × Unit) := F17.go108138 k0 x.fst.fst x.fst.snd.fst x.fst.snd.snd.fst
theorem W0 (k : Nat) (y0 y1 y2 y3 y4 y5 y6 y7 y8 y9 : UInt8) (m : Int) : F17.go108138 k 0 m (arr [y0, y1, y2, y3, y4, y5, y6, y7, y8, y9]) = (F28.go k (arr [y1, y2, y3]) 0).bind fun z4 =>
    bif (match z4.fst.fst.snd.fst with | true => false | false => true) then some (Sum.inr (Sum.inl ((0, 22, ()), (), ()))) else some (Sum.inl ((1, or' m z4.fst.fst.fst, arr [y0, y1, y2, y3, y4, y5, y6, y7, y8, y9], ()), (), ())) := by
  have e : (arr [y0, y1, y2, y3, y4, y5, y6, y7, y8, y9]).extract 1 4 = arr [y1, y2, y3] := arr_extract _ 1 4
  have e' : (arr [y0, y1, y2, y3, y4, y5, y6, y7, y8, y9]).extract (IntKind.i64.wrap (1 + IntKind.i64.wrap (3 * 0))).toNat (IntKind.i64.wrap (4 + IntKind.i64.wrap (3 * 0))).toNat = arr [y1, y2, y3] := e
  unfold F17.go108138
  rw [e']
  rfl
theorem Wm0 (k : Nat) (y0 y1 y2 y3 y4 y5 y6 y7 y8 y9 : UInt8) (m : Int) (h : ¬ ∃ b l, b < 8 ∧ (l = 0 ∨ l = 115) ∧ [y1, y2, y3] = tri b l) : F17.go108138 (k + 20) 0 m (arr [y0, y1, y2, y3, y4, y5, y6, y7, y8, y9]) = some (.inr (.inl ((0, 22, ()), (), ()))) := by
  rw [W0, miss0 k _ (by rw [arr_toList]; exact h)]; rfl
theorem Wh0 (k b l : Nat) (y0 y1 y2 y3 y4 y5 y6 y7 y8 y9 : UInt8) (x : Nat) (hx : x < 65536) (hb : b < 8) (hl : l = 0 ∨ l = 115) (e : [y1, y2, y3] = tri b l) : F17.go108138 (k + 20) 0 x (arr [y0, y1, y2, y3, y4, y5, y6, y7, y8, y9]) = some (.inl ((1, ((x ||| valV 0 b l : Nat) : Int), arr [y0, y1, y2, y3, y4, y5, y6, y7, y8, y9], ()), (), ())) := by
  have hv := valV_lt 0 b l
  have hh := hit0 k b l hb hl
  rw [← e] at hh
  rw [W0, hh]
  show some (Sum.inl (((1 : Int), or' (x : Int) ((valV 0 b l : Nat) : Int), arr [y0, y1, y2, y3, y4, y5, y6, y7, y8, y9], ()), (), ())) = _
  rw [or_nat x _ (by omega) (by omega)]
theorem Ch0 (k0 k b l : Nat) (y0 y1 y2 y3 y4 y5 y6 y7 y8 y9 : UInt8) (x : Nat) (hx : x < 65536) (hb : b < 8) (hl : l = 0 ∨ l = 115) (e : [y1, y2, y3] = tri b l) :
    loopN (st250 k0) (k + 3) ((0, (x : Int), arr [y0, y1, y2, y3, y4, y5, y6, y7, y8, y9], ()), (), ()) = loopN (st250 k0) k ((3, ((x ||| valV 0 b l : Nat) : Int), arr [y0, y1, y2, y3, y4, y5, y6, y7, y8, y9], ()), (), ()) := by
  have h := C0 b l hb hl k0 k y0 y4 y5 y6 y7 y8 y9 (x : Int)
  rw [chain_val 0 b l x hx] at h
  unfold tri at h e
  injection e with e1 e; injection e with e2 e; injection e with e3 e
  rw [← e1, ← e2, ← e3] at h
  exact h
theorem W1 (k : Nat) (y0 y1 y2 y3 y4 y5 y6 y7 y8 y9 : UInt8) (m : Int) : F17.go108138 k 1 m (arr [y0, y1, y2, y3, y4, y5, y6, y7, y8, y9]) = (F28.go k (arr [y4, y5, y6]) 1).bind fun z4 =>
    bif (match z4.fst.fst.snd.fst with | true => false | false => true) then some (Sum.inr (Sum.inl ((0, 22, ()), (), ()))) else some (Sum.inl ((2, or' m z4.fst.fst.fst, arr [y0, y1, y2, y3, y4, y5, y6, y7, y8, y9], ()), (), ())) := by
  have e : (arr [y0, y1, y2, y3, y4, y5, y6, y7, y8, y9]).extract 4 7 = arr [y4, y5, y6] := arr_extract _ 4 7
  have e' : (arr [y0, y1, y2, y3, y4, y5, y6, y7, y8, y9]).extract (IntKind.i64.wrap (1 + IntKind.i64.wrap (3 * 1))).toNat (IntKind.i64.wrap (4 + IntKind.i64.wrap (3 * 1))).toNat = arr [y4, y5, y6] := e
  unfold F17.go108138
  rw [e']
  rfl
theorem Wm1 (k : Nat) (y0 y1 y2 y3 y4 y5 y6 y7 y8 y9 : UInt8) (m : Int) (h : ¬ ∃ b l, b < 8 ∧ (l = 0 ∨ l = 115) ∧ [y4, y5, y6] = tri b l) : F17.go108138 (k + 20) 1 m (arr [y0, y1, y2, y3, y4, y5, y6, y7, y8, y9]) = some (.inr (.inl ((0, 22, ()), (), ()))) := by
  rw [W1, miss1 k _ (by rw [arr_toList]; exact h)]; rfl
theorem Wh1 (k b l : Nat) (y0 y1 y2 y3 y4 y5 y6 y7 y8 y9 : UInt8) (x : Nat) (hx : x < 65536) (hb : b < 8) (hl : l = 0 ∨ l = 115) (e : [y4, y5, y6] = tri b l) : F17.go108138 (k + 20) 1 x (arr [y0, y1, y2, y3, y4, y5, y6, y7, y8, y9]) = some (.inl ((2, ((x ||| valV 1 b l : Nat) : Int), arr [y0, y1, y2, y3, y4, y5, y6, y7, y8, y9], ()), (), ())) := by
  have hv := valV_lt 1 b l
  have hh := hit1 k b l hb hl
  rw [← e] at hh
  rw [W1, hh]
  show some (Sum.inl (((2 : Int), or' (x : Int) ((valV 1 b l : Nat) : Int), arr [y0, y1, y2, y3, y4, y5, y6, y7, y8, y9], ()), (), ())) = _
  rw [or_nat x _ (by omega) (by omega)]
theorem Ch1 (k0 k b l : Nat) (y0 y1 y2 y3 y4 y5 y6 y7 y8 y9 : UInt8) (x : Nat) (hx : x < 65536) (hb : b < 8) (hl : l = 0 ∨ l = 115) (e : [y4, y5, y6] = tri b l) :
    loopN (st250 k0) (k + 3) ((3, (x : Int), arr [y0, y1, y2, y3, y4, y5, y6, y7, y8, y9], ()), (), ()) = loopN (st250 k0) k ((6, ((x ||| valV 1 b l : Nat) : Int), arr [y0, y1, y2, y3, y4, y5, y6, y7, y8, y9], ()), (), ()) := by
  have h := C1 b l hb hl k0 k y0 y1 y2 y3 y7 y8 y9 (x : Int)
  rw [chain_val 1 b l x hx] at h
  unfold tri at h e
  injection e with e1 e; injection e with e2 e; injection e with e3 e
  rw [← e1, ← e2, ← e3] at h
  exact h
theorem W2 (k : Nat) (y0 y1 y2 y3 y4 y5 y6 y7 y8 y9 : UInt8) (m : Int) : F17.go108138 k 2 m (arr [y0, y1, y2, y3, y4, y5, y6, y7, y8, y9]) = (F28.go k (arr [y7, y8, y9]) 2).bind fun z4 =>
    bif (match z4.fst.fst.snd.fst with | true => false | false => true) then some (Sum.inr (Sum.inl ((0, 22, ()), (), ()))) else some (Sum.inl ((3, or' m z4.fst.fst.fst, arr [y0, y1, y2, y3, y4, y5, y6, y7, y8, y9], ()), (), ())) := by
  have e : (arr [y0, y1, y2, y3, y4, y5, y6, y7, y8, y9]).extract 7 10 = arr [y7, y8, y9] := arr_extract _ 7 10
  have e' : (arr [y0, y1, y2, y3, y4, y5, y6, y7, y8, y9]).extract (IntKind.i64.wrap (1 + IntKind.i64.wrap (3 * 2))).toNat (IntKind.i64.wrap (4 + IntKind.i64.wrap (3 * 2))).toNat = arr [y7, y8, y9] := e
  unfold F17.go108138
  rw [e']
  rfl
theorem Wm2 (k : Nat) (y0 y1 y2 y3 y4 y5 y6 y7 y8 y9 : UInt8) (m : Int) (h : ¬ ∃ b l, b < 8 ∧ (l = 0 ∨ l = 116) ∧ [y7, y8, y9] = tri b l) : F17.go108138 (k + 20) 2 m (arr [y0, y1, y2, y3, y4, y5, y6, y7, y8, y9]) = some (.inr (.inl ((0, 22, ()), (), ()))) := by
  rw [W2, miss2 k _ (by rw [arr_toList]; exact h)]; rfl
theorem Wh2 (k b l : Nat) (y0 y1 y2 y3 y4 y5 y6 y7 y8 y9 : UInt8) (x : Nat) (hx : x < 65536) (hb : b < 8) (hl : l = 0 ∨ l = 116) (e : [y7, y8, y9] = tri b l) : F17.go108138 (k + 20) 2 x (arr [y0, y1, y2, y3, y4, y5, y6, y7, y8, y9]) = some (.inl ((3, ((x ||| valV 2 b l : Nat) : Int), arr [y0, y1, y2, y3, y4, y5, y6, y7, y8, y9], ()), (), ())) := by
  have hv := valV_lt 2 b l
  have hh := hit2 k b l hb hl
  rw [← e] at hh
  rw [W2, hh]
  show some (Sum.inl (((3 : Int), or' (x : Int) ((valV 2 b l : Nat) : Int), arr [y0, y1, y2, y3, y4, y5, y6, y7, y8, y9], ()), (), ())) = _
  rw [or_nat x _ (by omega) (by omega)]
theorem Ch2 (k0 k b l : Nat) (y0 y1 y2 y3 y4 y5 y6 y7 y8 y9 : UInt8) (x : Nat) (hx : x < 65536) (hb : b < 8) (hl : l = 0 ∨ l = 116) (e : [y7, y8, y9] = tri b l) :
    loopN (st250 k0) (k + 3) ((6, (x : Int), arr [y0, y1, y2, y3, y4, y5, y6, y7, y8, y9], ()), (), ()) = loopN (st250 k0) k ((9, ((x ||| valV 2 b l : Nat) : Int), arr [y0, y1, y2, y3, y4, y5, y6, y7, y8, y9], ()), (), ()) := by
  have h := C2 b l hb hl k0 k y0 y1 y2 y3 y4 y5 y6 (x : Int)
  rw [chain_val 2 b l x hx] at h
  unfold tri at h e
  injection e with e1 e; injection e with e2 e; injection e with e3 e
  rw [← e1, ← e2, ← e3] at h
  exact h
theorem st108_end (k : Nat) (m : Int) (s : ByteArray) : F17.go108138 k 3 m s = some (.inr (.inr ((m, ()), (), ()))) := by
  unfold F17.go108138; rfl
/-- The nine letters, read by both. -/
theorem nine (k : Nat) (y0 y1 y2 y3 y4 y5 y6 y7 y8 y9 : UInt8) (x : Nat) (hx : x < 65536) :
    (F16.l_250 (k + 40) ((0, (x : Int), arr [y0, y1, y2, y3, y4, y5, y6, y7, y8, y9], ()), (), ()) = some (.inl ((0, 22, ()), (), ())) ∧ F17.l_108138 (k + 40) ((0, (x : Int), arr [y0, y1, y2, y3, y4, y5, y6, y7, y8, y9], ()), (), ()) = some (.inl ((0, 22, ()), (), ()))) ∨
    ∃ v : Int, F16.l_250 (k + 40) ((0, (x : Int), arr [y0, y1, y2, y3, y4, y5, y6, y7, y8, y9], ()), (), ()) = some (.inr ((v, ()), (), ())) ∧ F17.l_108138 (k + 40) ((0, (x : Int), arr [y0, y1, y2, y3, y4, y5, y6, y7, y8, y9], ()), (), ()) = some (.inr ((v, ()), (), ())) := by
  by_cases h0 : ∃ b l, b < 8 ∧ (l = 0 ∨ l = 115) ∧ [y1, y2, y3] = tri b l
  · obtain ⟨b0, l0, hb0, hl0, e0⟩ := h0
    have A0 := Ch0 (k + 40) (k + 37) b0 l0 y0 y1 y2 y3 y4 y5 y6 y7 y8 y9 x hx hb0 hl0 e0
    have B0 := Wh0 (k + 20) b0 l0 y0 y1 y2 y3 y4 y5 y6 y7 y8 y9 x hx hb0 hl0 e0
    have x1 := or_lt hx (valV_lt 0 b0 l0)
    by_cases h1 : ∃ b l, b < 8 ∧ (l = 0 ∨ l = 115) ∧ [y4, y5, y6] = tri b l
    · obtain ⟨b1, l1, hb1, hl1, e1⟩ := h1
      have A1 := Ch1 (k + 40) (k + 34) b1 l1 y0 y1 y2 y3 y4 y5 y6 y7 y8 y9 _ x1 hb1 hl1 e1
      have B1 := Wh1 (k + 20) b1 l1 y0 y1 y2 y3 y4 y5 y6 y7 y8 y9 _ x1 hb1 hl1 e1
      have x2 := or_lt x1 (valV_lt 1 b1 l1)
      by_cases h2 : ∃ b l, b < 8 ∧ (l = 0 ∨ l = 116) ∧ [y7, y8, y9] = tri b l
      · obtain ⟨b2, l2, hb2, hl2, e2⟩ := h2
        have A2 := Ch2 (k + 40) (k + 31) b2 l2 y0 y1 y2 y3 y4 y5 y6 y7 y8 y9 _ x2 hb2 hl2 e2
        have B2 := Wh2 (k + 20) b2 l2 y0 y1 y2 y3 y4 y5 y6 y7 y8 y9 _ x2 hb2 hl2 e2
        exact .inr ⟨_, (A0.trans (A1.trans A2)).trans (loopN_inr (k := k + 30) (st_end _ _ _)), (loopN_inl (f := st108 (k + 40)) (k := k + 39) B0).trans ((loopN_inl (k := k + 38) B1).trans ((loopN_inl (k := k + 37) B2).trans (loopN_inr (k := k + 36) (st108_end _ _ _))))⟩
      · exact .inl ⟨(A0.trans A1).trans (bad2 (k + 40) (k + 31) y0 y1 y2 y3 y4 y5 y6 y7 y8 y9 _ h2), (loopN_inl (f := st108 (k + 40)) (k := k + 39) B0).trans ((loopN_inl (k := k + 38) B1).trans (loopN_inr (k := k + 37) (Wm2 (k + 20) y0 y1 y2 y3 y4 y5 y6 y7 y8 y9 _ h2)))⟩
    · exact .inl ⟨A0.trans (bad1 (k + 40) (k + 34) y0 y1 y2 y3 y4 y5 y6 y7 y8 y9 _ h1), (loopN_inl (f := st108 (k + 40)) (k := k + 39) B0).trans (loopN_inr (k := k + 38) (Wm1 (k + 20) y0 y1 y2 y3 y4 y5 y6 y7 y8 y9 _ h1))⟩
  · exact .inl ⟨bad0 (k + 40) (k + 37) y0 y1 y2 y3 y4 y5 y6 y7 y8 y9 _ h0, loopN_inr (f := st108 (k + 40)) (k := k + 39) (Wm0 (k + 20) y0 y1 y2 y3 y4 y5 y6 y7 y8 y9 _ h0)⟩
noncomputable abbrev st26 (k0 : Nat) (x : (ByteArray × Int × (Int × Int × Int × Int × Unit) × Unit) × Unit × Unit) := F17.go26 k0 x.fst.fst x.fst.snd.fst x.fst.snd.snd.fst.fst x.fst.snd.snd.fst.snd.fst x.fst.snd.snd.fst.snd.snd.fst x.fst.snd.snd.fst.snd.snd.snd.fst
theorem kind_end (k : Nat) (s : ByteArray) : F17.go26 k s 4 16384 40960 4096 32768 = some (.inr (.inr ((), (), ()))) := by
  unfold F17.go26; rfl
theorem kt0 (k : Nat) : ∃ r : List UInt8, r.length = 9 ∧ F19.go (k + 10) 16384 = some ((arr (100 :: r), ()), (), ()) := ⟨[45, 45, 45, 45, 45, 45, 45, 45, 45], rfl, by kernel_rfl⟩
theorem short0 (k : Nat) (s : ByteArray) (h : ((s.size : Int) == 10) = false) : F17.go26 k s 0 16384 40960 4096 32768 = some (.inl ((s, 1, (16384, 40960, 4096, 32768, ()), ()), (), ())) := by
  unfold F17.go26
  rw [h]; rfl
theorem kind0 (k : Nat) (y0 y1 y2 y3 y4 y5 y6 y7 y8 y9 : UInt8) : F17.go26 (k + 10) (arr [y0, y1, y2, y3, y4, y5, y6, y7, y8, y9]) 0 16384 40960 4096 32768 = bif y0 == 100 then (F17.l_108138 (k + 10) ((0, 16384, arr [y0, y1, y2, y3, y4, y5, y6, y7, y8, y9], ()), (), ())).bind fun z8 => Sum.elim (fun z9 => some (Sum.inr (Sum.inl ((z9.fst.fst, z9.fst.snd.fst, ()), (), ()))))
    (fun z9 => some (Sum.inr (Sum.inl ((z9.fst.fst, 0, ()), (), ())))) z8 else some (.inl ((arr [y0, y1, y2, y3, y4, y5, y6, y7, y8, y9], 1, (16384, 40960, 4096, 32768, ()), ()), (), ())) := by
  obtain ⟨r, hr, h⟩ := kt0 k
  have hr' : ((100 :: r : List UInt8).length : Int) = 10 := by rw [List.length_cons, hr]; rfl
  have e : ((((100 : UInt8).toNat : Nat) : Int) == ((y0.toNat : Nat) : Int)) = (y0 == 100) := (ub 100 y0).trans Bool.beq_comm
  have g1 : (arr (100 :: r)).data.getD 0 0 = 100 := rfl
  have g2 : (arr [y0, y1, y2, y3, y4, y5, y6, y7, y8, y9]).data.getD 0 0 = y0 := rfl
  have d1 : (0 : Int) < (((100 :: r : List UInt8).length : Nat) : Int) := by rw [hr']; decide
  have kr : F17.go26 (k + 10) (arr [y0, y1, y2, y3, y4, y5, y6, y7, y8, y9]) 0 16384 40960 4096 32768 = (F19.go (k + 10) 16384).bind fun z => bif decide ((0 : Int) < (z.fst.fst.size : Int)) then (bif (((z.fst.fst.data.getD 0 0).toNat : Nat) : Int) == ((y0.toNat : Nat) : Int) then
      (F17.l_108138 (k + 10) ((0, 16384, arr [y0, y1, y2, y3, y4, y5, y6, y7, y8, y9], ()), (), ())).bind (fun z8 => Sum.elim (fun z9 => some (Sum.inr (Sum.inl ((z9.fst.fst, z9.fst.snd.fst, ()), (), ())))) (fun z9 => some (Sum.inr (Sum.inl ((z9.fst.fst, 0, ()), (), ())))) z8)
      else some (.inl ((arr [y0, y1, y2, y3, y4, y5, y6, y7, y8, y9], 1, (16384, 40960, 4096, 32768, ()), ()), (), ()))) else none := by kernel_rfl
  rw [kr, h]
  simp only [Option.bind_some, arr_size, d1, g1, g2, e, decide_true, cond_true]
theorem kt1 (k : Nat) : ∃ r : List UInt8, r.length = 9 ∧ F19.go (k + 10) 40960 = some ((arr (108 :: r), ()), (), ()) := ⟨[45, 45, 45, 45, 45, 45, 45, 45, 45], rfl, by kernel_rfl⟩
theorem short1 (k : Nat) (s : ByteArray) (h : ((s.size : Int) == 10) = false) : F17.go26 k s 1 16384 40960 4096 32768 = some (.inl ((s, 2, (16384, 40960, 4096, 32768, ()), ()), (), ())) := by
  unfold F17.go26
  rw [h]; rfl
theorem kind1 (k : Nat) (y0 y1 y2 y3 y4 y5 y6 y7 y8 y9 : UInt8) : F17.go26 (k + 10) (arr [y0, y1, y2, y3, y4, y5, y6, y7, y8, y9]) 1 16384 40960 4096 32768 = bif y0 == 108 then (F17.l_108138 (k + 10) ((0, 40960, arr [y0, y1, y2, y3, y4, y5, y6, y7, y8, y9], ()), (), ())).bind fun z8 => Sum.elim (fun z9 => some (Sum.inr (Sum.inl ((z9.fst.fst, z9.fst.snd.fst, ()), (), ()))))
    (fun z9 => some (Sum.inr (Sum.inl ((z9.fst.fst, 0, ()), (), ())))) z8 else some (.inl ((arr [y0, y1, y2, y3, y4, y5, y6, y7, y8, y9], 2, (16384, 40960, 4096, 32768, ()), ()), (), ())) := by
  obtain ⟨r, hr, h⟩ := kt1 k
  have hr' : ((108 :: r : List UInt8).length : Int) = 10 := by rw [List.length_cons, hr]; rfl
  have e : ((((108 : UInt8).toNat : Nat) : Int) == ((y0.toNat : Nat) : Int)) = (y0 == 108) := (ub 108 y0).trans Bool.beq_comm
  have g1 : (arr (108 :: r)).data.getD 0 0 = 108 := rfl
  have g2 : (arr [y0, y1, y2, y3, y4, y5, y6, y7, y8, y9]).data.getD 0 0 = y0 := rfl
  have d1 : (0 : Int) < (((108 :: r : List UInt8).length : Nat) : Int) := by rw [hr']; decide
  have kr : F17.go26 (k + 10) (arr [y0, y1, y2, y3, y4, y5, y6, y7, y8, y9]) 1 16384 40960 4096 32768 = (F19.go (k + 10) 40960).bind fun z => bif decide ((0 : Int) < (z.fst.fst.size : Int)) then (bif (((z.fst.fst.data.getD 0 0).toNat : Nat) : Int) == ((y0.toNat : Nat) : Int) then
      (F17.l_108138 (k + 10) ((0, 40960, arr [y0, y1, y2, y3, y4, y5, y6, y7, y8, y9], ()), (), ())).bind (fun z8 => Sum.elim (fun z9 => some (Sum.inr (Sum.inl ((z9.fst.fst, z9.fst.snd.fst, ()), (), ())))) (fun z9 => some (Sum.inr (Sum.inl ((z9.fst.fst, 0, ()), (), ())))) z8)
      else some (.inl ((arr [y0, y1, y2, y3, y4, y5, y6, y7, y8, y9], 2, (16384, 40960, 4096, 32768, ()), ()), (), ()))) else none := by kernel_rfl
  rw [kr, h]
  simp only [Option.bind_some, arr_size, d1, g1, g2, e, decide_true, cond_true]
theorem kt2 (k : Nat) : ∃ r : List UInt8, r.length = 9 ∧ F19.go (k + 10) 4096 = some ((arr (112 :: r), ()), (), ()) := ⟨[45, 45, 45, 45, 45, 45, 45, 45, 45], rfl, by kernel_rfl⟩
theorem short2 (k : Nat) (s : ByteArray) (h : ((s.size : Int) == 10) = false) : F17.go26 k s 2 16384 40960 4096 32768 = some (.inl ((s, 3, (16384, 40960, 4096, 32768, ()), ()), (), ())) := by
  unfold F17.go26
  rw [h]; rfl
theorem kind2 (k : Nat) (y0 y1 y2 y3 y4 y5 y6 y7 y8 y9 : UInt8) : F17.go26 (k + 10) (arr [y0, y1, y2, y3, y4, y5, y6, y7, y8, y9]) 2 16384 40960 4096 32768 = bif y0 == 112 then (F17.l_108138 (k + 10) ((0, 4096, arr [y0, y1, y2, y3, y4, y5, y6, y7, y8, y9], ()), (), ())).bind fun z8 => Sum.elim (fun z9 => some (Sum.inr (Sum.inl ((z9.fst.fst, z9.fst.snd.fst, ()), (), ()))))
    (fun z9 => some (Sum.inr (Sum.inl ((z9.fst.fst, 0, ()), (), ())))) z8 else some (.inl ((arr [y0, y1, y2, y3, y4, y5, y6, y7, y8, y9], 3, (16384, 40960, 4096, 32768, ()), ()), (), ())) := by
  obtain ⟨r, hr, h⟩ := kt2 k
  have hr' : ((112 :: r : List UInt8).length : Int) = 10 := by rw [List.length_cons, hr]; rfl
  have e : ((((112 : UInt8).toNat : Nat) : Int) == ((y0.toNat : Nat) : Int)) = (y0 == 112) := (ub 112 y0).trans Bool.beq_comm
  have g1 : (arr (112 :: r)).data.getD 0 0 = 112 := rfl
  have g2 : (arr [y0, y1, y2, y3, y4, y5, y6, y7, y8, y9]).data.getD 0 0 = y0 := rfl
  have d1 : (0 : Int) < (((112 :: r : List UInt8).length : Nat) : Int) := by rw [hr']; decide
  have kr : F17.go26 (k + 10) (arr [y0, y1, y2, y3, y4, y5, y6, y7, y8, y9]) 2 16384 40960 4096 32768 = (F19.go (k + 10) 4096).bind fun z => bif decide ((0 : Int) < (z.fst.fst.size : Int)) then (bif (((z.fst.fst.data.getD 0 0).toNat : Nat) : Int) == ((y0.toNat : Nat) : Int) then
      (F17.l_108138 (k + 10) ((0, 4096, arr [y0, y1, y2, y3, y4, y5, y6, y7, y8, y9], ()), (), ())).bind (fun z8 => Sum.elim (fun z9 => some (Sum.inr (Sum.inl ((z9.fst.fst, z9.fst.snd.fst, ()), (), ())))) (fun z9 => some (Sum.inr (Sum.inl ((z9.fst.fst, 0, ()), (), ())))) z8)
      else some (.inl ((arr [y0, y1, y2, y3, y4, y5, y6, y7, y8, y9], 3, (16384, 40960, 4096, 32768, ()), ()), (), ()))) else none := by kernel_rfl
  rw [kr, h]
  simp only [Option.bind_some, arr_size, d1, g1, g2, e, decide_true, cond_true]
theorem kt3 (k : Nat) : ∃ r : List UInt8, r.length = 9 ∧ F19.go (k + 10) 32768 = some ((arr (45 :: r), ()), (), ()) := ⟨[45, 45, 45, 45, 45, 45, 45, 45, 45], rfl, by kernel_rfl⟩
theorem short3 (k : Nat) (s : ByteArray) (h : ((s.size : Int) == 10) = false) : F17.go26 k s 3 16384 40960 4096 32768 = some (.inl ((s, 4, (16384, 40960, 4096, 32768, ()), ()), (), ())) := by
  unfold F17.go26
  rw [h]; rfl
theorem kind3 (k : Nat) (y0 y1 y2 y3 y4 y5 y6 y7 y8 y9 : UInt8) : F17.go26 (k + 10) (arr [y0, y1, y2, y3, y4, y5, y6, y7, y8, y9]) 3 16384 40960 4096 32768 = bif y0 == 45 then (F17.l_108138 (k + 10) ((0, 32768, arr [y0, y1, y2, y3, y4, y5, y6, y7, y8, y9], ()), (), ())).bind fun z8 => Sum.elim (fun z9 => some (Sum.inr (Sum.inl ((z9.fst.fst, z9.fst.snd.fst, ()), (), ()))))
    (fun z9 => some (Sum.inr (Sum.inl ((z9.fst.fst, 0, ()), (), ())))) z8 else some (.inl ((arr [y0, y1, y2, y3, y4, y5, y6, y7, y8, y9], 4, (16384, 40960, 4096, 32768, ()), ()), (), ())) := by
  obtain ⟨r, hr, h⟩ := kt3 k
  have hr' : ((45 :: r : List UInt8).length : Int) = 10 := by rw [List.length_cons, hr]; rfl
  have e : ((((45 : UInt8).toNat : Nat) : Int) == ((y0.toNat : Nat) : Int)) = (y0 == 45) := (ub 45 y0).trans Bool.beq_comm
  have g1 : (arr (45 :: r)).data.getD 0 0 = 45 := rfl
  have g2 : (arr [y0, y1, y2, y3, y4, y5, y6, y7, y8, y9]).data.getD 0 0 = y0 := rfl
  have d1 : (0 : Int) < (((45 :: r : List UInt8).length : Nat) : Int) := by rw [hr']; decide
  have kr : F17.go26 (k + 10) (arr [y0, y1, y2, y3, y4, y5, y6, y7, y8, y9]) 3 16384 40960 4096 32768 = (F19.go (k + 10) 32768).bind fun z => bif decide ((0 : Int) < (z.fst.fst.size : Int)) then (bif (((z.fst.fst.data.getD 0 0).toNat : Nat) : Int) == ((y0.toNat : Nat) : Int) then
      (F17.l_108138 (k + 10) ((0, 32768, arr [y0, y1, y2, y3, y4, y5, y6, y7, y8, y9], ()), (), ())).bind (fun z8 => Sum.elim (fun z9 => some (Sum.inr (Sum.inl ((z9.fst.fst, z9.fst.snd.fst, ()), (), ())))) (fun z9 => some (Sum.inr (Sum.inl ((z9.fst.fst, 0, ()), (), ())))) z8)
      else some (.inl ((arr [y0, y1, y2, y3, y4, y5, y6, y7, y8, y9], 4, (16384, 40960, 4096, 32768, ()), ()), (), ()))) else none := by kernel_rfl
  rw [kr, h]
  simp only [Option.bind_some, arr_size, d1, g1, g2, e, decide_true, cond_true]
end Go.Proofs.Try.S

namespace Go.Proofs.Try.S
open Go Go.Ev
theorem ten {l : List UInt8} (h : l.length = 10) : ∃ y0 y1 y2 y3 y4 y5 y6 y7 y8 y9, l = [y0, y1, y2, y3, y4, y5, y6, y7, y8, y9] := by
  match l, h with
  | [y0, y1, y2, y3, y4, y5, y6, y7, y8, y9], _ => exact ⟨_, _, _, _, _, _, _, _, _, _, rfl⟩
/-- Both read a text alike. -/
theorem parse_eq (k : Nat) (s : ByteArray) : ∃ v e : Int, F16.go (k + 40) s = some (((v, e, ()), ()), (), ()) ∧ F17.go (k + 40) s = some (((v, e, ()), ()), (), ()) := by
  cases hs : ((s.size : Int) == 10)
  · refine ⟨0, 22, ?_, ?_⟩
    · unfold F16.go
      have : ((s.size : Int) != 10) = true := by rw [bne, hs]; rfl
      rw [this]; rfl
    · have L : F17.l_26 (k + 40) ((s, 0, (16384, 40960, 4096, 32768, ()), ()), (), ()) = _ :=
        (loopN_inl (f := st26 (k + 40)) (k := k + 39) (short0 (k + 40) s hs)).trans ((loopN_inl (k := k + 38) (short1 (k + 40) s hs)).trans ((loopN_inl (k := k + 37) (short2 (k + 40) s hs)).trans ((loopN_inl (k := k + 36) (short3 (k + 40) s hs)).trans (loopN_inr (k := k + 35) (kind_end (k + 40) s)))))
      unfold F17.go
      rw [L]; rfl
  · have hl : s.data.toList.length = 10 := by
      rw [beq_iff_eq] at hs
      have : s.size = 10 := by omega
      exact this
    obtain ⟨y0, y1, y2, y3, y4, y5, y6, y7, y8, y9, e⟩ := ten hl
    have e' : s = arr [y0, y1, y2, y3, y4, y5, y6, y7, y8, y9] := by rw [← e]; rfl
    subst e'
    have A (d : UInt8) (n : Int) (e : (d.toNat : Int) = n) : ((y0.toNat : Int) == n) = (y0 == d) := by rw [← e]; exact ub _ _
    have nn (q : Nat) (hq : q < 65536) := nine k y0 y1 y2 y3 y4 y5 y6 y7 y8 y9 q hq
    have k0 := kind0 (k + 30) y0 y1 y2 y3 y4 y5 y6 y7 y8 y9
    have k1 := kind1 (k + 30) y0 y1 y2 y3 y4 y5 y6 y7 y8 y9
    have k2 := kind2 (k + 30) y0 y1 y2 y3 y4 y5 y6 y7 y8 y9
    have k3 := kind3 (k + 30) y0 y1 y2 y3 y4 y5 y6 y7 y8 y9
    have F : F16.go (k + 40) (arr [y0, y1, y2, y3, y4, y5, y6, y7, y8, y9]) =
        bif y0 == 100 then (F16.l_250 (k + 40) ((0, 16384, arr [y0, y1, y2, y3, y4, y5, y6, y7, y8, y9], ()), (), ())).bind fun y2 => Sum.elim (fun y3 => some (((y3.fst.fst, y3.fst.snd.fst, ()), ()), (), ())) (fun y3 => some (((y3.fst.fst, 0, ()), ()), (), ())) y2
        else bif y0 == 108 then (F16.l_250 (k + 40) ((0, 40960, arr [y0, y1, y2, y3, y4, y5, y6, y7, y8, y9], ()), (), ())).bind fun y2 => Sum.elim (fun y3 => some (((y3.fst.fst, y3.fst.snd.fst, ()), ()), (), ())) (fun y3 => some (((y3.fst.fst, 0, ()), ()), (), ())) y2
        else bif y0 == 112 then (F16.l_250 (k + 40) ((0, 4096, arr [y0, y1, y2, y3, y4, y5, y6, y7, y8, y9], ()), (), ())).bind fun y2 => Sum.elim (fun y3 => some (((y3.fst.fst, y3.fst.snd.fst, ()), ()), (), ())) (fun y3 => some (((y3.fst.fst, 0, ()), ()), (), ())) y2
        else bif y0 == 45 then (F16.l_250 (k + 40) ((0, 32768, arr [y0, y1, y2, y3, y4, y5, y6, y7, y8, y9], ()), (), ())).bind fun y2 => Sum.elim (fun y3 => some (((y3.fst.fst, y3.fst.snd.fst, ()), ()), (), ())) (fun y3 => some (((y3.fst.fst, 0, ()), ()), (), ())) y2
        else some (((0, 22, ()), ()), (), ()) := by
      rw [← A 100 100 rfl, ← A 108 108 rfl, ← A 112 112 rfl, ← A 45 45 rfl]
      unfold F16.go
      rfl
    have fin (q : Nat) (hq : q < 65536) : ∃ v e : Int, ((F16.l_250 (k + 40) ((0, (q : Int), arr [y0, y1, y2, y3, y4, y5, y6, y7, y8, y9], ()), (), ())).bind fun y2 => Sum.elim (fun y3 => some (((y3.fst.fst, y3.fst.snd.fst, ()), ()), (), ())) (fun y3 => some (((y3.fst.fst, 0, ()), ()), (), ())) y2) = some ((((v, e, ()) : Int × Int × Unit), ()), (), ()) ∧
        ((F17.l_108138 (k + 40) ((0, (q : Int), arr [y0, y1, y2, y3, y4, y5, y6, y7, y8, y9], ()), (), ())).bind fun z8 => Sum.elim (fun z9 => some (Sum.inr (Sum.inl ((z9.fst.fst, z9.fst.snd.fst, ()), (), ())))) (fun z9 => some (Sum.inr (Sum.inl ((z9.fst.fst, 0, ()), (), ())))) z8) = (some (.inr (.inl ((v, e, ()), (), ()))) : Option (((ByteArray × Int × (Int × Int × Int × Int × Unit) × Unit) × Unit × Unit) ⊕ ((Int × Int × Unit) × Unit × Unit) ⊕ Unit × Unit × Unit)) := by
      rcases nn q hq with ⟨h1, h2⟩ | ⟨v, h1, h2⟩
      · exact ⟨0, 22, by rw [h1]; rfl, by rw [h2]; rfl⟩
      · exact ⟨v, 0, by rw [h1]; rfl, by rw [h2]; rfl⟩
    cases c0 : y0 == 100 <;> rw [c0] at F k0
    · cases c1 : y0 == 108 <;> rw [c1] at F k1
      · cases c2 : y0 == 112 <;> rw [c2] at F k2
        · cases c3 : y0 == 45 <;> rw [c3] at F k3
          · have L : F17.l_26 (k + 40) ((arr [y0, y1, y2, y3, y4, y5, y6, y7, y8, y9], 0, (16384, 40960, 4096, 32768, ()), ()), (), ()) = _ :=
              (loopN_inl (f := st26 (k + 40)) (k := k + 39) k0).trans ((loopN_inl (k := k + 38) k1).trans ((loopN_inl (k := k + 37) k2).trans ((loopN_inl (k := k + 36) k3).trans (loopN_inr (k := k + 35) (kind_end (k + 40) _)))))
            exact ⟨0, 22, F, by unfold F17.go; rw [L]; rfl⟩
          · obtain ⟨v, e, h1, h2⟩ := fin 32768 (by decide)
            have L : F17.l_26 (k + 40) ((arr [y0, y1, y2, y3, y4, y5, y6, y7, y8, y9], 0, (16384, 40960, 4096, 32768, ()), ()), (), ()) = _ :=
              (loopN_inl (f := st26 (k + 40)) (k := k + 39) k0).trans ((loopN_inl (k := k + 38) k1).trans ((loopN_inl (k := k + 37) k2).trans (loopN_inr (k := k + 36) (k3.trans h2))))
            exact ⟨v, e, F.trans h1, by unfold F17.go; rw [L]; rfl⟩
        · obtain ⟨v, e, h1, h2⟩ := fin 4096 (by decide)
          have L : F17.l_26 (k + 40) ((arr [y0, y1, y2, y3, y4, y5, y6, y7, y8, y9], 0, (16384, 40960, 4096, 32768, ()), ()), (), ()) = _ :=
            (loopN_inl (f := st26 (k + 40)) (k := k + 39) k0).trans ((loopN_inl (k := k + 38) k1).trans (loopN_inr (k := k + 37) (k2.trans h2)))
          exact ⟨v, e, F.trans h1, by unfold F17.go; rw [L]; rfl⟩
      · obtain ⟨v, e, h1, h2⟩ := fin 40960 (by decide)
        have L : F17.l_26 (k + 40) ((arr [y0, y1, y2, y3, y4, y5, y6, y7, y8, y9], 0, (16384, 40960, 4096, 32768, ()), ()), (), ()) = _ :=
          (loopN_inl (f := st26 (k + 40)) (k := k + 39) k0).trans (loopN_inr (k := k + 38) (k1.trans h2))
        exact ⟨v, e, F.trans h1, by unfold F17.go; rw [L]; rfl⟩
    · obtain ⟨v, e, h1, h2⟩ := fin 16384 (by decide)
      have L : F17.l_26 (k + 40) ((arr [y0, y1, y2, y3, y4, y5, y6, y7, y8, y9], 0, (16384, 40960, 4096, 32768, ()), ()), (), ()) = _ :=
        loopN_inr (f := st26 (k + 40)) (k := k + 39) (k0.trans h2)
      exact ⟨v, e, F.trans h1, by unfold F17.go; rw [L]; rfl⟩
theorem permTexts (m : Int) (s : ByteArray) : ∃ k, F5.go k m s = some ((true, ()), (), ()) := by
  refine ⟨0 + 40, ?_⟩
  obtain ⟨v, e, h1, h2⟩ := parse_eq 0 s
  obtain ⟨t, h3, h4⟩ := text_eq 35 m
  obtain ⟨o, h5, h6⟩ := octal_eq 35 m
  have h3 : F18.go (0 + 40) m = _ := h3
  have h4 : F19.go (0 + 40) m = _ := h4
  have h5 : F20.go (0 + 40) m = _ := h5
  have h6 : F21.go (0 + 40) m = _ := h6
  unfold F5.go
  rw [h1, h2, h3, h4, h5, h6, lives]
  simp only [Option.bind_some, beq_self_eq_true, cond_true]
end Go.Proofs.Try.S

