/- The plain law: a mode's text is read back, its octal text sets it, and what is added and taken away again is away. -/
import Derived.Test.YtojgkpejfnidjaaPlain
set_option linter.unusedVariables false
set_option linter.unusedSimpArgs false
set_option linter.unusedSectionVars false
set_option maxRecDepth 100000
namespace Go.Proofs.Try.S
open Go Go.Ev
theorem and_nat (x c : Nat) (hx : x < 9223372036854775808) (hc : c < 9223372036854775808) : and' (x : Int) (c : Int) = ((x &&& c : Nat) : Int) := by
  have h : (BitVec.ofInt (IntKind.bits .i64) (x : Int) &&& BitVec.ofInt (IntKind.bits .i64) (c : Int)).toNat = x &&& c := by
    have h1 : (BitVec.ofInt 64 (x : Int)) = BitVec.ofNat 64 x := rfl
    have h2 : (BitVec.ofInt 64 (c : Int)) = BitVec.ofNat 64 c := rfl
    show (BitVec.ofInt 64 (x : Int) &&& BitVec.ofInt 64 (c : Int)).toNat = x &&& c
    rw [h1, h2, BitVec.toNat_and, BitVec.toNat_ofNat, BitVec.toNat_ofNat, Nat.mod_eq_of_lt (by omega), Nat.mod_eq_of_lt (by omega)]
  unfold and'
  rw [h]
  have : x &&& c ≤ c := Nat.and_le_right
  exact wrap_id (by omega) (by omega)
theorem or_nat (x c : Nat) (hx : x < 9223372036854775808) (hc : c < 9223372036854775808) : or' (x : Int) (c : Int) = ((x ||| c : Nat) : Int) := by
  have h : (BitVec.ofInt (IntKind.bits .i64) (x : Int) ||| BitVec.ofInt (IntKind.bits .i64) (c : Int)).toNat = x ||| c := by
    have h1 : (BitVec.ofInt 64 (x : Int)) = BitVec.ofNat 64 x := rfl
    have h2 : (BitVec.ofInt 64 (c : Int)) = BitVec.ofNat 64 c := rfl
    show (BitVec.ofInt 64 (x : Int) ||| BitVec.ofInt 64 (c : Int)).toNat = x ||| c
    rw [h1, h2, BitVec.toNat_or, BitVec.toNat_ofNat, BitVec.toNat_ofNat, Nat.mod_eq_of_lt (by omega), Nat.mod_eq_of_lt (by omega)]
  unfold or'
  rw [h]
  have : x ||| c < 2 ^ 63 := Nat.or_lt_two_pow (by omega) (by omega)
  exact wrap_id (by omega) (by omega)
theorem fdiv_nat (n d : Nat) : (n : Int).fdiv (d : Int) = ((n / d : Nat) : Int) := by
  rw [Int.fdiv_eq_ediv_of_nonneg _ (by omega)]; rfl
theorem and_toInt (x : Int) (c : BitVec (IntKind.bits .i64)) : and' x c.toInt = (BitVec.ofInt (IntKind.bits .i64) x &&& c).toInt := by
  unfold and'; rw [wB, oB]
theorem and_small (x : Int) : ∃ n : Nat, n < 65536 ∧ and' x 65535 = (n : Int) := by
  have e := and_toInt x 65535#64
  have hle : (BitVec.ofInt 64 x &&& 65535#64).toNat ≤ 65535 := by
    rw [BitVec.toNat_and]; exact Nat.and_le_right
  refine ⟨(BitVec.ofInt 64 x &&& 65535#64).toNat, by omega, ?_⟩
  refine e.trans ?_
  show (BitVec.ofInt 64 x &&& 65535#64).toInt = _
  rw [BitVec.toInt_eq_toNat_cond, if_pos (by omega)]
theorem and7 (n : Nat) (h : n < 9223372036854775808) : and' (n : Int) 7 = ((n % 8 : Nat) : Int) := by
  have := and_nat n 7 h (by decide)
  rw [show n &&& 7 = n % 8 from Nat.and_two_pow_sub_one_eq_mod n 3] at this
  exact this
theorem and4095 (n : Nat) (h : n < 9223372036854775808) : and' (n : Int) 4095 = ((n % 4096 : Nat) : Int) := by
  have := and_nat n 4095 h (by decide)
  rw [show n &&& 4095 = n % 4096 from Nat.and_two_pow_sub_one_eq_mod n 12] at this
  exact this
theorem and61440 (n : Nat) (h : n < 65536) : and' (n : Int) 61440 = ((n / 4096 * 4096 : Nat) : Int) := by
  have := and_nat n 61440 (by omega) (by decide)
  have h1 : (n &&& 61440) / 2 ^ 12 = n / 4096 % 16 := by
    rw [Nat.and_div_two_pow]; exact Nat.and_two_pow_sub_one_eq_mod (n / 4096) 4
  have h2 : (n &&& 61440) % 2 ^ 12 = 0 := by
    rw [Nat.and_mod_two_pow]; exact Nat.and_zero _
  have e : n &&& 61440 = n / 4096 * 4096 := by omega
  rw [e] at this
  exact this
theorem and65535 (n : Nat) (h : n < 65536) : and' (n : Int) 65535 = (n : Int) := by
  have := and_nat n 65535 (by omega) (by decide)
  rw [show n &&& 65535 = n % 65536 from Nat.and_two_pow_sub_one_eq_mod n 16, Nat.mod_eq_of_lt h] at this
  exact this
theorem bit_ne (n i : Nat) : (n &&& 2 ^ i != 0) = (n / 2 ^ i % 2 == 1) := by
  have h : (n / 2 ^ i % 2 == 1) = n.testBit i := by
    rw [Nat.testBit_eq_decide_div_mod_eq]; rfl
  rw [h]
  cases c : n.testBit i
  · have : n &&& 2 ^ i = 0 := by
      apply Nat.eq_of_testBit_eq
      intro j
      rw [Nat.testBit_and, Nat.testBit_two_pow, Nat.zero_testBit]
      by_cases e : i = j
      · subst e; rw [c]; rfl
      · simp [e]
    rw [this]; rfl
  · have : (n &&& 2 ^ i).testBit i = true := by
      rw [Nat.testBit_and, Nat.testBit_two_pow, c]; simp
    rw [bne_iff_ne]
    intro e; rw [e] at this; simp at this
/-- A letter, if the bit is set. -/
def lt (n p l : Nat) : Nat := bif n / p % 2 == 1 then l else 0
theorem ne0 (n : Nat) : ((n : Int) != 0) = (n != 0) := by
  rw [Bool.eq_iff_iff, bne_iff_ne, bne_iff_ne]; omega
theorem F30_eq (k n p l : Nat) (hn : n < 65536) (hp : p = 2048 ∨ p = 1024 ∨ p = 512) : F30.go k (n : Int) (p : Int) (l : Int) = some ((((lt n p l : Nat) : Int), ()), (), ()) := by
  have a := and_nat n p (by omega) (by omega)
  have h : (and' (n : Int) (p : Int) != 0) = (n / p % 2 == 1) := by
    rw [a, ne0]
    rcases hp with rfl | rfl | rfl
    · exact bit_ne n 11
    · exact bit_ne n 10
    · exact bit_ne n 9
  unfold F30.go lt
  rw [h]
  cases n / p % 2 == 1 <;> rfl
/-- Three letters. -/
def tri (b l : Nat) : List UInt8 :=
  [bif b / 4 % 2 == 1 then 114 else 45, bif b / 2 % 2 == 1 then 119 else 45,
   bif l == 0 then (bif b % 2 == 1 then 120 else 45) else bif b % 2 == 1 then UInt8.ofNat l else UInt8.ofNat (l - 32)]
theorem T0_0 (k : Nat) : F29.go (k + 5) ((0 : Nat) : Int) ((0 : Nat) : Int) = some ((arr (tri 0 0), ()), (), ()) := by kernel_rfl
theorem T0_115 (k : Nat) : F29.go (k + 5) ((0 : Nat) : Int) ((115 : Nat) : Int) = some ((arr (tri 0 115), ()), (), ()) := by kernel_rfl
theorem T0_116 (k : Nat) : F29.go (k + 5) ((0 : Nat) : Int) ((116 : Nat) : Int) = some ((arr (tri 0 116), ()), (), ()) := by kernel_rfl
theorem T1_0 (k : Nat) : F29.go (k + 5) ((1 : Nat) : Int) ((0 : Nat) : Int) = some ((arr (tri 1 0), ()), (), ()) := by kernel_rfl
theorem T1_115 (k : Nat) : F29.go (k + 5) ((1 : Nat) : Int) ((115 : Nat) : Int) = some ((arr (tri 1 115), ()), (), ()) := by kernel_rfl
theorem T1_116 (k : Nat) : F29.go (k + 5) ((1 : Nat) : Int) ((116 : Nat) : Int) = some ((arr (tri 1 116), ()), (), ()) := by kernel_rfl
theorem T2_0 (k : Nat) : F29.go (k + 5) ((2 : Nat) : Int) ((0 : Nat) : Int) = some ((arr (tri 2 0), ()), (), ()) := by kernel_rfl
theorem T2_115 (k : Nat) : F29.go (k + 5) ((2 : Nat) : Int) ((115 : Nat) : Int) = some ((arr (tri 2 115), ()), (), ()) := by kernel_rfl
theorem T2_116 (k : Nat) : F29.go (k + 5) ((2 : Nat) : Int) ((116 : Nat) : Int) = some ((arr (tri 2 116), ()), (), ()) := by kernel_rfl
theorem T3_0 (k : Nat) : F29.go (k + 5) ((3 : Nat) : Int) ((0 : Nat) : Int) = some ((arr (tri 3 0), ()), (), ()) := by kernel_rfl
theorem T3_115 (k : Nat) : F29.go (k + 5) ((3 : Nat) : Int) ((115 : Nat) : Int) = some ((arr (tri 3 115), ()), (), ()) := by kernel_rfl
theorem T3_116 (k : Nat) : F29.go (k + 5) ((3 : Nat) : Int) ((116 : Nat) : Int) = some ((arr (tri 3 116), ()), (), ()) := by kernel_rfl
theorem T4_0 (k : Nat) : F29.go (k + 5) ((4 : Nat) : Int) ((0 : Nat) : Int) = some ((arr (tri 4 0), ()), (), ()) := by kernel_rfl
theorem T4_115 (k : Nat) : F29.go (k + 5) ((4 : Nat) : Int) ((115 : Nat) : Int) = some ((arr (tri 4 115), ()), (), ()) := by kernel_rfl
theorem T4_116 (k : Nat) : F29.go (k + 5) ((4 : Nat) : Int) ((116 : Nat) : Int) = some ((arr (tri 4 116), ()), (), ()) := by kernel_rfl
theorem T5_0 (k : Nat) : F29.go (k + 5) ((5 : Nat) : Int) ((0 : Nat) : Int) = some ((arr (tri 5 0), ()), (), ()) := by kernel_rfl
theorem T5_115 (k : Nat) : F29.go (k + 5) ((5 : Nat) : Int) ((115 : Nat) : Int) = some ((arr (tri 5 115), ()), (), ()) := by kernel_rfl
theorem T5_116 (k : Nat) : F29.go (k + 5) ((5 : Nat) : Int) ((116 : Nat) : Int) = some ((arr (tri 5 116), ()), (), ()) := by kernel_rfl
theorem T6_0 (k : Nat) : F29.go (k + 5) ((6 : Nat) : Int) ((0 : Nat) : Int) = some ((arr (tri 6 0), ()), (), ()) := by kernel_rfl
theorem T6_115 (k : Nat) : F29.go (k + 5) ((6 : Nat) : Int) ((115 : Nat) : Int) = some ((arr (tri 6 115), ()), (), ()) := by kernel_rfl
theorem T6_116 (k : Nat) : F29.go (k + 5) ((6 : Nat) : Int) ((116 : Nat) : Int) = some ((arr (tri 6 116), ()), (), ()) := by kernel_rfl
theorem T7_0 (k : Nat) : F29.go (k + 5) ((7 : Nat) : Int) ((0 : Nat) : Int) = some ((arr (tri 7 0), ()), (), ()) := by kernel_rfl
theorem T7_115 (k : Nat) : F29.go (k + 5) ((7 : Nat) : Int) ((115 : Nat) : Int) = some ((arr (tri 7 115), ()), (), ()) := by kernel_rfl
theorem T7_116 (k : Nat) : F29.go (k + 5) ((7 : Nat) : Int) ((116 : Nat) : Int) = some ((arr (tri 7 116), ()), (), ()) := by kernel_rfl
theorem F29_eq (k b l : Nat) (hb : b < 8) (hl : l = 0 ∨ l = 115 ∨ l = 116) : F29.go (k + 5) (b : Int) (l : Int) = some ((arr (tri b l), ()), (), ()) := by
  have h : b = 0 ∨ b = 1 ∨ b = 2 ∨ b = 3 ∨ b = 4 ∨ b = 5 ∨ b = 6 ∨ b = 7 := by omega
  rcases h with rfl | rfl | rfl | rfl | rfl | rfl | rfl | rfl <;> rcases hl with rfl | rfl | rfl
  · exact T0_0 k
  · exact T0_115 k
  · exact T0_116 k
  · exact T1_0 k
  · exact T1_115 k
  · exact T1_116 k
  · exact T2_0 k
  · exact T2_115 k
  · exact T2_116 k
  · exact T3_0 k
  · exact T3_115 k
  · exact T3_116 k
  · exact T4_0 k
  · exact T4_115 k
  · exact T4_116 k
  · exact T5_0 k
  · exact T5_115 k
  · exact T5_116 k
  · exact T6_0 k
  · exact T6_115 k
  · exact T6_116 k
  · exact T7_0 k
  · exact T7_115 k
  · exact T7_116 k
/-! a mode's text -/
def kindC (q : Nat) : UInt8 := bif q == 4 then 100 else bif q == 10 then 108 else bif q == 1 then 112 else bif q == 8 then 45 else 63
def textS (n : Nat) : List UInt8 := kindC (n / 4096) :: (tri (n / 64 % 8) (lt n 2048 115) ++ tri (n / 8 % 8) (lt n 1024 115) ++ tri (n % 8) (lt n 512 116))
theorem lt_or (n p l : Nat) : lt n p l = 0 ∨ lt n p l = l := by
  unfold lt; cases n / p % 2 == 1
  · exact Or.inl rfl
  · exact Or.inr rfl
theorem tri_len (b l : Nat) : (tri b l).length = 3 := rfl
theorem F18_eq (k n : Nat) (hn : n < 65536) : F18.go (k + 5) (n : Int) = some ((arr (textS n), ()), (), ()) := by
  have a1 : F30.go (k + 5) (n : Int) (Int.ofNat 2048) (Int.ofNat 115) = _ := F30_eq (k + 5) n 2048 115 hn (Or.inl rfl)
  have a2 : F30.go (k + 5) (n : Int) (Int.ofNat 1024) (Int.ofNat 115) = _ := F30_eq (k + 5) n 1024 115 hn (Or.inr (Or.inl rfl))
  have a3 : F30.go (k + 5) (n : Int) (Int.ofNat 512) (Int.ofNat 116) = _ := F30_eq (k + 5) n 512 116 hn (Or.inr (Or.inr rfl))
  have d1 : (n : Int).fdiv (2 ^ 6) = ((n / 64 : Nat) : Int) := fdiv_nat n 64
  have d2 : (n : Int).fdiv (2 ^ 3) = ((n / 8 : Nat) : Int) := fdiv_nat n 8
  have e1 := and7 (n / 64) (by omega)
  have e2 := and7 (n / 8) (by omega)
  have e3 := and7 n (by omega)
  have b1 := F29_eq k (n / 64 % 8) (lt n 2048 115) (Nat.mod_lt _ (by decide)) (by rcases lt_or n 2048 115 with h | h <;> rw [h] <;> simp)
  have b2 := F29_eq k (n / 8 % 8) (lt n 1024 115) (Nat.mod_lt _ (by decide)) (by rcases lt_or n 1024 115 with h | h <;> rw [h] <;> simp)
  have b3 := F29_eq k (n % 8) (lt n 512 116) (Nat.mod_lt _ (by decide)) (by rcases lt_or n 512 116 with h | h <;> rw [h] <;> simp)
  have kk := and61440 n hn
  have q (c : Nat) : (((n / 4096 * 4096 : Nat) : Int) == ((c * 4096 : Nat) : Int)) = (n / 4096 == c) := by
    rw [Bool.eq_iff_iff, beq_iff_eq, beq_iff_eq]; omega
  have q1 : (((n / 4096 * 4096 : Nat) : Int) == 16384) = (n / 4096 == 4) := q 4
  have q2 : (((n / 4096 * 4096 : Nat) : Int) == 40960) = (n / 4096 == 10) := q 10
  have q3 : (((n / 4096 * 4096 : Nat) : Int) == 4096) = (n / 4096 == 1) := q 1
  have q4 : (((n / 4096 * 4096 : Nat) : Int) == 32768) = (n / 4096 == 8) := q 8
  have s1 (c : UInt8) : (ByteArray.mk ⟨[c]⟩).append (arr (tri (n / 64 % 8) (lt n 2048 115))) = arr (c :: tri (n / 64 % 8) (lt n 2048 115)) := arr_append [c] _
  unfold F18.go textS kindC
  simp only [a1, a2, a3, d1, d2, e1, e2, e3, b1, b2, b3, kk, q1, q2, q3, q4, Option.bind_some, arr_size, tri_len, s1, arr_append, List.length_append, List.length_cons]
  cases n / 4096 == 4 <;> cases n / 4096 == 10 <;> cases n / 4096 == 1 <;> cases n / 4096 == 8 <;> rfl
/-- What three letters make of a mode. -/
def chain (j b l : Nat) (m : Int) : Int :=
  let m1 := bif b / 4 % 2 == 1 then or' m ((256 / 8 ^ j : Nat) : Int) else m
  let m2 := bif b / 2 % 2 == 1 then or' m1 ((128 / 8 ^ j : Nat) : Int) else m1
  bif l == 0 then (bif b % 2 == 1 then or' m2 ((64 / 8 ^ j : Nat) : Int) else m2)
  else bif b % 2 == 1 then or' m2 (or' ((64 / 8 ^ j : Nat) : Int) ((2048 / 2 ^ j : Nat) : Int)) else or' m2 ((2048 / 2 ^ j : Nat) : Int)
noncomputable abbrev st250 (k0 : Nat) (x : (Int × Int × ByteArray × Unit) × Unit × Unit) := F16.go250 k0 x.fst.fst x.fst.snd.fst x.fst.snd.snd.fst
theorem C0_0_0 (k0 k : Nat) (q y3 y4 y5 y6 y7 y8 : UInt8) (m : Int) : loopN (st250 k0) (k + 3) ((0, m, arr (q :: (tri 0 0 ++ [y3, y4, y5, y6, y7, y8])), ()), (), ()) = loopN (st250 k0) k ((3, chain 0 0 0 m, arr (q :: (tri 0 0 ++ [y3, y4, y5, y6, y7, y8])), ()), (), ()) := by kernel_rfl
theorem C0_0_115 (k0 k : Nat) (q y3 y4 y5 y6 y7 y8 : UInt8) (m : Int) : loopN (st250 k0) (k + 3) ((0, m, arr (q :: (tri 0 115 ++ [y3, y4, y5, y6, y7, y8])), ()), (), ()) = loopN (st250 k0) k ((3, chain 0 0 115 m, arr (q :: (tri 0 115 ++ [y3, y4, y5, y6, y7, y8])), ()), (), ()) := by kernel_rfl
theorem C0_1_0 (k0 k : Nat) (q y3 y4 y5 y6 y7 y8 : UInt8) (m : Int) : loopN (st250 k0) (k + 3) ((0, m, arr (q :: (tri 1 0 ++ [y3, y4, y5, y6, y7, y8])), ()), (), ()) = loopN (st250 k0) k ((3, chain 0 1 0 m, arr (q :: (tri 1 0 ++ [y3, y4, y5, y6, y7, y8])), ()), (), ()) := by kernel_rfl
theorem C0_1_115 (k0 k : Nat) (q y3 y4 y5 y6 y7 y8 : UInt8) (m : Int) : loopN (st250 k0) (k + 3) ((0, m, arr (q :: (tri 1 115 ++ [y3, y4, y5, y6, y7, y8])), ()), (), ()) = loopN (st250 k0) k ((3, chain 0 1 115 m, arr (q :: (tri 1 115 ++ [y3, y4, y5, y6, y7, y8])), ()), (), ()) := by kernel_rfl
theorem C0_2_0 (k0 k : Nat) (q y3 y4 y5 y6 y7 y8 : UInt8) (m : Int) : loopN (st250 k0) (k + 3) ((0, m, arr (q :: (tri 2 0 ++ [y3, y4, y5, y6, y7, y8])), ()), (), ()) = loopN (st250 k0) k ((3, chain 0 2 0 m, arr (q :: (tri 2 0 ++ [y3, y4, y5, y6, y7, y8])), ()), (), ()) := by kernel_rfl
theorem C0_2_115 (k0 k : Nat) (q y3 y4 y5 y6 y7 y8 : UInt8) (m : Int) : loopN (st250 k0) (k + 3) ((0, m, arr (q :: (tri 2 115 ++ [y3, y4, y5, y6, y7, y8])), ()), (), ()) = loopN (st250 k0) k ((3, chain 0 2 115 m, arr (q :: (tri 2 115 ++ [y3, y4, y5, y6, y7, y8])), ()), (), ()) := by kernel_rfl
theorem C0_3_0 (k0 k : Nat) (q y3 y4 y5 y6 y7 y8 : UInt8) (m : Int) : loopN (st250 k0) (k + 3) ((0, m, arr (q :: (tri 3 0 ++ [y3, y4, y5, y6, y7, y8])), ()), (), ()) = loopN (st250 k0) k ((3, chain 0 3 0 m, arr (q :: (tri 3 0 ++ [y3, y4, y5, y6, y7, y8])), ()), (), ()) := by kernel_rfl
theorem C0_3_115 (k0 k : Nat) (q y3 y4 y5 y6 y7 y8 : UInt8) (m : Int) : loopN (st250 k0) (k + 3) ((0, m, arr (q :: (tri 3 115 ++ [y3, y4, y5, y6, y7, y8])), ()), (), ()) = loopN (st250 k0) k ((3, chain 0 3 115 m, arr (q :: (tri 3 115 ++ [y3, y4, y5, y6, y7, y8])), ()), (), ()) := by kernel_rfl
theorem C0_4_0 (k0 k : Nat) (q y3 y4 y5 y6 y7 y8 : UInt8) (m : Int) : loopN (st250 k0) (k + 3) ((0, m, arr (q :: (tri 4 0 ++ [y3, y4, y5, y6, y7, y8])), ()), (), ()) = loopN (st250 k0) k ((3, chain 0 4 0 m, arr (q :: (tri 4 0 ++ [y3, y4, y5, y6, y7, y8])), ()), (), ()) := by kernel_rfl
theorem C0_4_115 (k0 k : Nat) (q y3 y4 y5 y6 y7 y8 : UInt8) (m : Int) : loopN (st250 k0) (k + 3) ((0, m, arr (q :: (tri 4 115 ++ [y3, y4, y5, y6, y7, y8])), ()), (), ()) = loopN (st250 k0) k ((3, chain 0 4 115 m, arr (q :: (tri 4 115 ++ [y3, y4, y5, y6, y7, y8])), ()), (), ()) := by kernel_rfl
theorem C0_5_0 (k0 k : Nat) (q y3 y4 y5 y6 y7 y8 : UInt8) (m : Int) : loopN (st250 k0) (k + 3) ((0, m, arr (q :: (tri 5 0 ++ [y3, y4, y5, y6, y7, y8])), ()), (), ()) = loopN (st250 k0) k ((3, chain 0 5 0 m, arr (q :: (tri 5 0 ++ [y3, y4, y5, y6, y7, y8])), ()), (), ()) := by kernel_rfl
theorem C0_5_115 (k0 k : Nat) (q y3 y4 y5 y6 y7 y8 : UInt8) (m : Int) : loopN (st250 k0) (k + 3) ((0, m, arr (q :: (tri 5 115 ++ [y3, y4, y5, y6, y7, y8])), ()), (), ()) = loopN (st250 k0) k ((3, chain 0 5 115 m, arr (q :: (tri 5 115 ++ [y3, y4, y5, y6, y7, y8])), ()), (), ()) := by kernel_rfl
theorem C0_6_0 (k0 k : Nat) (q y3 y4 y5 y6 y7 y8 : UInt8) (m : Int) : loopN (st250 k0) (k + 3) ((0, m, arr (q :: (tri 6 0 ++ [y3, y4, y5, y6, y7, y8])), ()), (), ()) = loopN (st250 k0) k ((3, chain 0 6 0 m, arr (q :: (tri 6 0 ++ [y3, y4, y5, y6, y7, y8])), ()), (), ()) := by kernel_rfl
theorem C0_6_115 (k0 k : Nat) (q y3 y4 y5 y6 y7 y8 : UInt8) (m : Int) : loopN (st250 k0) (k + 3) ((0, m, arr (q :: (tri 6 115 ++ [y3, y4, y5, y6, y7, y8])), ()), (), ()) = loopN (st250 k0) k ((3, chain 0 6 115 m, arr (q :: (tri 6 115 ++ [y3, y4, y5, y6, y7, y8])), ()), (), ()) := by kernel_rfl
theorem C0_7_0 (k0 k : Nat) (q y3 y4 y5 y6 y7 y8 : UInt8) (m : Int) : loopN (st250 k0) (k + 3) ((0, m, arr (q :: (tri 7 0 ++ [y3, y4, y5, y6, y7, y8])), ()), (), ()) = loopN (st250 k0) k ((3, chain 0 7 0 m, arr (q :: (tri 7 0 ++ [y3, y4, y5, y6, y7, y8])), ()), (), ()) := by kernel_rfl
theorem C0_7_115 (k0 k : Nat) (q y3 y4 y5 y6 y7 y8 : UInt8) (m : Int) : loopN (st250 k0) (k + 3) ((0, m, arr (q :: (tri 7 115 ++ [y3, y4, y5, y6, y7, y8])), ()), (), ()) = loopN (st250 k0) k ((3, chain 0 7 115 m, arr (q :: (tri 7 115 ++ [y3, y4, y5, y6, y7, y8])), ()), (), ()) := by kernel_rfl
theorem C0 (b l : Nat) (hb : b < 8) (hl : l = 0 ∨ l = 115) (k0 k : Nat) (q y3 y4 y5 y6 y7 y8 : UInt8) (m : Int) : loopN (st250 k0) (k + 3) ((0, m, arr (q :: (tri b l ++ [y3, y4, y5, y6, y7, y8])), ()), (), ()) = loopN (st250 k0) k ((3, chain 0 b l m, arr (q :: (tri b l ++ [y3, y4, y5, y6, y7, y8])), ()), (), ()) := by
  have h : b = 0 ∨ b = 1 ∨ b = 2 ∨ b = 3 ∨ b = 4 ∨ b = 5 ∨ b = 6 ∨ b = 7 := by omega
  rcases h with rfl | rfl | rfl | rfl | rfl | rfl | rfl | rfl <;> rcases hl with rfl | rfl
  · exact C0_0_0 k0 k q y3 y4 y5 y6 y7 y8 m
  · exact C0_0_115 k0 k q y3 y4 y5 y6 y7 y8 m
  · exact C0_1_0 k0 k q y3 y4 y5 y6 y7 y8 m
  · exact C0_1_115 k0 k q y3 y4 y5 y6 y7 y8 m
  · exact C0_2_0 k0 k q y3 y4 y5 y6 y7 y8 m
  · exact C0_2_115 k0 k q y3 y4 y5 y6 y7 y8 m
  · exact C0_3_0 k0 k q y3 y4 y5 y6 y7 y8 m
  · exact C0_3_115 k0 k q y3 y4 y5 y6 y7 y8 m
  · exact C0_4_0 k0 k q y3 y4 y5 y6 y7 y8 m
  · exact C0_4_115 k0 k q y3 y4 y5 y6 y7 y8 m
  · exact C0_5_0 k0 k q y3 y4 y5 y6 y7 y8 m
  · exact C0_5_115 k0 k q y3 y4 y5 y6 y7 y8 m
  · exact C0_6_0 k0 k q y3 y4 y5 y6 y7 y8 m
  · exact C0_6_115 k0 k q y3 y4 y5 y6 y7 y8 m
  · exact C0_7_0 k0 k q y3 y4 y5 y6 y7 y8 m
  · exact C0_7_115 k0 k q y3 y4 y5 y6 y7 y8 m
theorem C1_0_0 (k0 k : Nat) (q y0 y1 y2 y6 y7 y8 : UInt8) (m : Int) : loopN (st250 k0) (k + 3) ((3, m, arr (q :: y0 :: y1 :: y2 :: (tri 0 0 ++ [y6, y7, y8])), ()), (), ()) = loopN (st250 k0) k ((6, chain 1 0 0 m, arr (q :: y0 :: y1 :: y2 :: (tri 0 0 ++ [y6, y7, y8])), ()), (), ()) := by kernel_rfl
theorem C1_0_115 (k0 k : Nat) (q y0 y1 y2 y6 y7 y8 : UInt8) (m : Int) : loopN (st250 k0) (k + 3) ((3, m, arr (q :: y0 :: y1 :: y2 :: (tri 0 115 ++ [y6, y7, y8])), ()), (), ()) = loopN (st250 k0) k ((6, chain 1 0 115 m, arr (q :: y0 :: y1 :: y2 :: (tri 0 115 ++ [y6, y7, y8])), ()), (), ()) := by kernel_rfl
theorem C1_1_0 (k0 k : Nat) (q y0 y1 y2 y6 y7 y8 : UInt8) (m : Int) : loopN (st250 k0) (k + 3) ((3, m, arr (q :: y0 :: y1 :: y2 :: (tri 1 0 ++ [y6, y7, y8])), ()), (), ()) = loopN (st250 k0) k ((6, chain 1 1 0 m, arr (q :: y0 :: y1 :: y2 :: (tri 1 0 ++ [y6, y7, y8])), ()), (), ()) := by kernel_rfl
theorem C1_1_115 (k0 k : Nat) (q y0 y1 y2 y6 y7 y8 : UInt8) (m : Int) : loopN (st250 k0) (k + 3) ((3, m, arr (q :: y0 :: y1 :: y2 :: (tri 1 115 ++ [y6, y7, y8])), ()), (), ()) = loopN (st250 k0) k ((6, chain 1 1 115 m, arr (q :: y0 :: y1 :: y2 :: (tri 1 115 ++ [y6, y7, y8])), ()), (), ()) := by kernel_rfl
theorem C1_2_0 (k0 k : Nat) (q y0 y1 y2 y6 y7 y8 : UInt8) (m : Int) : loopN (st250 k0) (k + 3) ((3, m, arr (q :: y0 :: y1 :: y2 :: (tri 2 0 ++ [y6, y7, y8])), ()), (), ()) = loopN (st250 k0) k ((6, chain 1 2 0 m, arr (q :: y0 :: y1 :: y2 :: (tri 2 0 ++ [y6, y7, y8])), ()), (), ()) := by kernel_rfl
theorem C1_2_115 (k0 k : Nat) (q y0 y1 y2 y6 y7 y8 : UInt8) (m : Int) : loopN (st250 k0) (k + 3) ((3, m, arr (q :: y0 :: y1 :: y2 :: (tri 2 115 ++ [y6, y7, y8])), ()), (), ()) = loopN (st250 k0) k ((6, chain 1 2 115 m, arr (q :: y0 :: y1 :: y2 :: (tri 2 115 ++ [y6, y7, y8])), ()), (), ()) := by kernel_rfl
theorem C1_3_0 (k0 k : Nat) (q y0 y1 y2 y6 y7 y8 : UInt8) (m : Int) : loopN (st250 k0) (k + 3) ((3, m, arr (q :: y0 :: y1 :: y2 :: (tri 3 0 ++ [y6, y7, y8])), ()), (), ()) = loopN (st250 k0) k ((6, chain 1 3 0 m, arr (q :: y0 :: y1 :: y2 :: (tri 3 0 ++ [y6, y7, y8])), ()), (), ()) := by kernel_rfl
theorem C1_3_115 (k0 k : Nat) (q y0 y1 y2 y6 y7 y8 : UInt8) (m : Int) : loopN (st250 k0) (k + 3) ((3, m, arr (q :: y0 :: y1 :: y2 :: (tri 3 115 ++ [y6, y7, y8])), ()), (), ()) = loopN (st250 k0) k ((6, chain 1 3 115 m, arr (q :: y0 :: y1 :: y2 :: (tri 3 115 ++ [y6, y7, y8])), ()), (), ()) := by kernel_rfl
theorem C1_4_0 (k0 k : Nat) (q y0 y1 y2 y6 y7 y8 : UInt8) (m : Int) : loopN (st250 k0) (k + 3) ((3, m, arr (q :: y0 :: y1 :: y2 :: (tri 4 0 ++ [y6, y7, y8])), ()), (), ()) = loopN (st250 k0) k ((6, chain 1 4 0 m, arr (q :: y0 :: y1 :: y2 :: (tri 4 0 ++ [y6, y7, y8])), ()), (), ()) := by kernel_rfl
theorem C1_4_115 (k0 k : Nat) (q y0 y1 y2 y6 y7 y8 : UInt8) (m : Int) : loopN (st250 k0) (k + 3) ((3, m, arr (q :: y0 :: y1 :: y2 :: (tri 4 115 ++ [y6, y7, y8])), ()), (), ()) = loopN (st250 k0) k ((6, chain 1 4 115 m, arr (q :: y0 :: y1 :: y2 :: (tri 4 115 ++ [y6, y7, y8])), ()), (), ()) := by kernel_rfl
theorem C1_5_0 (k0 k : Nat) (q y0 y1 y2 y6 y7 y8 : UInt8) (m : Int) : loopN (st250 k0) (k + 3) ((3, m, arr (q :: y0 :: y1 :: y2 :: (tri 5 0 ++ [y6, y7, y8])), ()), (), ()) = loopN (st250 k0) k ((6, chain 1 5 0 m, arr (q :: y0 :: y1 :: y2 :: (tri 5 0 ++ [y6, y7, y8])), ()), (), ()) := by kernel_rfl
theorem C1_5_115 (k0 k : Nat) (q y0 y1 y2 y6 y7 y8 : UInt8) (m : Int) : loopN (st250 k0) (k + 3) ((3, m, arr (q :: y0 :: y1 :: y2 :: (tri 5 115 ++ [y6, y7, y8])), ()), (), ()) = loopN (st250 k0) k ((6, chain 1 5 115 m, arr (q :: y0 :: y1 :: y2 :: (tri 5 115 ++ [y6, y7, y8])), ()), (), ()) := by kernel_rfl
theorem C1_6_0 (k0 k : Nat) (q y0 y1 y2 y6 y7 y8 : UInt8) (m : Int) : loopN (st250 k0) (k + 3) ((3, m, arr (q :: y0 :: y1 :: y2 :: (tri 6 0 ++ [y6, y7, y8])), ()), (), ()) = loopN (st250 k0) k ((6, chain 1 6 0 m, arr (q :: y0 :: y1 :: y2 :: (tri 6 0 ++ [y6, y7, y8])), ()), (), ()) := by kernel_rfl
theorem C1_6_115 (k0 k : Nat) (q y0 y1 y2 y6 y7 y8 : UInt8) (m : Int) : loopN (st250 k0) (k + 3) ((3, m, arr (q :: y0 :: y1 :: y2 :: (tri 6 115 ++ [y6, y7, y8])), ()), (), ()) = loopN (st250 k0) k ((6, chain 1 6 115 m, arr (q :: y0 :: y1 :: y2 :: (tri 6 115 ++ [y6, y7, y8])), ()), (), ()) := by kernel_rfl
theorem C1_7_0 (k0 k : Nat) (q y0 y1 y2 y6 y7 y8 : UInt8) (m : Int) : loopN (st250 k0) (k + 3) ((3, m, arr (q :: y0 :: y1 :: y2 :: (tri 7 0 ++ [y6, y7, y8])), ()), (), ()) = loopN (st250 k0) k ((6, chain 1 7 0 m, arr (q :: y0 :: y1 :: y2 :: (tri 7 0 ++ [y6, y7, y8])), ()), (), ()) := by kernel_rfl
theorem C1_7_115 (k0 k : Nat) (q y0 y1 y2 y6 y7 y8 : UInt8) (m : Int) : loopN (st250 k0) (k + 3) ((3, m, arr (q :: y0 :: y1 :: y2 :: (tri 7 115 ++ [y6, y7, y8])), ()), (), ()) = loopN (st250 k0) k ((6, chain 1 7 115 m, arr (q :: y0 :: y1 :: y2 :: (tri 7 115 ++ [y6, y7, y8])), ()), (), ()) := by kernel_rfl
theorem C1 (b l : Nat) (hb : b < 8) (hl : l = 0 ∨ l = 115) (k0 k : Nat) (q y0 y1 y2 y6 y7 y8 : UInt8) (m : Int) : loopN (st250 k0) (k + 3) ((3, m, arr (q :: y0 :: y1 :: y2 :: (tri b l ++ [y6, y7, y8])), ()), (), ()) = loopN (st250 k0) k ((6, chain 1 b l m, arr (q :: y0 :: y1 :: y2 :: (tri b l ++ [y6, y7, y8])), ()), (), ()) := by
  have h : b = 0 ∨ b = 1 ∨ b = 2 ∨ b = 3 ∨ b = 4 ∨ b = 5 ∨ b = 6 ∨ b = 7 := by omega
  rcases h with rfl | rfl | rfl | rfl | rfl | rfl | rfl | rfl <;> rcases hl with rfl | rfl
  · exact C1_0_0 k0 k q y0 y1 y2 y6 y7 y8 m
  · exact C1_0_115 k0 k q y0 y1 y2 y6 y7 y8 m
  · exact C1_1_0 k0 k q y0 y1 y2 y6 y7 y8 m
  · exact C1_1_115 k0 k q y0 y1 y2 y6 y7 y8 m
  · exact C1_2_0 k0 k q y0 y1 y2 y6 y7 y8 m
  · exact C1_2_115 k0 k q y0 y1 y2 y6 y7 y8 m
  · exact C1_3_0 k0 k q y0 y1 y2 y6 y7 y8 m
  · exact C1_3_115 k0 k q y0 y1 y2 y6 y7 y8 m
  · exact C1_4_0 k0 k q y0 y1 y2 y6 y7 y8 m
  · exact C1_4_115 k0 k q y0 y1 y2 y6 y7 y8 m
  · exact C1_5_0 k0 k q y0 y1 y2 y6 y7 y8 m
  · exact C1_5_115 k0 k q y0 y1 y2 y6 y7 y8 m
  · exact C1_6_0 k0 k q y0 y1 y2 y6 y7 y8 m
  · exact C1_6_115 k0 k q y0 y1 y2 y6 y7 y8 m
  · exact C1_7_0 k0 k q y0 y1 y2 y6 y7 y8 m
  · exact C1_7_115 k0 k q y0 y1 y2 y6 y7 y8 m
theorem C2_0_0 (k0 k : Nat) (q y0 y1 y2 y3 y4 y5 : UInt8) (m : Int) : loopN (st250 k0) (k + 3) ((6, m, arr (q :: y0 :: y1 :: y2 :: y3 :: y4 :: y5 :: (tri 0 0 ++ [])), ()), (), ()) = loopN (st250 k0) k ((9, chain 2 0 0 m, arr (q :: y0 :: y1 :: y2 :: y3 :: y4 :: y5 :: (tri 0 0 ++ [])), ()), (), ()) := by kernel_rfl
theorem C2_0_116 (k0 k : Nat) (q y0 y1 y2 y3 y4 y5 : UInt8) (m : Int) : loopN (st250 k0) (k + 3) ((6, m, arr (q :: y0 :: y1 :: y2 :: y3 :: y4 :: y5 :: (tri 0 116 ++ [])), ()), (), ()) = loopN (st250 k0) k ((9, chain 2 0 116 m, arr (q :: y0 :: y1 :: y2 :: y3 :: y4 :: y5 :: (tri 0 116 ++ [])), ()), (), ()) := by kernel_rfl
theorem C2_1_0 (k0 k : Nat) (q y0 y1 y2 y3 y4 y5 : UInt8) (m : Int) : loopN (st250 k0) (k + 3) ((6, m, arr (q :: y0 :: y1 :: y2 :: y3 :: y4 :: y5 :: (tri 1 0 ++ [])), ()), (), ()) = loopN (st250 k0) k ((9, chain 2 1 0 m, arr (q :: y0 :: y1 :: y2 :: y3 :: y4 :: y5 :: (tri 1 0 ++ [])), ()), (), ()) := by kernel_rfl
theorem C2_1_116 (k0 k : Nat) (q y0 y1 y2 y3 y4 y5 : UInt8) (m : Int) : loopN (st250 k0) (k + 3) ((6, m, arr (q :: y0 :: y1 :: y2 :: y3 :: y4 :: y5 :: (tri 1 116 ++ [])), ()), (), ()) = loopN (st250 k0) k ((9, chain 2 1 116 m, arr (q :: y0 :: y1 :: y2 :: y3 :: y4 :: y5 :: (tri 1 116 ++ [])), ()), (), ()) := by kernel_rfl
theorem C2_2_0 (k0 k : Nat) (q y0 y1 y2 y3 y4 y5 : UInt8) (m : Int) : loopN (st250 k0) (k + 3) ((6, m, arr (q :: y0 :: y1 :: y2 :: y3 :: y4 :: y5 :: (tri 2 0 ++ [])), ()), (), ()) = loopN (st250 k0) k ((9, chain 2 2 0 m, arr (q :: y0 :: y1 :: y2 :: y3 :: y4 :: y5 :: (tri 2 0 ++ [])), ()), (), ()) := by kernel_rfl
theorem C2_2_116 (k0 k : Nat) (q y0 y1 y2 y3 y4 y5 : UInt8) (m : Int) : loopN (st250 k0) (k + 3) ((6, m, arr (q :: y0 :: y1 :: y2 :: y3 :: y4 :: y5 :: (tri 2 116 ++ [])), ()), (), ()) = loopN (st250 k0) k ((9, chain 2 2 116 m, arr (q :: y0 :: y1 :: y2 :: y3 :: y4 :: y5 :: (tri 2 116 ++ [])), ()), (), ()) := by kernel_rfl
theorem C2_3_0 (k0 k : Nat) (q y0 y1 y2 y3 y4 y5 : UInt8) (m : Int) : loopN (st250 k0) (k + 3) ((6, m, arr (q :: y0 :: y1 :: y2 :: y3 :: y4 :: y5 :: (tri 3 0 ++ [])), ()), (), ()) = loopN (st250 k0) k ((9, chain 2 3 0 m, arr (q :: y0 :: y1 :: y2 :: y3 :: y4 :: y5 :: (tri 3 0 ++ [])), ()), (), ()) := by kernel_rfl
theorem C2_3_116 (k0 k : Nat) (q y0 y1 y2 y3 y4 y5 : UInt8) (m : Int) : loopN (st250 k0) (k + 3) ((6, m, arr (q :: y0 :: y1 :: y2 :: y3 :: y4 :: y5 :: (tri 3 116 ++ [])), ()), (), ()) = loopN (st250 k0) k ((9, chain 2 3 116 m, arr (q :: y0 :: y1 :: y2 :: y3 :: y4 :: y5 :: (tri 3 116 ++ [])), ()), (), ()) := by kernel_rfl
theorem C2_4_0 (k0 k : Nat) (q y0 y1 y2 y3 y4 y5 : UInt8) (m : Int) : loopN (st250 k0) (k + 3) ((6, m, arr (q :: y0 :: y1 :: y2 :: y3 :: y4 :: y5 :: (tri 4 0 ++ [])), ()), (), ()) = loopN (st250 k0) k ((9, chain 2 4 0 m, arr (q :: y0 :: y1 :: y2 :: y3 :: y4 :: y5 :: (tri 4 0 ++ [])), ()), (), ()) := by kernel_rfl
theorem C2_4_116 (k0 k : Nat) (q y0 y1 y2 y3 y4 y5 : UInt8) (m : Int) : loopN (st250 k0) (k + 3) ((6, m, arr (q :: y0 :: y1 :: y2 :: y3 :: y4 :: y5 :: (tri 4 116 ++ [])), ()), (), ()) = loopN (st250 k0) k ((9, chain 2 4 116 m, arr (q :: y0 :: y1 :: y2 :: y3 :: y4 :: y5 :: (tri 4 116 ++ [])), ()), (), ()) := by kernel_rfl
theorem C2_5_0 (k0 k : Nat) (q y0 y1 y2 y3 y4 y5 : UInt8) (m : Int) : loopN (st250 k0) (k + 3) ((6, m, arr (q :: y0 :: y1 :: y2 :: y3 :: y4 :: y5 :: (tri 5 0 ++ [])), ()), (), ()) = loopN (st250 k0) k ((9, chain 2 5 0 m, arr (q :: y0 :: y1 :: y2 :: y3 :: y4 :: y5 :: (tri 5 0 ++ [])), ()), (), ()) := by kernel_rfl
theorem C2_5_116 (k0 k : Nat) (q y0 y1 y2 y3 y4 y5 : UInt8) (m : Int) : loopN (st250 k0) (k + 3) ((6, m, arr (q :: y0 :: y1 :: y2 :: y3 :: y4 :: y5 :: (tri 5 116 ++ [])), ()), (), ()) = loopN (st250 k0) k ((9, chain 2 5 116 m, arr (q :: y0 :: y1 :: y2 :: y3 :: y4 :: y5 :: (tri 5 116 ++ [])), ()), (), ()) := by kernel_rfl
theorem C2_6_0 (k0 k : Nat) (q y0 y1 y2 y3 y4 y5 : UInt8) (m : Int) : loopN (st250 k0) (k + 3) ((6, m, arr (q :: y0 :: y1 :: y2 :: y3 :: y4 :: y5 :: (tri 6 0 ++ [])), ()), (), ()) = loopN (st250 k0) k ((9, chain 2 6 0 m, arr (q :: y0 :: y1 :: y2 :: y3 :: y4 :: y5 :: (tri 6 0 ++ [])), ()), (), ()) := by kernel_rfl
theorem C2_6_116 (k0 k : Nat) (q y0 y1 y2 y3 y4 y5 : UInt8) (m : Int) : loopN (st250 k0) (k + 3) ((6, m, arr (q :: y0 :: y1 :: y2 :: y3 :: y4 :: y5 :: (tri 6 116 ++ [])), ()), (), ()) = loopN (st250 k0) k ((9, chain 2 6 116 m, arr (q :: y0 :: y1 :: y2 :: y3 :: y4 :: y5 :: (tri 6 116 ++ [])), ()), (), ()) := by kernel_rfl
theorem C2_7_0 (k0 k : Nat) (q y0 y1 y2 y3 y4 y5 : UInt8) (m : Int) : loopN (st250 k0) (k + 3) ((6, m, arr (q :: y0 :: y1 :: y2 :: y3 :: y4 :: y5 :: (tri 7 0 ++ [])), ()), (), ()) = loopN (st250 k0) k ((9, chain 2 7 0 m, arr (q :: y0 :: y1 :: y2 :: y3 :: y4 :: y5 :: (tri 7 0 ++ [])), ()), (), ()) := by kernel_rfl
theorem C2_7_116 (k0 k : Nat) (q y0 y1 y2 y3 y4 y5 : UInt8) (m : Int) : loopN (st250 k0) (k + 3) ((6, m, arr (q :: y0 :: y1 :: y2 :: y3 :: y4 :: y5 :: (tri 7 116 ++ [])), ()), (), ()) = loopN (st250 k0) k ((9, chain 2 7 116 m, arr (q :: y0 :: y1 :: y2 :: y3 :: y4 :: y5 :: (tri 7 116 ++ [])), ()), (), ()) := by kernel_rfl
theorem C2 (b l : Nat) (hb : b < 8) (hl : l = 0 ∨ l = 116) (k0 k : Nat) (q y0 y1 y2 y3 y4 y5 : UInt8) (m : Int) : loopN (st250 k0) (k + 3) ((6, m, arr (q :: y0 :: y1 :: y2 :: y3 :: y4 :: y5 :: (tri b l ++ [])), ()), (), ()) = loopN (st250 k0) k ((9, chain 2 b l m, arr (q :: y0 :: y1 :: y2 :: y3 :: y4 :: y5 :: (tri b l ++ [])), ()), (), ()) := by
  have h : b = 0 ∨ b = 1 ∨ b = 2 ∨ b = 3 ∨ b = 4 ∨ b = 5 ∨ b = 6 ∨ b = 7 := by omega
  rcases h with rfl | rfl | rfl | rfl | rfl | rfl | rfl | rfl <;> rcases hl with rfl | rfl
  · exact C2_0_0 k0 k q y0 y1 y2 y3 y4 y5 m
  · exact C2_0_116 k0 k q y0 y1 y2 y3 y4 y5 m
  · exact C2_1_0 k0 k q y0 y1 y2 y3 y4 y5 m
  · exact C2_1_116 k0 k q y0 y1 y2 y3 y4 y5 m
  · exact C2_2_0 k0 k q y0 y1 y2 y3 y4 y5 m
  · exact C2_2_116 k0 k q y0 y1 y2 y3 y4 y5 m
  · exact C2_3_0 k0 k q y0 y1 y2 y3 y4 y5 m
  · exact C2_3_116 k0 k q y0 y1 y2 y3 y4 y5 m
  · exact C2_4_0 k0 k q y0 y1 y2 y3 y4 y5 m
  · exact C2_4_116 k0 k q y0 y1 y2 y3 y4 y5 m
  · exact C2_5_0 k0 k q y0 y1 y2 y3 y4 y5 m
  · exact C2_5_116 k0 k q y0 y1 y2 y3 y4 y5 m
  · exact C2_6_0 k0 k q y0 y1 y2 y3 y4 y5 m
  · exact C2_6_116 k0 k q y0 y1 y2 y3 y4 y5 m
  · exact C2_7_0 k0 k q y0 y1 y2 y3 y4 y5 m
  · exact C2_7_116 k0 k q y0 y1 y2 y3 y4 y5 m
theorem step_nat (c : Bool) (x a : Nat) (hx : x < 65536) (ha : a < 65536) : (bif c then or' (x : Int) (a : Int) else (x : Int)) = ((x ||| (bif c then a else 0) : Nat) : Int) := by
  cases c
  · simp
  · exact or_nat x a (by omega) (by omega)
theorem or_lt {x a : Nat} (hx : x < 65536) (ha : a < 65536) : x ||| a < 65536 := Nat.or_lt_two_pow (n := 16) hx ha
theorem bif_lt {c : Bool} {a : Nat} (ha : a < 65536) : (bif c then a else 0) < 65536 := by cases c <;> simp [ha]
theorem pow_lt (j a : Nat) (h : a < 65536) : a / 8 ^ j < 65536 := Nat.lt_of_le_of_lt (Nat.div_le_self _ _) h
theorem pow_lt2 (j a : Nat) (h : a < 65536) : a / 2 ^ j < 65536 := Nat.lt_of_le_of_lt (Nat.div_le_self _ _) h
theorem chain_nat (j b l x : Nat) (hx : x < 65536) : chain j b l (x : Int) =
    ((((x ||| (bif b / 4 % 2 == 1 then 256 / 8 ^ j else 0)) ||| (bif b / 2 % 2 == 1 then 128 / 8 ^ j else 0)) ||| (bif b % 2 == 1 then 64 / 8 ^ j else 0)) ||| (bif l == 0 then 0 else 2048 / 2 ^ j) : Nat) := by
  have p1 := pow_lt j 256 (by decide)
  have p2 := pow_lt j 128 (by decide)
  have p3 := pow_lt j 64 (by decide)
  have p4 := pow_lt2 j 2048 (by decide)
  unfold chain
  dsimp only
  rw [step_nat _ x _ hx p1]
  have h1 := or_lt hx (bif_lt (c := b / 4 % 2 == 1) p1)
  rw [step_nat _ _ _ h1 p2]
  have h2 := or_lt h1 (bif_lt (c := b / 2 % 2 == 1) p2)
  revert h2
  generalize x ||| (bif b / 4 % 2 == 1 then 256 / 8 ^ j else 0) ||| (bif b / 2 % 2 == 1 then 128 / 8 ^ j else 0) = y
  intro h2
  cases l == 0
  · simp only [cond_false]
    cases b % 2 == 1
    · simp only [cond_false, Nat.or_zero]
      exact or_nat y _ (by omega) (by omega)
    · simp only [cond_true]
      rw [or_nat _ _ (by omega) (by omega), or_nat y _ (by omega) (by have := or_lt p3 p4; omega), Nat.or_assoc]
  · simp only [cond_true, Nat.or_zero]
    exact step_nat _ y _ h2 p3
theorem bit_eq (n i : Nat) : (bif n / 2 ^ i % 2 == 1 then 2 ^ i else 0) = n &&& 2 ^ i := by
  have h := bit_ne n i
  cases c : n / 2 ^ i % 2 == 1
  · rw [c] at h
    simp only [bne_eq_false_iff_eq] at h
    rw [h]; rfl
  · have : n.testBit i = true := by
      rw [Nat.testBit_eq_decide_div_mod_eq]
      rw [beq_iff_eq] at c
      simp [c]
    apply Nat.eq_of_testBit_eq
    intro j
    rw [cond_true, Nat.testBit_and, Nat.testBit_two_pow]
    by_cases e : i = j
    · subst e; simp [this]
    · simp [e]
theorem lt_bit (n i l : Nat) (hl : l ≠ 0) : (bif lt n (2 ^ i) l == 0 then 0 else 2 ^ i) = n &&& 2 ^ i := by
  rw [← bit_eq]
  unfold lt
  have : (l == 0) = false := by rw [beq_eq_false_iff_ne]; exact hl
  cases n / 2 ^ i % 2 == 1
  · rfl
  · simp only [cond_true, this]; rfl
theorem all_bits (n : Nat) (hn : n < 65536) : chain 2 (n % 8) (lt n 512 116) (chain 1 (n / 8 % 8) (lt n 1024 115) (chain 0 (n / 64 % 8) (lt n 2048 115) ((n / 4096 * 4096 : Nat) : Int))) = (n : Int) := by
  have e0 : n / 4096 * 4096 = n &&& 61440 := by
    have h1 : (n &&& 61440) / 2 ^ 12 = n / 4096 % 16 := by
      rw [Nat.and_div_two_pow]; exact Nat.and_two_pow_sub_one_eq_mod (n / 4096) 4
    have h2 : (n &&& 61440) % 2 ^ 12 = 0 := by
      rw [Nat.and_mod_two_pow]; exact Nat.and_zero _
    omega
  have c1 : (n / 64 % 8 / 4 % 2 == 1) = (n / 2 ^ 8 % 2 == 1) := by
    rw [show n / 64 % 8 / 4 % 2 = n / 2 ^ 8 % 2 by omega]
  have c2 : (n / 64 % 8 / 2 % 2 == 1) = (n / 2 ^ 7 % 2 == 1) := by
    rw [show n / 64 % 8 / 2 % 2 = n / 2 ^ 7 % 2 by omega]
  have c3 : (n / 64 % 8 % 2 == 1) = (n / 2 ^ 6 % 2 == 1) := by
    rw [show n / 64 % 8 % 2 = n / 2 ^ 6 % 2 by omega]
  have c4 : (n / 8 % 8 / 4 % 2 == 1) = (n / 2 ^ 5 % 2 == 1) := by
    rw [show n / 8 % 8 / 4 % 2 = n / 2 ^ 5 % 2 by omega]
  have c5 : (n / 8 % 8 / 2 % 2 == 1) = (n / 2 ^ 4 % 2 == 1) := by
    rw [show n / 8 % 8 / 2 % 2 = n / 2 ^ 4 % 2 by omega]
  have c6 : (n / 8 % 8 % 2 == 1) = (n / 2 ^ 3 % 2 == 1) := by
    rw [show n / 8 % 8 % 2 = n / 2 ^ 3 % 2 by omega]
  have c7 : (n % 8 / 4 % 2 == 1) = (n / 2 ^ 2 % 2 == 1) := by
    rw [show n % 8 / 4 % 2 = n / 2 ^ 2 % 2 by omega]
  have c8 : (n % 8 / 2 % 2 == 1) = (n / 2 ^ 1 % 2 == 1) := by
    rw [show n % 8 / 2 % 2 = n / 2 ^ 1 % 2 by omega]
  have c9 : (n % 8 % 2 == 1) = (n / 2 ^ 0 % 2 == 1) := by
    rw [show n % 8 % 2 = n / 2 ^ 0 % 2 by omega]
  have d1 := lt_bit n 11 115 (by decide)
  have d2 := lt_bit n 10 115 (by decide)
  have d3 := lt_bit n 9 116 (by decide)
  have b1 := bit_eq n 8
  have b2 := bit_eq n 7
  have b3 := bit_eq n 6
  have b4 := bit_eq n 5
  have b5 := bit_eq n 4
  have b6 := bit_eq n 3
  have b7 := bit_eq n 2
  have b8 := bit_eq n 1
  have b9 := bit_eq n 0
  simp only [Nat.reducePow] at *
  rw [chain_nat 0 _ _ _ (by omega), c1, c2, c3, e0]
  simp only [Nat.reducePow, Nat.reduceDiv, b1, b2, b3, d1]
  have L (m : Nat) : n &&& m ≤ n := Nat.and_le_left
  simp only [← Nat.and_or_distrib_left]
  rw [chain_nat 1 _ _ _ (Nat.lt_of_le_of_lt (L _) hn), c4, c5, c6]
  simp only [Nat.reducePow, Nat.reduceDiv, b4, b5, b6, d2, ← Nat.and_or_distrib_left]
  rw [chain_nat 2 _ _ _ (Nat.lt_of_le_of_lt (L _) hn), c7, c8, c9]
  simp only [Nat.reducePow, Nat.reduceDiv, b7, b8, b9, d3, ← Nat.and_or_distrib_left]
  have e : n &&& 65535 = n := by
    rw [show n &&& 65535 = n % 65536 from Nat.and_two_pow_sub_one_eq_mod n 16, Nat.mod_eq_of_lt hn]
  exact congrArg _ e
theorem text_get (n : Nat) : (arr (textS n)).data.getD 0 0 = kindC (n / 4096) := rfl
theorem st_end (k0 : Nat) (m : Int) (s : ByteArray) : F16.go250 k0 9 m s = some (.inr (.inr ((m, ()), (), ()))) := by
  unfold F16.go250; rfl
theorem loop_text (k0 k n : Nat) (hn : n < 65536) : F16.l_250 (k + 10) ((0, ((n / 4096 * 4096 : Nat) : Int), arr (textS n), ()), (), ()) = some (.inr (((n : Int), ()), (), ())) := by
  have L0 := C0 (n / 64 % 8) (lt n 2048 115) (Nat.mod_lt _ (by decide)) (lt_or n 2048 115)
  have L1 := C1 (n / 8 % 8) (lt n 1024 115) (Nat.mod_lt _ (by decide)) (lt_or n 1024 115)
  have L2 := C2 (n % 8) (lt n 512 116) (Nat.mod_lt _ (by decide)) (lt_or n 512 116)
  unfold tri at L0 L1 L2
  refine (L0 (k + 10) (k + 7) _ _ _ _ _ _ _ _).trans ?_
  refine (L1 (k + 10) (k + 4) _ _ _ _ _ _ _ _).trans ?_
  refine (L2 (k + 10) (k + 1) _ _ _ _ _ _ _ _).trans ?_
  rw [all_bits n hn]
  exact loopN_inr (st_end _ _ _)
theorem text_len (n : Nat) : (textS n).length = 10 := rfl
/-- A mode's text is read back; the text of no kind is refused. -/
theorem F16_eq (k n : Nat) (hn : n < 65536) : F16.go (k + 10) (arr (textS n)) = bif kindC (n / 4096) == 63 then some (((0, 22, ()), ()), (), ()) else some ((((n : Int), 0, ()), ()), (), ()) := by
  have L := loop_text (k + 10) k n hn
  have hs : (((10 : Nat) : Int) != 10) = false := rfl
  unfold F16.go
  simp only [arr_size, text_len, hs, cond_false, text_get]
  revert L
  unfold kindC
  by_cases q1 : n / 4096 = 4
  · rw [q1]; intro L
    have L' : F16.l_250 (k + 10) ((0, 16384, arr (textS n), ()), (), ()) = _ := L
    simp only [beq_self_eq_true, cond_true]
    show Option.bind (F16.l_250 (k + 10) ((0, 16384, arr (textS n), ()), (), ())) _ = _
    rw [L']; rfl
  · by_cases q2 : n / 4096 = 10
    · rw [q2]; intro L
      have L' : F16.l_250 (k + 10) ((0, 40960, arr (textS n), ()), (), ()) = _ := L
      show Option.bind (F16.l_250 (k + 10) ((0, 40960, arr (textS n), ()), (), ())) _ = _
      rw [L']; rfl
    · by_cases q3 : n / 4096 = 1
      · rw [q3]; intro L
        have L' : F16.l_250 (k + 10) ((0, 4096, arr (textS n), ()), (), ()) = _ := L
        show Option.bind (F16.l_250 (k + 10) ((0, 4096, arr (textS n), ()), (), ())) _ = _
        rw [L']; rfl
      · by_cases q4 : n / 4096 = 8
        · rw [q4]; intro L
          have L' : F16.l_250 (k + 10) ((0, 32768, arr (textS n), ()), (), ()) = _ := L
          show Option.bind (F16.l_250 (k + 10) ((0, 32768, arr (textS n), ()), (), ())) _ = _
          rw [L']; rfl
        · intro _
          have f (a : Nat) (h : n / 4096 ≠ a) : (n / 4096 == a) = false := by rw [beq_eq_false_iff_ne]; exact h
          simp only [f 4 q1, f 10 q2, f 1 q3, f 8 q4, cond_false]
          rfl
/-! the octal text -/
def octT (n : Nat) : List UInt8 := [UInt8.ofNat (48 + n / 512 % 8), UInt8.ofNat (48 + n / 64 % 8), UInt8.ofNat (48 + n / 8 % 8), UInt8.ofNat (48 + n % 8)]
theorem F20_raw (k : Nat) (n : Int) : F20.go (k + 5) n = some ((strOf [IntKind.u8.wrap (48 + IntKind.u8.wrap (and' (n.fdiv (2 ^ 9)) 7)), IntKind.u8.wrap (48 + IntKind.u8.wrap (and' (n.fdiv (2 ^ 6)) 7)),
    IntKind.u8.wrap (48 + IntKind.u8.wrap (and' (n.fdiv (2 ^ 3)) 7)), IntKind.u8.wrap (48 + IntKind.u8.wrap (and' (n.fdiv (2 ^ 0)) 7))], ()), (), ()) := by kernel_rfl
theorem u8_dig (d : Nat) (h : d < 8) : IntKind.u8.wrap (48 + IntKind.u8.wrap (d : Int)) = ((48 + d : Nat) : Int) := by
  rw [IntKind.wrap_u8, IntKind.wrap_u8]; omega
theorem F20_eq (k n : Nat) (hn : n < 65536) : F20.go (k + 5) (n : Int) = some ((arr (octT n), ()), (), ()) := by
  have d1 : (n : Int).fdiv (2 ^ 9) = ((n / 512 : Nat) : Int) := fdiv_nat n 512
  have d2 : (n : Int).fdiv (2 ^ 6) = ((n / 64 : Nat) : Int) := fdiv_nat n 64
  have d3 : (n : Int).fdiv (2 ^ 3) = ((n / 8 : Nat) : Int) := fdiv_nat n 8
  have d4 : (n : Int).fdiv (2 ^ 0) = (n : Int) := by rw [Int.pow_zero, Int.fdiv_one]
  rw [F20_raw, d1, d2, d3, d4, and7 _ (by omega), and7 _ (by omega), and7 _ (by omega), and7 _ (by omega), u8_dig _ (Nat.mod_lt _ (by decide)), u8_dig _ (Nat.mod_lt _ (by decide)), u8_dig _ (Nat.mod_lt _ (by decide)), u8_dig _ (Nat.mod_lt _ (by decide))]
  rfl
theorem dig_toNat (d : Nat) (h : d < 8) : (UInt8.ofNat (48 + d)).toNat = 48 + d := by
  rw [UInt8.toNat_ofNat']; omega
theorem octS_dig (d : Nat) (h : d < 8) (l : List UInt8) (a : Nat) (ha : a < 100000) : octS (UInt8.ofNat (48 + d) :: l) (a : Int) = octS l ((a * 8 + d : Nat) : Int) := by
  have h1 : (decide (48 + d < 48) || decide (55 < 48 + d)) = false := by simp; omega
  rw [octS, dig_toNat d h, h1, cond_false]
  rw [wrap_id (n := (a : Int) * 8) (by omega) (by omega), wrap_id (by omega) (by omega)]
  congr 1
  omega
theorem octalS_eq (n : Nat) : octalS (octT n) = some ((n % 4096 : Nat) : Int) := by
  unfold octalS octT
  simp only [List.isEmpty_cons, cond_false, List.length_cons, List.length_nil]
  show octS _ ((0 : Nat) : Int) = _
  rw [octS_dig _ (Nat.mod_lt _ (by decide)) _ _ (by decide), octS_dig _ (Nat.mod_lt _ (by decide)) _ _ (by omega), octS_dig _ (Nat.mod_lt _ (by decide)) _ _ (by omega), octS_dig _ (Nat.mod_lt _ (by decide)) _ _ (by omega), octS]
  congr 2
  omega
theorem ChangeS_oct (n : Nat) (u : Int) : ChangeS (octT n) 32768 u = (or' 32768 ((n % 4096 : Nat) : Int), 0) := by
  unfold ChangeS
  rw [octalS_eq]
  rfl
/-! the fixed texts -/
theorem ChangeS_rw (m u : Int) : ChangeS [97, 43, 114, 119] m u = (or' (and' (and' m 65535) 61440) (or' (and' (and' m 65535) 4095) 438), 0) := by kernel_rfl
theorem ChangeS_x (m u : Int) : ChangeS [97, 43, 120, 44, 97, 45, 114, 119, 120, 115, 116] m u = (or' (and' (and' m 65535) 61440) (andn' (or' (and' (and' m 65535) 4095) 73) 4095), 0) := by kernel_rfl
theorem or_and_438 (x y : Int) : and' (or' x (or' y 438)) 438 = 438 := by
  have h (a b c : BitVec 64) : (a ||| (b ||| c)) &&& c = c := by
    ext i hi; simp; intro h; exact Or.inr (Or.inr h)
  have e : and' (or' x (or' y ((438#64 : BitVec 64).toInt))) ((438#64 : BitVec 64).toInt) = (438#64 : BitVec 64).toInt := by
    unfold and' or'
    have ob (b : BitVec (IntKind.bits .i64)) := oB b
    simp only [wB, oB]
    have ob' : BitVec.ofInt (IntKind.bits .i64) (438#64 : BitVec 64).toInt = (438#64 : BitVec 64) := rfl
    rw [ob']
    exact congrArg BitVec.toInt (h _ _ _)
  exact e
theorem cleared (x y : Int) : and' (or' (and' x 61440) (andn' y 4095)) 4095 = 0 := by
  have h (a b : BitVec 64) : ((a &&& 61440#64) ||| (b &&& ~~~4095#64)) &&& 4095#64 = 0#64 := by
    have h1 : (61440#64 : BitVec 64) &&& 4095#64 = 0#64 := by decide
    have h2 : (~~~4095#64 : BitVec 64) &&& 4095#64 = 0#64 := by decide
    rw [show ((a &&& 61440#64) ||| (b &&& ~~~4095#64)) &&& 4095#64 = ((a &&& 61440#64) &&& 4095#64) ||| ((b &&& ~~~4095#64) &&& 4095#64) by ext i hi; simp [Bool.and_or_distrib_right]]
    rw [BitVec.and_assoc, BitVec.and_assoc, h1, h2]
    simp
  have e : and' (or' (and' x ((61440#64 : BitVec 64).toInt)) (andn' y ((4095#64 : BitVec 64).toInt))) ((4095#64 : BitVec 64).toInt) = (0#64 : BitVec 64).toInt := by
    unfold and' or' andn'
    simp only [wB, oB]
    have ob' : BitVec.ofInt (IntKind.bits .i64) (4095#64 : BitVec 64).toInt = (4095#64 : BitVec 64) := rfl
    have ob2 : BitVec.ofInt (IntKind.bits .i64) (61440#64 : BitVec 64).toInt = (61440#64 : BitVec 64) := rfl
    rw [ob', ob2]
    exact congrArg BitVec.toInt (h _ _)
  exact e
theorem F6_eq (k n : Nat) (hn : n < 65536) (a0 a1 : Int) (ha : and' a0 65535 = (n : Int)) : F6.go (k + 40) a0 a1 = some ((true, ()), (), ()) := by
  have hlives := lives k
  have hT : F18.go (k + 40) (n : Int) = _ := F18_eq (k + 35) n hn
  have hP : F16.go (k + 40) (arr (textS n)) = _ := F16_eq (k + 30) n hn
  have hO : F20.go (k + 40) (n : Int) = _ := F20_eq (k + 35) n hn
  have hC (u : Int) : F7.go (k + 40) (arr (octT n)) (Int.ofNat 32768) u = _ := F7_eq (k + 40) (octT n) (by show 4 ≤ _; omega) (by show 4 + 5 ≤ _; omega) 32768 u
  have hA (u : Int) : F7.go (k + 40) (ByteArray.mk ⟨[97, 43, 114, 119]⟩) (n : Int) u = _ := F7_eq (k + 40) [97, 43, 114, 119] (by decide) (by show 4 + 5 ≤ _; omega) n u
  have hX (u : Int) : F7.go (k + 40) (ByteArray.mk ⟨[97, 43, 120, 44, 97, 45, 114, 119, 120, 115, 116]⟩) (n : Int) u = _ := F7_eq (k + 40) [97, 43, 120, 44, 97, 45, 114, 119, 120, 115, 116] (by decide) (by show 11 + 5 ≤ _; omega) n u
  have hs : (((10 : Nat) : Int) != 10) = false := rfl
  have hz : (0 : Int) < ((10 : Nat) : Int) := by decide
  have hk : (((kindC (n / 4096)).toNat : Int) != 63) = !(kindC (n / 4096) == 63) := congrArg _ (u8_beq _ 63)
  have h65 := and65535 n hn
  have hor := or_and_438 (and' (n : Int) 61440) (and' (n : Int) 4095)
  have hcl := cleared (n : Int) (or' (and' (n : Int) 4095) 73)
  have h4095 := and4095 n (by omega)
  have hor' : or' 32768 ((n % 4096 : Nat) : Int) = or' 32768 (and' (n : Int) 4095) := by rw [h4095]
  unfold F6.go
  simp only [ha, hT, hP, Option.bind_some, arr_size, text_len, hs, cond_false, hz, decide_true, text_get, hk, hO, hC, ChangeS_oct, hor', hA, ChangeS_rw, h65, hX, ChangeS_x, hor, hcl, hlives, beq_self_eq_true, cond_true]
  cases kindC (n / 4096) == 63
  · simp only [bne_self_eq_false, cond_false, cond_true, Bool.not_false, Option.bind_some]
    rfl
  · simp only [bne_self_eq_false, cond_false, cond_true, Bool.not_true]
    rfl
theorem permBack (a0 a1 : Int) : ∃ k, F6.go k a0 a1 = some ((true, ()), (), ()) := by
  obtain ⟨n, hn, e⟩ := and_small a0
  exact ⟨0 + 40, F6_eq 0 n hn a0 a1 e⟩
end Go.Proofs.Try.S

