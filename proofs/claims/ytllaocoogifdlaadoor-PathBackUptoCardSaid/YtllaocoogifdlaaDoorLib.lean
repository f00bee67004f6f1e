/- What the functions of the library compute, as the kit has proved it, in the words of the evaluator. -/
import Derived.Test.YtllaocoogifdlaaDoorEv4
import Derived.Test.YtllaocoogifdlaaDoorProg
import Derived.Shelf.Vars
import Derived.Lib.Strings
import Derived.Lib.Slices
import Derived.Lib.Walk
import Derived.Lib.Builder
import Derived.Lib.AppendStr
import Derived.Lib.UnsafeStr
import Derived.Lib.MakeNoZero
import Derived.WalkKit
import Derived.Laws.Externs
import Derived.Laws.IdiomCopy
import Derived.Laws.BitsLemmas
import Derived.RangeFuncBox
import Derived.RangeFuncLeaves
import Derived.Shelf.Abstract
import Derived.OwnWalkIn
import Derived.TacticsInMore
import Derived.LoopNIn
import Derived.LoopIn
import Derived.Laws.DeepStrings4
import Derived.BigGuardIn
namespace Go.Proofs.Tryd
open Go Go.Ev
/-! ### strings.Builder -/
set_option maxHeartbeats 1000000
set_option maxRecDepth 100000
theorem bcopy : CopyOK Tryd.prog 56 59 where
  used := by
    intro b w h0
    have hsz : (Tryd.prog.info? 59).map (·.size) = some 2 := by kernel_rfl
    obtain ⟨j, hj, _⟩ := Option.map_eq_some_iff.1 hsz
    go_enter Tryd.func56, Tryd.ntmps56
    go_wp2
    rw [Lib.run_neq_ptr_same w _ Tryd.underlying56 hj]
    go_wp2
    go_end0
    exact ⟨rfl, rfl⟩
  fresh := by
    intro b w h0 hsh hfz
    have hsz : (Tryd.prog.info? 59).map (·.size) = some 2 := by kernel_rfl
    have hlies : liesAt Tryd.prog Tryd.prog.depth 59 (2 / Tryd.prog.cellsOf 59) 0 59 1 = true := by kernel_rfl
    obtain ⟨j, hj, hjs⟩ := Option.map_eq_some_iff.1 hsz
    go_enter Tryd.func56, Tryd.ntmps56
    go_wp2
    rw [Lib.run_to_unsafe w ⟨b, 0, none⟩ Tryd.underlying56 Tryd.underlying78 hj (by rw [hjs]; decide) hsh (Nat.zero_lt_succ 1)]
    simp only [Result.andThen]
    rw [Oper.upon_value]
    go_wp2
    rw [run_callFunc_extern Tryd.func66 (by kernel_rfl) (by kernel_rfl) (by kernel_rfl) (e := Extern.AbiNoEscape.same) (by kernel_rfl)]
    rw [Lib.run_noEscape]
    simp only [Result.andThen]
    rw [Oper.upon_value]
    go_wp2
    rw [Lib.run_from_unsafe w ⟨b, 0, none⟩ Tryd.underlying78 Tryd.underlying56 hj hsh hlies]
    simp only [Result.andThen]
    rw [Oper.upon_value]
    go_wp2
    go_end0
    exact ⟨rfl, rfl⟩
theorem bstr : StrOK Tryd.prog 46 where
  row := by
    intro b g o cap cells l w h0 hc1 hcap hsh hn h63 hcell
    have c1 : w.drew.cell? ⟨b, 1, none⟩ = some (.slice (some ⟨g, o, none⟩) l.length cap) := hc1
    have hSD : (Builtin.unsafeSliceData_ #[57] 73 #[.slice (some ⟨g, o, none⟩) l.length cap]).run Tryd.prog w.drew = .ok (.pointer (some ⟨g, o, none⟩)) w.drew := Lib.run_unsafeSliceData_row _ _ _ _ _ _ hcap
    have hUS : (Builtin.unsafeString_ #[73, 3] 9 #[.pointer (some ⟨g, o, none⟩), .int .i64 l.length]).run Tryd.prog w.drew = .ok (.string (strOf l)) (w.drew.freeze ⟨g, o, none⟩ l.length) :=
      run_unsafeStringI w.drew 73 3 9 5 Tryd.underlying73 (by kernel_rfl) g o cells hsh l h0 hn h63 hcell
    clear hcell
    go_enter Tryd.func46, Tryd.ntmps46
    go_wp2
    go_region
    all_goals (go_wp2; go_ret; exact ⟨rfl, rfl⟩)
  room := by
    intro b a cap w hc1 hcap
    have c1 : w.drew.cell? ⟨b, 1, none⟩ = some (.slice (some a) 0 cap) := hc1
    have hSD : (Builtin.unsafeSliceData_ #[57] 73 #[.slice (some a) 0 cap]).run Tryd.prog w.drew = .ok (.pointer (some a)) w.drew := Lib.run_unsafeSliceData_row _ _ _ _ _ _ hcap
    have hUS : (Builtin.unsafeString_ #[73, 3] 9 #[.pointer (some a), .int .i64 0]).run Tryd.prog w.drew = .ok (.string .empty) w.drew := Lib.run_unsafeString_none w.drew 73 3 9 (some a)
    go_enter Tryd.func46, Tryd.ntmps46
    go_wp2
    go_region
    all_goals (go_wp2; go_ret; exact ⟨rfl, rfl⟩)
  nil := by
    intro b w hc1
    have c1 : w.drew.cell? ⟨b, 1, none⟩ = some (.slice none 0 0) := hc1
    have hSD : (Builtin.unsafeSliceData_ #[57] 73 #[.slice none 0 0]).run Tryd.prog w.drew = .ok (.pointer none) w.drew := rfl
    have hUS : (Builtin.unsafeString_ #[73, 3] 9 #[.pointer none, .int .i64 0]).run Tryd.prog w.drew = .ok (.string .empty) w.drew := Lib.run_unsafeString_none w.drew 73 3 9 none
    go_enter Tryd.func46, Tryd.ntmps46
    go_wp2
    go_region
    all_goals (go_wp2; go_ret; exact ⟨rfl, rfl⟩)
theorem lib56 {R : Type} : CFOK (R := R) Tryd.prog 56 (cfCopy 59) := cfCopy_ok bcopy
theorem lib46 {R : Type} : CFOK (R := R) Tryd.prog 46 cfBStr := cfBStr_ok bstr
theorem bgrow : GrowOK Tryd.prog 57 59 where
  grow := by
    intro b n w p hbk hn
    obtain ⟨cs, hrun, hle, hbytes⟩ := run_makeNoZeroX (P := Tryd.prog) w.drew #[3] 57 5 Tryd.underlying57 n hn
    have hw : IntKind.i64.wrap (IntKind.i64.wrap 0 + (n : Int)) = n := by
      rw [IntKind.wrap_i64, IntKind.wrap_i64]
      omega
    have hcall : (callFunc 67 #[.int .i64 (IntKind.i64.wrap (IntKind.i64.wrap 0 + (n : Int)))]).run Tryd.prog w.drew = .ok (.value (.slice (some ⟨w.drew.heap.size, 0, none⟩) n cs.size)) (w.drew.drew.drew.alloc (.cells cs 5)) := by
      rw [hw, run_callFunc_extern Tryd.func67 (by kernel_rfl) (by kernel_rfl) (by kernel_rfl) (e := Extern.BytealgMakeNoZero.makeNoZero #[3] #[57]) (by kernel_rfl), hrun]
      rfl
    have c1 : w.drew.cell? ⟨b, 1, none⟩ = some (.slice none 0 0) := by
      have : w.drew.heap[b]? = _ := hbk
      rw [Lib.cell_of_heap this]; rfl
    have hlt : b < w.heap.size := by
      rcases Nat.lt_or_ge b w.heap.size with h' | h'
      · exact h'
      · simp [Array.getElem?_eq_none h'] at hbk
    have c2 : (w.alloc (.cells cs 5)).cell? ⟨b, 1, none⟩ = some (.slice none 0 0) := by
      have : (w.alloc (.cells cs 5)).heap[b]? = _ := (Lib.alloc_old w _ b hlt).trans hbk
      rw [Lib.cell_of_heap this]; rfl
    have f2 : (w.alloc (.cells cs 5)).frozen? ⟨b, 1, none⟩ = false := Lib.frozen_of_heap ((Lib.alloc_old w _ b hlt).trans hbk) 1
    have hsz5 : (Tryd.prog.info? 5).map (·.size) = some 1 := by kernel_rfl
    have hcopy : ∀ W : World, (Builtin.copy_ #[57, 57] 3 #[.slice (some ⟨w.heap.size, 0, none⟩) 0 cs.size, .slice none 0 0]).run Tryd.prog W = .ok (goInt 0) W :=
      fun W => run_copy_none W 57 57 3 5 _ _ 0 cs.size 0 0 Tryd.underlying57 hsz5 rfl
    clear hw hbytes
    go_enter Tryd.func57, Tryd.ntmps57
    go_wp2
    go_region
    all_goals (go_wp2; go_end0; exact ⟨rfl, cs, hle, rfl⟩)
theorem lib57 {R : Type} : CFOK (R := R) Tryd.prog 57 (cfGrow 59) := cfGrow_ok bgrow

end Go.Proofs.Tryd
namespace Go.Proofs
theorem Tryd.shpW (w : Go.World) (h : w.ShapedOpen Tryd.prog) : Go.Ev.ShpW w := by
  intro g hg
  obtain rfl : g = 0 := by simpa [Go.Ev.shpList] using hg
  exact cell_of_shapedOpen_int h (by decide +kernel) (t := 3) (zero := #[.int .i64 0]) (by kernel_rfl) rfl (by kernel_rfl) (by kernel_rfl) Tryd.underlying3
end Go.Proofs

namespace Go.Proofs.Tryd
open Go Go.Ev
/-- what stands between slashes, each with the place behind it -/
def goNamesF (s : ByteArray) : Nat → Nat → Nat → List (Int × ByteArray)
  | 0, _, _ => []
  | f + 1, i, fr => if i < s.size ∧ s.data.getD i 0 ≠ 47 then goNamesF s f (i + 1) fr else
    if fr < i then ((i : Int), s.extract fr i) :: goNamesF s f (i + 1) (i + 1) else goNamesF s f (i + 1) (i + 1)
def goNames (s : ByteArray) : List (Int × ByteArray) := goNamesF s (s.size + 1) 0 0
def encN (e : Int × ByteArray) : Array Value := #[.int .i64 e.1, .string e.2]
def encNA (e : Int × ByteArray) : List AV := [.v (.int .i64 e.1), .v (.string e.2)]
theorem encN_ok : ∀ e w ok B ι, (encNA e).length = (encN e).size ∧ ∀ i, i < (encNA e).length → Rep w ok B ι ((encNA e).getD i default) ((encN e).getD i undef) := by
  intro e w ok B ι
  refine ⟨rfl, fun i hi => ?_⟩
  match i, hi with
  | 0, _ => exact .v _
  | 1, _ => exact .v _
def itN : List AV → Option (Bool × List (Int × ByteArray))
  | [.rp (.agg [.v (.string s)]) 0] => some (Nat.ble s.size 4611686018427387904, goNames s)
  | _ => none
end Go.Proofs.Tryd

namespace Go.Proofs
open Go Go.Ev Go.RowKit
theorem Tryd.namesA {s : ByteArray} {k q : Nat} (h2 : k < s.size) (h : s[k].toNat ≠ 47) : Tryd.goNamesF s (s.size + 1 - k) k q = Tryd.goNamesF s (s.size + 1 - (k + 1)) (k + 1) q := by
  rw [show s.size + 1 - k = (s.size + 1 - (k + 1)) + 1 by omega]
  have e : s.data.getD k 0 = s[k] := by
    have h3 : k < s.data.size := h2
    rw [Array.getD_eq_getD_getElem?, Array.getElem?_eq_getElem h3]; rfl
  have hn : s.data.getD k 0 ≠ 47 := by rw [e]; intro h'; rw [h'] at h; exact h rfl
  rw [Tryd.goNamesF, if_pos ⟨h2, hn⟩]
theorem Tryd.namesN {s : ByteArray} {k : Nat} (h : ∀ h2 : k < s.size, s[k].toNat = 47) : ¬ (k < s.size ∧ s.data.getD k 0 ≠ 47) := by
  rintro ⟨h2, h3⟩
  have e : s.data.getD k 0 = s[k] := by
    have h3 : k < s.data.size := h2
    rw [Array.getD_eq_getD_getElem?, Array.getElem?_eq_getElem h3]; rfl
  rw [e] at h3
  exact h3 (UInt8.toNat_inj.1 (h h2))
theorem Tryd.namesB {s : ByteArray} {k q : Nat} (h1 : k ≤ s.size) (h : ∀ h2 : k < s.size, s[k].toNat = 47) (hq : q < k) : Tryd.goNamesF s (s.size + 1 - k) k q = ((k : Int), s.extract q k) :: Tryd.goNamesF s (s.size + 1 - (k + 1)) (k + 1) (k + 1) := by
  rw [show s.size + 1 - k = (s.size + 1 - (k + 1)) + 1 by omega, Tryd.goNamesF, if_neg (Tryd.namesN h), if_pos hq]
theorem Tryd.namesC {s : ByteArray} {k q : Nat} (h1 : k ≤ s.size) (h : ∀ h2 : k < s.size, s[k].toNat = 47) (hq : ¬ q < k) : Tryd.goNamesF s (s.size + 1 - k) k q = Tryd.goNamesF s (s.size + 1 - (k + 1)) (k + 1) (k + 1) := by
  rw [show s.size + 1 - k = (s.size + 1 - (k + 1)) + 1 by omega, Tryd.goNamesF, if_neg (Tryd.namesN h), if_neg hq]
set_option maxRecDepth 100000 in
set_option maxHeartbeats 4000000 in
theorem Tryd.names_in (l b o : Nat) (s : ByteArray) (w : World) (ok : Nat → Prop) (hb : ok b) (hlen : s.size ≤ 4611686018427387904) (J Jx : List (Int × ByteArray) → World → Prop)
    (hk : ∀ pre W, J pre W → ∀ b, ok b → W.heap[b]? = w.heap[b]?)
    (hY : ∀ pre e post W, Tryd.goNames s = pre ++ e :: post → J pre W → YieldAt Fence.wide 0 Tryd.prog l (Tryd.encN e) W fun r W' => (r = .returned (.bool true) ∧ J (pre ++ [e]) W') ∨ (r = .returned (.bool false) ∧ Jx (pre ++ [e]) W'))
    (hc : w.cell? ⟨b, o, none⟩ = some (.string s)) (h0 : J [] w) :
    CallsIn Fence.wide 0 Tryd.prog 42 #[.func (.yield l) #[] #[], .pointer (some ⟨b, o, none⟩)] w fun r W' => (∃ v, r = .returned v) ∧ (J (Tryd.goNames s) W' ∨ ∃ pre post, Tryd.goNames s = pre ++ post ∧ Jx pre W') := by
  refine callsIn_of_wp Tryd.func42 rfl trivial ?_ rfl
  simp only [Tryd.ntmps42, List.size_toArray, List.length_cons, List.length_nil, Nat.reduceAdd, Nat.reduceSub, Array.replicate_succ, Array.replicate_zero, List.push_toArray, List.append_toArray, List.nil_append, List.cons_append]
  gi_wp2
  gi_loopw [3, 4] (fun fr i wr => ∃ (k q : Nat) (pre : List (Int × ByteArray)), k ≤ s.size + 1 ∧ fr = .int .i64 (q : Int) ∧ i = .int .i64 (k : Int) ∧ Tryd.goNames s = pre ++ Tryd.goNamesF s (s.size + 1 - k) k q ∧ J pre wr)
    (fun fr i _ => s.size + 1 - (intOf i).toNat)
  case atStart => exact ⟨0, 0, [], Nat.zero_le _, rfl, rfl, rfl, h0⟩
  case round =>
    obtain ⟨k, q, pre, hk1, rfl, rfl, hpre, hJ⟩ := hrel
    have hcx : wr.cell? ⟨b, o, none⟩ = some (.string s) := (cell_of_heap (a := ⟨b, o, none⟩) (hk pre wr hJ b hb)).trans hc
    by_cases h1 : k ≤ s.size
    · by_cases h2 : k < s.size
      · by_cases h3 : s[k].toNat = 47
        · have hne : ((s[k].toNat : Int) != 47) = false := by simp [h3]
          by_cases hq : q < k
          · have hst := Tryd.namesB h1 (fun _ => h3) hq
            rw [hst] at hpre
            obtain ⟨fn, tmps, assign, body, hy, hR⟩ := hY pre _ _ wr hpre hJ
            unfold Tryd.encN at hy
            dsimp only at hy
            gi_wp2
            refine ⟨rfl, hR.mono ?_⟩
            rintro e W3 (⟨rfl, hJ3⟩ | ⟨rfl, hJx3⟩)
            · gi_wp2
              go_roundw
              case rel => exact ⟨k + 1, k + 1, pre ++ [_], by omega, by simp, by simp, by rw [List.append_assoc]; exact hpre, hJ3⟩
              case measure => simp [intOf]; omega
            · gi_wp2
              refine bodyPost_ret (results_none rfl _ _ _) rfl ?_
              exact ⟨⟨_, rfl⟩, .inr ⟨_, _, by rw [List.append_assoc]; exact hpre, hJx3⟩⟩
          · have hst := Tryd.namesC h1 (fun _ => h3) hq
            rw [hst] at hpre
            gi_wp2
            refine ⟨fun f h => (by cases h), ?_⟩
            gi_wp2
            go_roundw
            case rel => exact ⟨k + 1, k + 1, pre, by omega, by simp, by simp, hpre, hJ⟩
            case measure => simp [intOf]; omega
        · have hne : ((s[k].toNat : Int) != 47) = true := by simp; omega
          have hst := Tryd.namesA (q := q) h2 h3
          rw [hst] at hpre
          gi_wp2
          go_roundw
          case rel => exact ⟨k + 1, q, pre, by omega, rfl, by simp, hpre, hJ⟩
          case measure => simp [intOf]; omega
      · obtain rfl : k = s.size := by omega
        by_cases hq : q < s.size
        · have hst := Tryd.namesB h1 (fun h => absurd h h2) hq
          rw [hst] at hpre
          obtain ⟨fn, tmps, assign, body, hy, hR⟩ := hY pre _ _ wr hpre hJ
          unfold Tryd.encN at hy
          dsimp only at hy
          gi_wp2
          refine ⟨rfl, hR.mono ?_⟩
          rintro e W3 (⟨rfl, hJ3⟩ | ⟨rfl, hJx3⟩)
          · gi_wp2
            go_roundw
            case rel => exact ⟨s.size + 1, s.size + 1, pre ++ [_], by omega, by simp, by simp, by rw [List.append_assoc]; exact hpre, hJ3⟩
            case measure => simp [intOf]
          · gi_wp2
            refine bodyPost_ret (results_none rfl _ _ _) rfl ?_
            exact ⟨⟨_, rfl⟩, .inr ⟨_, _, by rw [List.append_assoc]; exact hpre, hJx3⟩⟩
        · have hst := Tryd.namesC h1 (fun h => absurd h h2) hq
          rw [hst] at hpre
          gi_wp2
          refine ⟨fun f h => (by cases h), ?_⟩
          gi_wp2
          go_roundw
          case rel => exact ⟨s.size + 1, s.size + 1, pre, by omega, by simp, by simp, hpre, hJ⟩
          case measure => simp [intOf]
    · gi_wp2
      go_end0
      have e : s.size + 1 - k = 0 := by omega
      rw [e] at hpre
      have hp : Tryd.goNames s = pre := by rw [hpre]; simp [Tryd.goNamesF]
      exact ⟨⟨_, rfl⟩, .inl (by rw [hp]; exact hJ)⟩
theorem Tryd.itN_ok : ItOK Tryd.prog 42 Tryd.encN Tryd.itN := by
  refine ⟨⟨_, Tryd.func42, by kernel_rfl, by kernel_rfl⟩, ?_⟩
  intro caps xs hit w ok B lb hlt hsz hrep l J Jx hJg hJxg hk hY h0
  unfold Tryd.itN at hit
  split at hit
  · rename_i s
    injection hit with hit; injection hit with hle hit; subst hit
    have hle := Nat.le_of_ble_eq_true hle
    have hr := hrep 0 (by simp)
    obtain ⟨v, rfl⟩ : ∃ v, lb = #[v] := by
      obtain ⟨v, hv⟩ := Array.size_eq_one_iff.1 (by simpa using hsz)
      exact ⟨v, hv⟩
    have hr : Rep w ok B (fun _ => none) (.rp (.agg [.v (.string s)]) 0) v := hr
    cases hr with
    | rp val g1 g2 g3 =>
      rename_i b o
      have hv : Value.string s = val 0 := (rep_v_inv (g3 0 (by simp [AV.cells]))).symm
      have hc := g2 0 (by simp [AV.cells])
      rw [← hv] at hc
      have := callsIn_wide.1 (Tryd.names_in l b (o + 0) s w ok g1 hle J Jx hk hY hc h0)
      exact this
  · cases hit
end Go.Proofs

