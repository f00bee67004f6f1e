/- What the functions of the library compute, as the kit has proved it, in the words of the evaluator. -/
import Derived.Test.YtcblodlmddeamaaDoorEv4
import Derived.Test.YtcblodlmddeamaaDoorShelf
import Derived.Shelf.Vars
import Derived.Lib.Strings
import Derived.Lib.Slices
import Derived.Lib.Walk
import Derived.Lib.Builder
import Derived.Lib.AppendStr
import Derived.Lib.UnsafeStr
import Derived.Lib.MakeNoZero
import Derived.WalkKit
import Derived.Laws.Externs
import Derived.Laws.IdiomCopy
import Derived.Laws.BitsLemmas
namespace Go.Proofs.Tryd
open Go Go.Ev
theorem lib40 : LibOK Tryd.prog 40 spCut := by
  intro args v w h hs
  unfold spCut at h
  split at h
  · rename_i s sep
    injection h with h; injection h with h1 h2; subst h2
    obtain ⟨m, hm⟩ := hs 0 (by decide)
    refine (Any.strings_Cut Tryd.lays145 s sep m w (of_decide_eq_true h1) hm).mono fun e w' ⟨g1, n, g2⟩ => ⟨g1, ?_⟩
    subst g2; exact ⟨rfl, rfl, rfl, Nat.le_refl _, fun _ _ => rfl⟩
  · cases h
def cntA (s sep : ByteArray) : Int := ((Lib.countB s sep : Nat) : Int)
def idxA (s sep : ByteArray) : Int := Lib.index s.data.toList sep.data.toList
def spCount : LSpec
  | [.string s, .string sep] => some (decide (s.size < 4294967281) && decide (1 ≤ sep.size), .int .i64 (cntA s sep))
  | _ => none
def spIndex : LSpec
  | [.string s, .string sep] => some (decide (s.size < 4294967281), .int .i64 (idxA s sep))
  | _ => none
theorem lib53 : LibOK Tryd.prog 53 spCount := by
  intro args v w h hs
  unfold spCount at h
  split at h
  · rename_i s sep
    injection h with h; injection h with h1 h2; subst h2
    rw [Bool.and_eq_true] at h1
    obtain ⟨m, hm⟩ := hs 0 (by decide)
    refine (Any.strings_Count_any Tryd.lays138 s sep m w (of_decide_eq_true h1.1) hm (of_decide_eq_true h1.2)).mono fun e w' ⟨g1, g2⟩ => ⟨g1, ?_⟩
    subst g2; exact ⟨rfl, rfl, rfl, Nat.le_refl _, fun _ _ => rfl⟩
  · cases h
theorem lib55 : LibOK Tryd.prog 55 spIndex := by
  intro args v w h hs
  unfold spIndex at h
  split at h
  · rename_i s sep
    injection h with h; injection h with h1 h2; subst h2
    obtain ⟨m, hm⟩ := hs 0 (by decide)
    refine (Any.strings_Index Tryd.lays143 s sep m w (of_decide_eq_true h1) hm).mono fun e w' ⟨g1, g2⟩ => ⟨g1, ?_⟩
    subst g2; exact ⟨rfl, rfl, rfl, Nat.le_refl _, fun _ _ => rfl⟩
  · cases h
/-! ### strings.Builder -/
set_option maxHeartbeats 1000000
set_option maxRecDepth 100000
theorem bcopy : CopyOK Tryd.prog 67 100 where
  used := by
    intro b w h0
    have hsz : (Tryd.prog.info? 100).map (·.size) = some 2 := by kernel_rfl
    obtain ⟨j, hj, _⟩ := Option.map_eq_some_iff.1 hsz
    go_enter Tryd.func67, Tryd.ntmps67
    go_wp2
    rw [Lib.run_neq_ptr_same w _ Tryd.underlying98 hj]
    go_wp2
    go_end0
    exact ⟨rfl, rfl⟩
  fresh := by
    intro b w h0 hsh hfz
    have hsz : (Tryd.prog.info? 100).map (·.size) = some 2 := by kernel_rfl
    have hlies : liesAt Tryd.prog Tryd.prog.depth 100 (2 / Tryd.prog.cellsOf 100) 0 100 1 = true := by kernel_rfl
    obtain ⟨j, hj, hjs⟩ := Option.map_eq_some_iff.1 hsz
    go_enter Tryd.func67, Tryd.ntmps67
    go_wp2
    rw [Lib.run_to_unsafe w ⟨b, 0, none⟩ Tryd.underlying98 Tryd.underlying122 hj (by rw [hjs]; decide) hsh (Nat.zero_lt_succ 1)]
    simp only [Result.andThen]
    rw [Oper.upon_value]
    go_wp2
    rw [run_callFunc_extern Tryd.func76 (by kernel_rfl) (by kernel_rfl) (by kernel_rfl) (e := Extern.AbiNoEscape.same) (by kernel_rfl)]
    rw [Lib.run_noEscape]
    simp only [Result.andThen]
    rw [Oper.upon_value]
    go_wp2
    rw [Lib.run_from_unsafe w ⟨b, 0, none⟩ Tryd.underlying122 Tryd.underlying98 hj hsh hlies]
    simp only [Result.andThen]
    rw [Oper.upon_value]
    go_wp2
    go_end0
    exact ⟨rfl, rfl⟩
theorem bstr : StrOK Tryd.prog 58 where
  row := by
    intro b g o cap cells l w h0 hc1 hcap hsh hn h63 hcell
    have c1 : w.drew.cell? ⟨b, 1, none⟩ = some (.slice (some ⟨g, o, none⟩) l.length cap) := hc1
    have hSD : (Builtin.unsafeSliceData_ #[22] 117 #[.slice (some ⟨g, o, none⟩) l.length cap]).run Tryd.prog w.drew = .ok (.pointer (some ⟨g, o, none⟩)) w.drew := Lib.run_unsafeSliceData_row _ _ _ _ _ _ hcap
    have hUS : (Builtin.unsafeString_ #[117, 3] 9 #[.pointer (some ⟨g, o, none⟩), .int .i64 l.length]).run Tryd.prog w.drew = .ok (.string (strOf l)) (w.drew.freeze ⟨g, o, none⟩ l.length) :=
      run_unsafeStringI w.drew 117 3 9 5 Tryd.underlying117 (by kernel_rfl) g o cells hsh l h0 hn h63 hcell
    clear hcell
    go_enter Tryd.func58, Tryd.ntmps58
    go_wp2
    go_region
    all_goals (go_wp2; go_ret; exact ⟨rfl, rfl⟩)
  room := by
    intro b a cap w hc1 hcap
    have c1 : w.drew.cell? ⟨b, 1, none⟩ = some (.slice (some a) 0 cap) := hc1
    have hSD : (Builtin.unsafeSliceData_ #[22] 117 #[.slice (some a) 0 cap]).run Tryd.prog w.drew = .ok (.pointer (some a)) w.drew := Lib.run_unsafeSliceData_row _ _ _ _ _ _ hcap
    have hUS : (Builtin.unsafeString_ #[117, 3] 9 #[.pointer (some a), .int .i64 0]).run Tryd.prog w.drew = .ok (.string .empty) w.drew := Lib.run_unsafeString_none w.drew 117 3 9 (some a)
    go_enter Tryd.func58, Tryd.ntmps58
    go_wp2
    go_region
    all_goals (go_wp2; go_ret; exact ⟨rfl, rfl⟩)
  nil := by
    intro b w hc1
    have c1 : w.drew.cell? ⟨b, 1, none⟩ = some (.slice none 0 0) := hc1
    have hSD : (Builtin.unsafeSliceData_ #[22] 117 #[.slice none 0 0]).run Tryd.prog w.drew = .ok (.pointer none) w.drew := rfl
    have hUS : (Builtin.unsafeString_ #[117, 3] 9 #[.pointer none, .int .i64 0]).run Tryd.prog w.drew = .ok (.string .empty) w.drew := Lib.run_unsafeString_none w.drew 117 3 9 none
    go_enter Tryd.func58, Tryd.ntmps58
    go_wp2
    go_region
    all_goals (go_wp2; go_ret; exact ⟨rfl, rfl⟩)
theorem lib67 {R : Type} : CFOK (R := R) Tryd.prog 67 (cfCopy 100) := cfCopy_ok bcopy
theorem lib58 {R : Type} : CFOK (R := R) Tryd.prog 58 cfBStr := cfBStr_ok bstr
theorem bgrow : GrowOK Tryd.prog 68 100 where
  grow := by
    intro b n w p hbk hn
    obtain ⟨cs, hrun, hle, hbytes⟩ := run_makeNoZeroX (P := Tryd.prog) w.drew #[3] 22 5 Tryd.underlying22 n hn
    have hw : IntKind.i64.wrap (IntKind.i64.wrap 0 + (n : Int)) = n := by
      rw [IntKind.wrap_i64, IntKind.wrap_i64]
      omega
    have hcall : (callFunc 77 #[.int .i64 (IntKind.i64.wrap (IntKind.i64.wrap 0 + (n : Int)))]).run Tryd.prog w.drew = .ok (.value (.slice (some ⟨w.drew.heap.size, 0, none⟩) n cs.size)) (w.drew.drew.drew.alloc (.cells cs 5)) := by
      rw [hw, run_callFunc_extern Tryd.func77 (by kernel_rfl) (by kernel_rfl) (by kernel_rfl) (e := Extern.BytealgMakeNoZero.makeNoZero #[3] #[22]) (by kernel_rfl), hrun]
      rfl
    have c1 : w.drew.cell? ⟨b, 1, none⟩ = some (.slice none 0 0) := by
      have : w.drew.heap[b]? = _ := hbk
      rw [Lib.cell_of_heap this]; rfl
    have hlt : b < w.heap.size := by
      rcases Nat.lt_or_ge b w.heap.size with h' | h'
      · exact h'
      · simp [Array.getElem?_eq_none h'] at hbk
    have c2 : (w.alloc (.cells cs 5)).cell? ⟨b, 1, none⟩ = some (.slice none 0 0) := by
      have : (w.alloc (.cells cs 5)).heap[b]? = _ := (Lib.alloc_old w _ b hlt).trans hbk
      rw [Lib.cell_of_heap this]; rfl
    have f2 : (w.alloc (.cells cs 5)).frozen? ⟨b, 1, none⟩ = false := Lib.frozen_of_heap ((Lib.alloc_old w _ b hlt).trans hbk) 1
    have hsz5 : (Tryd.prog.info? 5).map (·.size) = some 1 := by kernel_rfl
    have hcopy : ∀ W : World, (Builtin.copy_ #[22, 22] 3 #[.slice (some ⟨w.heap.size, 0, none⟩) 0 cs.size, .slice none 0 0]).run Tryd.prog W = .ok (goInt 0) W :=
      fun W => run_copy_none W 22 22 3 5 _ _ 0 cs.size 0 0 Tryd.underlying22 hsz5 rfl
    clear hw hbytes
    go_enter Tryd.func68, Tryd.ntmps68
    go_wp2
    go_region
    all_goals (go_wp2; go_end0; exact ⟨rfl, cs, hle, rfl⟩)
theorem lib68 {R : Type} : CFOK (R := R) Tryd.prog 68 (cfGrow 100) := cfGrow_ok bgrow
end Go.Proofs.Tryd
namespace Go.Proofs
theorem Tryd.shpW (w : Go.World) (h : w.ShapedOpen Tryd.prog) : Go.Ev.ShpW w := by
  intro g hg
  obtain rfl : g = 0 := by simpa [Go.Ev.shpList] using hg
  exact cell_of_shapedOpen_int h (by decide +kernel) (t := 3) (zero := #[.int .i64 0]) (by kernel_rfl) rfl (by kernel_rfl) (by kernel_rfl) Tryd.underlying3
end Go.Proofs

