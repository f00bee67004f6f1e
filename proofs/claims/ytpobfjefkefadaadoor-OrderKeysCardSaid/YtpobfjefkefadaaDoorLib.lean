/- What the functions of the library compute, as the kit has proved it, in the words of the evaluator. -/
import Derived.Test.YtpobfjefkefadaaDoorEv5
import Derived.Test.YtpobfjefkefadaaDoorProg
import Derived.Shelf.Vars
import Derived.Shelf.Abstract
import Derived.Laws.BitsLemmas
import Derived.Lib.Slices
import Derived.Lib.Walk
import Derived.WalkKit
import Derived.Laws.Externs
import Derived.RangeFuncBox
import Derived.RangeFuncLeaves
import Derived.OwnWalkIn
import Derived.TacticsInMore
import Derived.LoopNIn
import Derived.LoopIn
import Derived.BigGuardIn
namespace Go.Proofs.Tryd
open Go Go.Ev
abbrev KeyT := Int × Int × Int × Int × Int
def keyOf (c : Int) (x : AV) : KeyT := ((x.cell 0).int!, (x.cell 1).int!, (x.cell 2).int!, (x.cell 3).int!, bif (x.cell 4).int! == 0 then c else (x.cell 4).int!)
/-- the keys, one by one, with their flags -/
def goKeys (l : List AV) (c : Int) : List KeyT := l.map (keyOf c)
def encK (e : KeyT) : Array Value := #[.agg #[.int .i64 e.1, .int .i64 e.2.1, .int .i64 e.2.2.1, .int .i64 e.2.2.2.1, .int .i64 e.2.2.2.2]]
def encKA (e : KeyT) : List AV := [.agg [.v (.int .i64 e.1), .v (.int .i64 e.2.1), .v (.int .i64 e.2.2.1), .v (.int .i64 e.2.2.2.1), .v (.int .i64 e.2.2.2.2)]]
def itK : List AV → Option (Bool × List KeyT)
  | [.rp (.agg [.ro _ (.A (.agg [.int .i64, .int .i64, .int .i64, .int .i64, .int .i64]) 5 l)]) 0, .rp (.agg [.v (.int .i64 c)]) 0] => some (Nat.ble l.length 4611686018427387904 && Nat.ble 1 l.length, goKeys l c)
  | _ => none
theorem encK_ok : ∀ e w ok B ι, (encKA e).length = (encK e).size ∧ ∀ i, i < (encKA e).length → Rep w ok B ι ((encKA e).getD i default) ((encK e).getD i undef) := by
  intro e w ok B ι
  refine ⟨rfl, fun i hi => ?_⟩
  match i, hi with
  | 0, _ =>
    refine .agg rfl (fun i hi => ?_)
    match i, hi with
    | 0, _ => exact .v _
    | 1, _ => exact .v _
    | 2, _ => exact .v _
    | 3, _ => exact .v _
    | 4, _ => exact .v _
end Go.Proofs.Tryd
namespace Go.Proofs
open Go Go.Ev Go.RowKit
set_option maxRecDepth 100000 in
set_option maxHeartbeats 4000000 in
theorem Tryd.keys_in (l b1 o1 b2 o2 : Nat) (x : List AV) (c : Int) (pa : Addr) (n cp : Nat) (f : Nat → Nat → Int) (w : World) (ok : Nat → Prop) (hb2 : ok b2) (hbr : 0 < n → ok pa.block) (hsp : pa.spot = none) (hn : n = x.length) (hcp : n ≤ cp)
    (hf : ∀ i, i < n → Tryd.keyOf c (x.getD i default) = (f i 0, f i 1, f i 2, f i 3, bif f i 4 == 0 then c else f i 4))
    (hcells : ∀ i j, i < n → j < 5 → w.cell? ⟨pa.block, pa.off + (i * 5 + j), none⟩ = some (.int .i64 (f i j)))
    (hlen : n ≤ 4611686018427387904) (J Jx : List Tryd.KeyT → World → Prop) (hJg : ∀ pre A A', J pre A → Go.Ev.Grown A A' → J pre A')
    (hk : ∀ pre W, J pre W → ∀ b, ok b → W.heap[b]? = w.heap[b]?)
    (hY : ∀ pre e post W, Tryd.goKeys x c = pre ++ e :: post → J pre W → YieldAt Fence.wide 0 Tryd.prog l (Tryd.encK e) W fun r W' => (r = .returned (.bool true) ∧ J (pre ++ [e]) W') ∨ (r = .returned (.bool false) ∧ Jx (pre ++ [e]) W'))
    (hc1 : w.cell? ⟨b1, o1, none⟩ = some (.slice (some pa) n cp)) (hc2 : w.cell? ⟨b2, o2, none⟩ = some (.int .i64 c)) (h0 : J [] w) :
    CallsIn Fence.wide 0 Tryd.prog 82 #[.func (.yield l) #[] #[], .pointer (some ⟨b1, o1, none⟩), .pointer (some ⟨b2, o2, none⟩)] w fun r W' => (∃ v, r = .returned v) ∧ (J (Tryd.goKeys x c) W' ∨ ∃ pre post, Tryd.goKeys x c = pre ++ post ∧ Jx pre W') := by
  refine callsIn_of_wp Tryd.func82 rfl trivial ?_ rfl
  simp only [Tryd.ntmps82, List.size_toArray, List.length_cons, List.length_nil, Nat.reduceAdd, Nat.reduceSub, Array.replicate_succ, Array.replicate_zero, List.push_toArray, List.append_toArray, List.nil_append, List.cons_append]
  gi_wp2
  subst hn
  obtain ⟨pb, po, ps⟩ := pa
  have hsp : ps = none := hsp
  subst hsp
  gi_loopw [8] (fun i wr => ∃ (k : Nat) (pre : List Tryd.KeyT), k ≤ x.length ∧ i = .int .i64 (k : Int) ∧ Tryd.goKeys x c = pre ++ Tryd.goKeys (x.drop k) c ∧ J pre wr)
    (fun i _ => x.length - (intOf i).toNat)
  case atStart => exact ⟨0, [], Nat.zero_le _, rfl, rfl, h0⟩
  case round =>
    obtain ⟨k, pre, hk1, rfl, hpre, hJ⟩ := hrel
    by_cases h1 : k < x.length
    · have hcell : ∀ j, j < 5 → wr.cell? ⟨pb, po + k * 5 + j, none⟩ = some (.int .i64 (f k j)) := fun j hj => by
        rw [Nat.add_assoc]
        exact (cell_of_heap (a := ⟨pb, po + (k * 5 + j), none⟩) (hk pre wr hJ pb (hbr (by omega)))).trans (hcells k j h1 hj)
      have d0 : wr.cell? ⟨pb, po + k * 5, none⟩ = some (.int .i64 (f k 0)) := hcell 0 (by decide)
      have d1 := hcell 1 (by decide)
      have d2 := hcell 2 (by decide)
      have d3 := hcell 3 (by decide)
      have d4 := hcell 4 (by decide)
      have hcc : wr.cell? ⟨b2, o2, none⟩ = some (.int .i64 c) := (cell_of_heap (a := ⟨b2, o2, none⟩) (hk pre wr hJ b2 hb2)).trans hc2
      have hlt : b2 < wr.heap.size := by
        rcases Nat.lt_or_ge b2 wr.heap.size with h' | h'
        · exact h'
        · unfold World.cell? at hcc; simp [Array.getElem?_eq_none h'] at hcc
      have hccA : ∀ o : Obj, (wr.alloc o).cell? ⟨b2, o2, none⟩ = some (.int .i64 c) := fun o => (cell_of_heap (a := ⟨b2, o2, none⟩) (Go.Ev.heap_alloc_old hlt)).trans hcc
      have hkey := hf k h1
      have hdrop : x.drop k = x.getD k default :: x.drop (k + 1) := by
        rw [List.drop_eq_getElem_cons h1, List.getD_eq_getElem?_getD, List.getElem?_eq_getElem h1]; rfl
      have hpre : Tryd.goKeys x c = pre ++ Tryd.keyOf c (x.getD k default) :: Tryd.goKeys (x.drop (k + 1)) c := by
        rw [hdrop] at hpre; exact hpre
      rw [hkey] at hpre
      clear hf hcells hcell hkey hdrop
      generalize f k 0 = v0 at *
      generalize f k 1 = v1 at *
      generalize f k 2 = v2 at *
      generalize f k 3 = v3 at *
      generalize f k 4 = v4 at *
      have hgr : ∀ o : Obj, Go.Ev.Grown wr (wr.alloc o) := fun o => ⟨rfl, rfl, rfl, by simp, fun b hb => Go.Ev.heap_alloc_old hb⟩
      by_cases h4 : v4 = 0
      · subst h4
        have hpre : Tryd.goKeys x c = pre ++ (v0, v1, v2, v3, c) :: Tryd.goKeys (x.drop (k + 1)) c := hpre
        obtain ⟨fn, tmps, assign, body, hy, hR⟩ := hY pre _ _ (wr.alloc (.cells #[.int .i64 v0, .int .i64 v1, .int .i64 v2, .int .i64 v3, .int .i64 c] 24)) hpre (hJg pre _ _ hJ (hgr _))
        unfold Tryd.encK at hy
        dsimp only at hy
        gi_wp2
        refine ⟨rfl, hR.mono ?_⟩
        rintro e W3 (⟨rfl, hJ3⟩ | ⟨rfl, hJx3⟩)
        · gi_wp2
          go_roundw
          case rel => exact ⟨k + 1, pre ++ [_], by omega, by simp, by rw [List.append_assoc]; exact hpre, hJ3⟩
          case measure => simp [intOf]; omega
        · gi_wp2
          refine bodyPost_ret (results_none rfl _ _ _) rfl ?_
          exact ⟨⟨_, rfl⟩, .inr ⟨_, _, by rw [List.append_assoc]; exact hpre, hJx3⟩⟩
      · have hb4 : (v4 == 0) = false := by simpa using h4
        rw [hb4] at hpre
        have hpre : Tryd.goKeys x c = pre ++ (v0, v1, v2, v3, v4) :: Tryd.goKeys (x.drop (k + 1)) c := hpre
        obtain ⟨fn, tmps, assign, body, hy, hR⟩ := hY pre _ _ (wr.alloc (.cells #[.int .i64 v0, .int .i64 v1, .int .i64 v2, .int .i64 v3, .int .i64 v4] 24)) hpre (hJg pre _ _ hJ (hgr _))
        unfold Tryd.encK at hy
        dsimp only at hy
        gi_wp2
        refine ⟨rfl, hR.mono ?_⟩
        rintro e W3 (⟨rfl, hJ3⟩ | ⟨rfl, hJx3⟩)
        · gi_wp2
          go_roundw
          case rel => exact ⟨k + 1, pre ++ [_], by omega, by simp, by rw [List.append_assoc]; exact hpre, hJ3⟩
          case measure => simp [intOf]; omega
        · gi_wp2
          refine bodyPost_ret (results_none rfl _ _ _) rfl ?_
          exact ⟨⟨_, rfl⟩, .inr ⟨_, _, by rw [List.append_assoc]; exact hpre, hJx3⟩⟩
    · gi_wp2
      go_end0
      have e : k = x.length := by omega
      subst e
      exact ⟨⟨_, rfl⟩, .inl (by rw [List.drop_length]; simpa [Tryd.goKeys] using hJ)⟩
theorem Tryd.itK_ok : ItOK Tryd.prog 82 Tryd.encK Tryd.itK := by
  refine ⟨⟨_, Tryd.func82, by kernel_rfl, by kernel_rfl⟩, ?_⟩
  intro caps xs hit w ok B lb hlt hsz hrep l J Jx hJg hJxg hk hY h0
  unfold Tryd.itK at hit
  split at hit
  · rename_i nw x c
    injection hit with hit; injection hit with hle hit; subst hit
    rw [Bool.and_eq_true] at hle
    have hne := Nat.le_of_ble_eq_true hle.2
    have hle := Nat.le_of_ble_eq_true hle.1
    obtain ⟨v, u, rfl⟩ : ∃ v u, lb = #[v, u] := by
      obtain ⟨l⟩ := lb
      match l, hsz with
      | [v, u], _ => exact ⟨v, u, rfl⟩
    have hr1 := hrep 0 (by simp)
    have hr2 := hrep 1 (by simp)
    have hr1 : Rep w ok B (fun _ => none) (.rp (.agg [.ro nw (.A (.agg [.int .i64, .int .i64, .int .i64, .int .i64, .int .i64]) 5 x)]) 0) v := hr1
    have hr2 : Rep w ok B (fun _ => none) (.rp (.agg [.v (.int .i64 c)]) 0) u := hr2
    cases hr1 with
    | rp val g1 g2 g3 =>
      rename_i b1 o1
      cases hr2 with
      | rp val2 k1 k2 k3 =>
        rename_i b2 o2
        have hc2 := k2 0 (by simp [AV.cells])
        have e2 : val2 0 = .int .i64 c := rep_v_inv (k3 0 (by simp [AV.cells]))
        rw [e2] at hc2
        have hc1 := g2 0 (by simp [AV.cells])
        have hro : Rep w ok B (fun _ => none) (.ro nw (.A (.agg [.int .i64, .int .i64, .int .i64, .int .i64, .int .i64]) 5 x)) (val 0) := g3 0 (by simp [AV.cells])
        have key : ∀ (pa : Addr) (n cp : Nat) (f : Nat → Nat → Int), val 0 = .slice (some pa) n cp → (0 < n → ok pa.block) → pa.spot = none → n = x.length → n ≤ cp →
            (∀ i, i < n → Tryd.keyOf c (x.getD i default) = (f i 0, f i 1, f i 2, f i 3, bif f i 4 == 0 then c else f i 4)) →
            (∀ i j, i < n → j < 5 → w.cell? ⟨pa.block, pa.off + (i * 5 + j), none⟩ = some (.int .i64 (f i j))) → Calls Tryd.prog 82 (#[.func (.yield l) #[] #[]] ++ #[.pointer (some ⟨b1, o1 + 0, none⟩), .pointer (some ⟨b2, o2 + 0, none⟩)]) w
              fun r W' => (∃ v, r = .returned v) ∧ (J (Tryd.goKeys x c) W' ∨ ∃ pre post, Tryd.goKeys x c = pre ++ post ∧ Jx pre W') := by
          intro pa n cp f hv hb hsp hn hcp hf hcells
          rw [hv] at hc1
          exact callsIn_wide.1 (Tryd.keys_in l b1 (o1 + 0) b2 (o2 + 0) x c pa n cp f w ok k1 hb hsp hn hcp hf hcells (by omega) J Jx hJg hk hY hc1 hc2 h0)
        generalize hvv : val 0 = vv at hro
        cases hro with
        | ro vals q1 q2 q3 q4 q5 q6 q7 q8 q9 =>
          rename_i a n cp
          refine key a n cp (fun i j => (((x.getD i default).cell j).int!)) hvv (fun _ => q4) q6 q1 q3 (fun i hi => rfl) (fun i j hi hj => ?_)
          have h7 := q7 i j hi hj
          have h8 := q8 i j hi hj
          rw [show (a.off + (i * 5 + j)) = (a.off + (i * (Lst.A (.agg [.int .i64, .int .i64, .int .i64, .int .i64, .int .i64]) 5 x).sz + j)) from rfl, h7]
          have e : ((Lst.A (.agg [.int .i64, .int .i64, .int .i64, .int .i64, .int .i64]) 5 x).elem i).cell j = .v (.int .i64 (((x.getD i default).cell j).int!)) := by
            match j, hj with
            | 0, _ => rfl
            | 1, _ => rfl
            | 2, _ => rfl
            | 3, _ => rfl
            | 4, _ => rfl
          rw [e] at h8
          rw [rep_v_inv h8]
        | ro0 q1 q2 =>
          have : (Lst.A (.agg [.int .i64, .int .i64, .int .i64, .int .i64, .int .i64]) 5 x).length = x.length := rfl
          omega
  · cases hit
end Go.Proofs
namespace Go.Proofs
theorem Tryd.shpW (w : Go.World) (h : w.ShapedOpen Tryd.prog) : Go.Ev.ShpW w := by
  intro g hg
  obtain rfl : g = 0 := by simpa [Go.Ev.shpList] using hg
  exact cell_of_shapedOpen_int h (by decide +kernel) (t := 3) (zero := #[.int .i64 0]) (by kernel_rfl) rfl (by kernel_rfl) (by kernel_rfl) Tryd.underlying3
end Go.Proofs
namespace Go.Proofs.Tryd
open Go Go.Ev
def its16 : Its := fun f => bif Nat.beq f 82 then some (fun caps => match itK caps with
  | some p => some (p.1, p.2.map encKA)
  | none => none) else none
theorem its16_ok : ItsOK Tryd.prog its16 := by
  intro f it h
  unfold its16 at h
  cases hf : Nat.beq f 82 <;> rw [hf] at h
  · cases h
  · have hf := Nat.eq_of_beq_eq_true hf
    subst hf
    injection h with h; subst h
    refine ⟨KeyT, encK, encKA, itK, Tryd.itK_ok, encK_ok, fun caps xs h => ?_⟩
    simp only at h
    split at h
    · rename_i p hp
      injection h with h; injection h with h1 h2
      exact ⟨p.2, by rw [hp]; exact congrArg some (Prod.ext h1 rfl), h2.symm⟩
    · cases h
set_option maxRecDepth 1000000 in
theorem awake_run : (inO Tryd.prog 1000 (fun _ E => E) (fun _ => noO) its16 14 Value 12).bind (fun cf => cf [] ⟨0, 0, [], [], [], []⟩ endV) = some (.bool true) := by kernel_rfl
theorem awake_lib : LibOK Tryd.prog 12 (spConst (.bool true)) := by
  obtain ⟨cf, ho, h⟩ := Option.bind_eq_some_iff.1 awake_run
  exact closed_ok (inO_ok (fun R => OOK.nil) its16_ok 14 Value 12 cf ho).2 h
theorem lib12 {R : Type} : CFOK (R := R) Tryd.prog 12 (cfLib (spConst (.bool true))) := cfLib_ok awake_lib
end Go.Proofs.Tryd

