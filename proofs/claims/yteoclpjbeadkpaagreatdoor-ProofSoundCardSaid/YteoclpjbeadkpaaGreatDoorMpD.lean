/- The texts SeWalk1 SeWalk2 RfTree RfCheck PfMsg SeDigits SeOdd SeLoop SeRound SeVerify SeSign, merged: walks and plain laws that the statements of layer 44 use. -/
import Derived.Test.YteoclpjbeadkpaaGreatDoorMpC
import Derived.Test.YteoclpjbeadkpaaGreatDoorMpA
import Derived.RangeFuncNested
import Derived.RangeFuncBound
import Derived.RangeFuncCalls
import Derived.RangeFuncLeaves
import Derived.RangeFuncBox
import Derived.Shelf.Abstract
import Derived.OwnWalkIn
import Derived.TacticsInMore
import Derived.LoopNIn
import Derived.LoopIn
import Derived.RangeFuncWrites
import Derived.Maps.AppendAt
import Derived.Deep.RegionHeld3
import Derived.Deep.QuietTactic
import Derived.BigQuiet
set_option linter.unusedSimpArgs false
set_option linter.unusedVariables false
/- WALKS: seal's of, start, key, keys and Public at height 0. -/
namespace Go.Proofs.YteoclpjbeadkpaaGreatDoor
open Go.RowKit

theorem of_any (ss : List (List UInt8)) (v : Value) (x : List UInt8) (w : World) (ht : Tab w) (hv : HasStrs w v ss) (hJ : (Dg.joinL ss).length ≤ 140737488355328) (hx : Hid (Dg.listL ss = x)) :
    Calls Tryz.prog 80 #[v] w fun e w' => e = .returned (.string ⟨x.toArray⟩) ∧ Below w.heap.size w w' := by
  have C := Lib.hid (listC ss v x w ht hv hJ hx)
  obtain ⟨a, c, rfl⟩ := hv.shape
  go_enter Tryz.func80, Tryz.ntmps80
  go_wp2_with fail
  refine C.out.mono ?_
  rintro e w1 ⟨rfl, c1⟩
  go_wp2_with fail
  go_ret
  exact ⟨rfl, c1⟩

set_option maxHeartbeats 400000 in
theorem start_any (secret : List UInt8) (i k : Nat) (x : List UInt8) (w : World) (ht : Tab w) (hs : secret.length ≤ 35184372088832) (hi : i ≤ 1000000) (hk : k ≤ 1000000) (hx : Hid (Se.startL secret i k = x)) :
    Calls Tryz.prog 101 #[.string ⟨secret.toArray⟩, .int .i64 (i : Int), .int .i64 (k : Int)] w fun e w' => e = .returned (.string ⟨x.toArray⟩) ∧ Below w.heap.size w w' := by
  have hJ : (Dg.joinL [secret, Dg.decN i, Dg.decN k]).length ≤ 140737488355328 := by
    have := joinL_three secret (Dg.decN i) (Dg.decN k)
    have := Dg.decN_length i; have := Dg.decN_length k
    omega
  have C := Lib.hid (fun W (bW : Below w.heap.size w W) => of_any [secret, Dg.decN i, Dg.decN k] _ x _ (ht.below (below_next bW ((Below.refl _ _).alloc (Nat.le_refl _) _)) (Nat.le_refl _)) (hasStrs_alloc W [secret, Dg.decN i, Dg.decN k] 3 (by simp)) hJ hx)
  clear hJ hx
  go_enter Tryz.func101, Tryz.ntmps101
  go_wp2_with fail
  refine (itoa_any i (by omega) _ ht).mono ?_
  rintro e w1 ⟨rfl, c1⟩
  go_wp2_with fail
  refine (itoa_any k (by omega) _ (ht.below c1 (Nat.le_refl _))).mono ?_
  rintro e w2 ⟨rfl, c2⟩
  have b2 := below_next c1 c2
  go_wp2_with fail
  refine (C.out _ b2).mono ?_
  rintro e w3 ⟨rfl, c3⟩
  have b3 := below_next (below_next b2 ((Below.refl _ _).alloc (Nat.le_refl _) _)) c3
  go_wp2_with fail
  go_ret
  exact ⟨rfl, b3⟩

theorem endL_length (secret : List UInt8) (i k : Nat) : (Se.endL secret i k).length = 16 := by
  unfold Se.endL; rw [Dg.chainL_succ]; exact Dg.sumL_length _
theorem joinL_ends (f : Nat → List UInt8) (h : ∀ k, (f k).length ≤ 100) (l : List Nat) : (Dg.joinL (l.map f)).length ≤ l.length * 121 := by
  induction l with
  | nil => simp [Dg.joinL]
  | cons a r ih =>
    have := (Dg.item_length (f a)).2
    have := h a
    rw [List.map_cons, Dg.joinL, List.length_append, List.length_cons]; omega
theorem map_range_snoc (f : Nat → List UInt8) (k : Nat) : (List.range (k + 1)).map f = (List.range k).map f ++ [f k] := by
  rw [List.range_succ, List.map_append]; rfl

set_option maxHeartbeats 1000000 in
set_option maxRecDepth 100000 in
theorem key_any (secret : List UInt8) (i : Nat) (x : List UInt8) (w : World) (ht : Tab w) (hs : secret.length ≤ 35184372088832) (hi : i ≤ 1000000) (hx : Hid (Se.keyL secret i = x)) :
    Calls Tryz.prog 132 #[.string ⟨secret.toArray⟩, .int .i64 (i : Int)] w fun e w' => e = .returned (.string ⟨x.toArray⟩) ∧ Below w.heap.size w w' := by
  go_enter Tryz.func132, Tryz.ntmps132
  go_wp2_with fail
  go_loopw [5, 7] (fun v c wr => ∃ k : Nat, k ≤ 18 ∧ c = .int .i64 k ∧ OwnS w.heap.size wr v ((List.range k).map (Se.endL secret i)) ∧ Below w.heap.size w wr) (fun _ c _ => 18 - (intOf c).toNat)
  case atStart => exact ⟨0, by omega, rfl, OwnS.nil _ _, Below.refl _ _⟩
  case round =>
    obtain ⟨k, hk, rfl, hown, hb⟩ := hrel
    obtain ⟨oa, oc, rfl⟩ := hown.shape
    have hl : ((List.range k).map (Se.endL secret i)).length = k := by simp
    by_cases hkl : k < 18
    · have he := map_range_snoc (Se.endL secret i) k
      obtain ⟨s, hs1⟩ : ∃ s, Hid (Se.startL secret i k = s) := ⟨_, rfl⟩
      have hsl : s.length ≤ 140737488355328 := by rw [← hs1.out]; unfold Se.startL Dg.listL; rw [Dg.sumL_length]; decide
      obtain ⟨y, hy⟩ : ∃ y, Hid (Se.endL secret i k = y) := ⟨_, rfl⟩
      have hch : Hid (Dg.chainL (max 0 (min (15 : Int) 1000)).toNat s = y) := by unfold Hid; rw [← hy.out, ← hs1.out]; rfl
      rw [hy.out] at he
      have HE := Lib.hid he
      have htw := ht.below hb (Nat.le_refl _)
      have hsz := hb.size
      have CS := Lib.hid (start_any secret i k s wr htw hs hi (by omega) hs1)
      clear he hs1 hy htw
      generalize (List.range k).map (Se.endL secret i) = os at hown hl HE
      subst hl
      go_wp2_with fail
      refine CS.out.mono ?_
      rintro e w1 ⟨rfl, c1⟩
      go_wp2_with fail
      refine (chainC s 15 y hsl (by decide) (by decide) hch _).mono ?_
      rintro e w2 ⟨rfl, c2⟩
      have c3 := below_next c1 c2
      have hown2 := hown.below c3
      have hb2 := hb.trans (c3.mono hsz)
      have hsz2 := hb2.size
      clear hown c1 c2 c3 CS hb
      go_wp2_with (at_builtin; refine wpl_app rfl (.tmp 10) (.tmp 16) rfl w.heap.size _ os y rfl rfl hown2 (by omega) hsz2 ?_)
      intro w3 g cc hown3 hb3
      have hb4 := hb2.trans hb3
      rw [← HE.out] at hown3
      clear hb2 hb3 hown2
      go_wp2_with fail
      go_roundw
      case rel => exact ⟨os.length + 1, by omega, by go_num, hown3, hb4⟩
      case measure => simp [intOf]; omega
    · obtain rfl : k = 18 := by omega
      have hj := joinL_ends (Se.endL secret i) (fun k => by rw [endL_length]; decide) (List.range 18)
      have C := Lib.hid (of_any _ _ x wr (ht.below hb (Nat.le_refl _)) (hown.has (by simp)).1 (by simp at hj; omega) hx)
      clear hown hj
      go_wp2_with fail
      refine C.out.mono ?_
      rintro e w1 ⟨rfl, c1⟩
      have hb2 := hb.trans (c1.mono hb.size)
      go_wp2_with fail
      go_ret
      exact ⟨rfl, hb2⟩
end Go.Proofs.YteoclpjbeadkpaaGreatDoor
/- WALKS: seal's keys and Public at height 0. -/
namespace Go.Proofs.YteoclpjbeadkpaaGreatDoor
open Go.RowKit

theorem set_one_heap {w : World} {b : Nat} {old v : Value} {t : TypeId} (h : w.heap[b]? = some (.cells #[old] t (0, 0))) : (w.setCell ⟨b, 0, none⟩ v).heap[b]? = some (.cells #[v] t (0, 0)) := by
  simp [World.setCell, Array.getElem?_modify, h]
set_option maxRecDepth 100000 in
theorem make_one (w : World) : (Instr.makeSlice 27 (.int .i64 1) (.int .i64 1)).run Tryz.prog w = .ok (.slice (some ⟨w.heap.size, 0, none⟩) 1 1) (w.alloc (.cells #[.string ⟨#[]⟩] 9)) := by
  kernel_rfl

set_option maxHeartbeats 1000000 in
set_option maxRecDepth 100000 in
theorem keys_any (secret : List UInt8) (w : World) (ht : Tab w) (hs : secret.length ≤ 35184372088832) :
    Calls Tryz.prog 100 #[.string ⟨secret.toArray⟩, .int .i64 0] w fun e w' => ∃ u, e = .returned u ∧ OwnS w.heap.size w' u [Se.keyL secret 0] ∧ Below w.heap.size w w' := by
  obtain ⟨x, hx⟩ : ∃ x, Hid (Se.keyL secret 0 = x) := ⟨_, rfl⟩
  rw [hx.out]
  have hmk := make_one w
  go_enter Tryz.func100, Tryz.ntmps100
  go_wp2_with fail
  refine wp_loop_rounds 2 ?_
  rw [rounds_succ]
  go_wp2_with fail
  have b1 : Below w.heap.size w (w.alloc (.cells #[.string ⟨#[]⟩] 9)) := (Below.refl _ _).alloc (Nat.le_refl _) _
  refine (key_any secret 0 x _ (ht.below b1 (Nat.le_refl _)) hs (by decide) hx).mono ?_
  rintro e w1 ⟨rfl, c1⟩
  have hz : w1.heap[w.heap.size]? = some (.cells #[.string ⟨#[]⟩] 9) := by
    rw [c1.block _ (by rw [size_alloc]; omega)]; exact heap_alloc_at _ _
  have hc1 : w1.cell? ⟨w.heap.size, 0, none⟩ = some (.string ⟨#[]⟩) := by rw [cell_of_heap hz]; rfl
  have hf1 : w1.frozen? ⟨w.heap.size, 0, none⟩ = false := free_of_heap hz
  go_wp2_with fail
  rw [rounds_succ]
  go_wp2_with fail
  have hz2 := set_one_heap (v := .string ⟨x.toArray⟩) hz
  have b2 := (b1.trans (c1.mono (by rw [size_alloc]; omega))).setCell (p := ⟨w.heap.size, 0, none⟩) (Nat.le_refl _) (.string ⟨x.toArray⟩)
  go_ret
  exact ⟨_, rfl, ⟨rfl, Or.inr ⟨w.heap.size, 1, _, rfl, Nat.le_refl _, hz2, Nat.le_refl _, by unfold maxLen; omega, rfl, rfl⟩⟩, b2⟩

set_option maxHeartbeats 1000000 in
theorem public_any (secret x : List UInt8) (w : World) (ht : Tab w) (hs : secret.length ≤ 35184372088832) (hx : Hid (Se.pubL secret = x)) :
    Calls Tryz.prog 56 #[.string ⟨secret.toArray⟩, .int .i64 0] w fun e w' => e = .returned (.tuple #[.string ⟨x.toArray⟩, .int .i64 0]) ∧ Below w.heap.size w w' := by
  have hm : Mod [Se.keyL secret 0] := fun s hs => by
    rw [List.mem_singleton.mp hs]; unfold Se.keyL Dg.listL; rw [Dg.sumL_length]; decide
  have R := Lib.hid (fun (v : Value) (W : World) (bW : Below w.heap.size w W) (hv : HasStrsC W v [Se.keyL secret 0]) => root_any [Se.keyL secret 0] v x W (ht.below bW (Nat.le_refl _)) hv hm hx)
  have K := Lib.hid (keys_any secret w ht hs)
  clear hm hx
  go_enter Tryz.func56, Tryz.ntmps56
  go_wp2_with fail
  refine K.out.mono ?_
  rintro e w1 ⟨u, rfl, hown, c1⟩
  have C := Lib.hid (R.out u w1 c1 (hown.has (by simp)))
  obtain ⟨oa, oc, rfl⟩ := hown.shape
  clear R K
  go_wp2_with fail
  refine C.out.mono ?_
  rintro e w2 ⟨rfl, c2⟩
  have b2 := below_next c1 c2
  go_wp2_with fail
  go_ret2
  exact ⟨rfl, b2⟩
end Go.Proofs.YteoclpjbeadkpaaGreatDoor
/- WALKS of the reference 02: Half, leaf, node, Empty, Root. -/
namespace Go.Proofs.YteoclpjbeadkpaaGreatDoor
open Go.RowKit

set_option maxHeartbeats 400000 in
theorem rhalf_any (n : Nat) (h1 : 1 < n) (h : n ≤ 140737488355328) (w : World) :
    Calls Tryz.prog 71 #[.int .i64 (n : Int)] w fun e w' => e = .returned (.int .i64 (Tr.half n : Int)) ∧ w = w' := by
  go_enter Tryz.func71, Tryz.ntmps71
  go_wp2_with fail
  go_loopw [3] (fun c wr => ∃ k j : Nat, c = .int .i64 k ∧ k < n ∧ j < k ∧ Hid (Tr.halfW (n - j) k n = Tr.half n) ∧ w = wr) (fun c _ => n - (intOf c).toNat)
  case atStart => exact ⟨1, 0, rfl, h1, by decide, rfl, rfl⟩
  case round =>
    obtain ⟨k, j, rfl, hk, hj, hf, rfl⟩ := hrel
    by_cases hc : 2 * k < n
    · have hf2 : Hid (Tr.halfW (n - (j + 1)) (2 * k) n = Tr.half n) := by
        unfold Hid
        rw [← hf.out, ← halfW_step _ _ _ hc]
        congr 1; omega
      clear hf
      go_wp2_with fail
      exact ⟨⟨2 * k, j + 1, by go_num, by omega, by omega, hf2, trivial⟩, by simp [intOf]; omega⟩
    · have hf2 : Hid (Tr.half n = k) := by
        unfold Hid; rw [← hf.out, halfW_stop _ _ _ hc]
      clear hf
      go_wp2_with fail
      go_ret
      exact ⟨by rw [hf2.out]; rfl, rfl⟩

/-- pandectref01.List of a slice that was just made. -/
theorem rlistNew {w W : World} (ss : List (List UInt8)) (y : List UInt8) (b : Below w.heap.size w W) (h0 : 0 < ss.length) (hJ : capL ss ≤ 140737488355328) (g : Hid (Dg.listL ss = y)) :
    Calls Tryz.prog 54 #[.slice (some ⟨W.heap.size, 0, none⟩) ss.length ss.length] (W.alloc (.cells (ss.map fun s => Value.string ⟨s.toArray⟩).toArray 9)) fun e w' => e = .returned (.string ⟨y.toArray⟩) ∧ Below w.heap.size w w' := by
  have b1 : Below w.heap.size w (W.alloc (.cells (ss.map fun s => Value.string ⟨s.toArray⟩).toArray 9)) := below_next b ((Below.refl _ _).alloc (Nat.le_refl _) _)
  have h := rlist_any ss _ _ (hasStrs_alloc W ss ss.length h0) hJ
  rw [g.out] at h
  refine h.mono ?_
  rintro e w' ⟨rfl, c⟩
  exact ⟨rfl, below_next b1 c⟩

theorem rnode_any (a b x : List UInt8) (w : World) (ha : a.length ≤ 35184372088832) (hb : b.length ≤ 35184372088832) (g : Hid (Tr.nodeL a b = x)) :
    Calls Tryz.prog 114 #[.string ⟨a.toArray⟩, .string ⟨b.toArray⟩] w fun e w' => e = .returned (.string ⟨x.toArray⟩) ∧ Below w.heap.size w w' := by
  have hJ : capL [Tr.tagNode, a, b] ≤ 140737488355328 := by
    have e : Tr.tagNode.length = 4 := rfl
    simp only [capL]; omega
  have C := Lib.hid (fun W (bW : Below w.heap.size w W) => rlistNew [Tr.tagNode, a, b] x bW (by simp) hJ g)
  go_enter Tryz.func114, Tryz.ntmps114
  go_wp2_with fail
  refine (C.out _ (Below.refl _ _)).mono ?_
  rintro e w1 ⟨rfl, c⟩
  go_wp2_with fail
  go_ret
  exact ⟨rfl, c⟩
theorem rleaf_any (a x : List UInt8) (w : World) (ha : a.length ≤ 35184372088832) (g : Hid (Tr.leafL a = x)) :
    Calls Tryz.prog 74 #[.string ⟨a.toArray⟩] w fun e w' => e = .returned (.string ⟨x.toArray⟩) ∧ Below w.heap.size w w' := by
  have hJ : capL [Tr.tagLeaf, a] ≤ 140737488355328 := by
    have e : Tr.tagLeaf.length = 4 := rfl
    simp only [capL]; omega
  have C := Lib.hid (fun W (bW : Below w.heap.size w W) => rlistNew [Tr.tagLeaf, a] x bW (by simp) hJ g)
  go_enter Tryz.func74, Tryz.ntmps74
  go_wp2_with fail
  refine (C.out _ (Below.refl _ _)).mono ?_
  rintro e w1 ⟨rfl, c⟩
  go_wp2_with fail
  go_ret
  exact ⟨rfl, c⟩
theorem rempty_any (w : World) :
    Calls Tryz.prog 113 #[] w fun e w' => e = .returned (.string ⟨Tr.emptyL.toArray⟩) ∧ Below w.heap.size w w' := by
  have C := Lib.hid (fun W (bW : Below w.heap.size w W) => rlistNew [Tr.tagEmpty] Tr.emptyL bW (by simp) (by decide) rfl)
  go_enter Tryz.func113, Tryz.ntmps113
  go_wp2_with fail
  refine (C.out _ (Below.refl _ _)).mono ?_
  rintro e w1 ⟨rfl, c⟩
  go_wp2_with fail
  go_ret
  exact ⟨rfl, c⟩

set_option maxHeartbeats 1000000 in
set_option maxRecDepth 100000 in
theorem rroot_rec : ∀ (n : Nat) (ls : List (List UInt8)) (v : Value) (w : World), ls.length = n → HasStrsC w v ls → Mod ls →
    Calls Tryz.prog 72 #[v] w fun e w' => e = .returned (.string ⟨(Tr.rootL ls).toArray⟩) ∧ Below w.heap.size w w' := by
  intro n
  induction n using Nat.strongRecOn with
  | _ n ih =>
    intro ls v w hn hv hm
    match hls : ls with
    | [] =>
      obtain ⟨_, a, c, rfl, _, _⟩ := hv
      have C := Lib.hid (rempty_any w)
      rw [Tr.rootL_nil]
      go_enter Tryz.func72, Tryz.ntmps72
      go_wp2_with fail
      refine C.out.mono ?_
      rintro e w1 ⟨rfl, c⟩
      go_wp2_with fail
      go_ret
      exact ⟨rfl, c⟩
    | [x] =>
      obtain ⟨b, off, c, rfl, hc, hmx, hb, hcell⟩ := hv.parts (by simp)
      have hx : x.length ≤ 35184372088832 := hm x (by simp)
      have c0 := hcell 0 (by simp)
      rw [Nat.add_zero] at c0
      have C := Lib.hid (rleaf_any x (Tr.leafL x) w hx rfl)
      rw [Tr.rootL_one]
      generalize Tr.leafL x = y at C ⊢
      clear hcell
      go_enter Tryz.func72, Tryz.ntmps72
      go_wp2_with fail
      refine C.out.mono ?_
      rintro e w1 ⟨rfl, c⟩
      go_wp2_with fail
      go_ret
      exact ⟨rfl, c⟩
    | x :: y :: r =>
      rw [← hls] at hn hv hm ⊢
      have h2 : 2 ≤ ls.length := by rw [hls]; simp
      clear hls
      obtain ⟨b, off, c, rfl, hc, hmx, hb, hcell⟩ := hv.parts (by omega)
      have hk := Tr.half_bounds (n := ls.length) (by omega)
      have HH := rhalf_any ls.length (by omega) (by omega)
      have h3 := Tr.rootL_two ls h2
      generalize Tr.half ls.length = k at hk HH h3
      have h4 := hasStrsC_take k (by omega) hc hmx hb hcell
      have h5 := hasStrsC_drop k (by omega) hc hmx hb hcell
      have C1 := Lib.hid (fun W (bW : Below w.heap.size w W) => ih k (by omega) (ls.take k) _ W (by rw [List.length_take]; omega) (h4.below bW (Nat.le_refl _)) (hm.take k))
      have C2 := Lib.hid (fun W (bW : Below w.heap.size w W) => ih (ls.length - k) (by omega) (ls.drop k) _ W (by rw [List.length_drop]) (h5.below bW (Nat.le_refl _)) (hm.drop k))
      have C3 := Lib.hid (fun W (_ : Below w.heap.size w W) => rnode_any (Tr.rootL (ls.take k)) (Tr.rootL (ls.drop k)) (Tr.rootL ls) W (by rw [rootL_length]; decide) (by rw [rootL_length]; decide) h3.symm)
      have HH := Lib.hid HH
      clear h3 h4 h5 hcell hv ih
      generalize Tr.rootL (ls.take k) = r1 at C1 C3
      generalize Tr.rootL (ls.drop k) = r2 at C2 C3
      generalize Tr.rootL ls = r3 at C3 ⊢
      generalize ls.length = m at *
      subst hn
      go_enter Tryz.func72, Tryz.ntmps72
      go_wp2_with fail
      refine (HH.out _).mono ?_
      rintro e w1 ⟨rfl, rfl⟩
      clear HH
      go_wp2_with fail
      have q1 := slc_to b off m c k (by omega)
      have q2 := slc_from b off m c k (by omega) hc
      have bS : Below w.heap.size w w := Below.refl _ _
      go_region_held3 (fun W => Below w.heap.size w W) (first | exact bS | exact below_dr bS | exact below_next (by assumption) (by assumption)) (first | (go_at_call 72; with_reducible refine (C1.out _ (by assumption)).mono ?_; rintro e w' ⟨rfl, hb1⟩) | (go_at_call 72; with_reducible refine (C2.out _ (by assumption)).mono ?_; rintro e w' ⟨rfl, hb1⟩) | (go_at_call 114; with_reducible refine (C3.out _ (by assumption)).mono ?_; rintro e w' ⟨rfl, hb1⟩))
      go_wp2_with fail
      go_ret
      exact ⟨rfl, by assumption⟩
end Go.Proofs.YteoclpjbeadkpaaGreatDoor
/- WALKS of the reference 02: length, up, digests, Check. -/
namespace Go.Proofs.YteoclpjbeadkpaaGreatDoor
open Go.RowKit

theorem lenL_lt (n : Nat) : ∀ i, 1 ≤ n → Tr.lenL n i < n := by
  induction n using Nat.strongRecOn with
  | _ n ih =>
    intro i h
    by_cases h1 : n ≤ 1
    · rw [Tr.lenL_one _ _ h1]; omega
    · have hk := Tr.half_bounds (n := n) (by omega)
      by_cases c : i < Tr.half n
      · rw [Tr.lenL_left _ _ (by omega) c]; have := ih (Tr.half n) (by omega) i (by omega); omega
      · rw [Tr.lenL_right _ _ (by omega) (by omega)]; have := ih (n - Tr.half n) (by omega) (i - Tr.half n) (by omega); omega

set_option maxHeartbeats 1000000 in
set_option maxRecDepth 100000 in
theorem rlen_rec : ∀ (n i : Nat) (w : World), 1 ≤ n → n ≤ 1000000 → i < n →
    Calls Tryz.prog 93 #[.int .i64 (n : Int), .int .i64 (i : Int)] w fun e w' => e = .returned (.int .i64 (Tr.lenL n i : Int)) ∧ w = w' := by
  intro n
  induction n using Nat.strongRecOn with
  | _ n ih =>
    intro i w h1 hn hi
    by_cases h2 : n ≤ 1
    · obtain rfl : n = 1 := by omega
      rw [Tr.lenL_one 1 i (by decide)]
      go_enter Tryz.func93, Tryz.ntmps93
      go_wp2_with fail
      go_ret
      exact ⟨rfl, rfl⟩
    · have hk := Tr.half_bounds (n := n) (by omega)
      have HH := Lib.hid (rhalf_any n (by omega) (by omega))
      have hlt := lenL_lt n i h1
      by_cases hik : i < Tr.half n
      · have hl := Tr.lenL_left n i (by omega) hik
        have IH := Lib.hid (ih (Tr.half n) (by omega) i w (by omega) (by omega) hik)
        generalize Tr.half n = k at *
        generalize Tr.lenL k i = L at *
        rw [hl] at hlt ⊢
        clear ih hl
        go_enter Tryz.func93, Tryz.ntmps93
        go_wp2_with fail
        refine (HH.out _).mono ?_
        rintro e w1 ⟨rfl, rfl⟩
        go_wp2_with fail
        refine IH.out.mono ?_
        rintro e w1 ⟨rfl, rfl⟩
        go_wp2_with fail
        go_ret
        exact ⟨by go_num, rfl⟩
      · have hl := Tr.lenL_right n i (by omega) (by omega)
        have IH := Lib.hid (ih (n - Tr.half n) (by omega) (i - Tr.half n) w (by omega) (by omega) (by omega))
        generalize Tr.half n = k at *
        generalize Tr.lenL (n - k) (i - k) = L at *
        have e1 : ((n - k : Nat) : Int) = (n : Int) - (k : Int) := by omega
        have e2 : ((i - k : Nat) : Int) = (i : Int) - (k : Int) := by omega
        rw [e1, e2] at IH
        rw [hl] at hlt ⊢
        clear ih hl e1 e2
        go_enter Tryz.func93, Tryz.ntmps93
        go_wp2_with fail
        refine (HH.out _).mono ?_
        rintro e w1 ⟨rfl, rfl⟩
        go_wp2_with fail
        refine IH.out.mono ?_
        rintro e w1 ⟨rfl, rfl⟩
        go_wp2_with fail
        go_ret
        exact ⟨by go_num, rfl⟩

set_option maxHeartbeats 1000000 in
set_option maxRecDepth 100000 in
theorem rdigests_any (ss : List (List UInt8)) (v : Value) (w : World) (hv : HasStrs w v ss) (hn : ss.length ≤ 140737488355328) (hm : Mod ss) :
    Calls Tryz.prog 94 #[v] w fun e w' => e = .returned (.bool (ss.all Dg.isL)) ∧ w = w' := by
  rcases hv with ⟨rfl, a, c, rfl⟩ | ⟨h0, b, off, c, rfl, hlt, hc⟩
  · go_enter Tryz.func94, Tryz.ntmps94
    go_wp2_with fail
    refine wp_loop_rounds 1 ?_
    rw [rounds_succ]
    go_wp2_with fail
    go_ret
    exact ⟨rfl, rfl⟩
  · have hm2 : ∀ j, j < ss.length → (ss.getD j []).length ≤ 140737488355328 := fun j hj => by
      have := hm (ss[j]) (List.getElem_mem hj)
      simp [List.getD, List.getElem?_eq_getElem hj]; omega
    clear hm
    go_enter Tryz.func94, Tryz.ntmps94
    go_wp2_with fail
    go_loopw [3] (fun i wr => ∃ k : Nat, k ≤ ss.length ∧ i = .int .i64 k ∧ Hid ((ss.take k).all Dg.isL = true) ∧ w = wr) (fun i _ => ss.length - (intOf i).toNat)
    case atStart => exact ⟨0, by omega, rfl, rfl, rfl⟩
    case round =>
      obtain ⟨k, hk, rfl, hall, rfl⟩ := hrel
      by_cases hkl : k < ss.length
      · have hck := hc k hkl
        have hl := hm2 k hkl
        have hri := ris_any (ss.getD k []) w hl
        cases hs : Dg.isL (ss.getD k [])
        · have he : Hid (ss.all Dg.isL = false) := by
            unfold Hid
            rw [List.all_eq_false]
            exact ⟨ss.getD k [], by simp [List.getD, List.getElem?_eq_getElem hkl], by rw [hs]; decide⟩
          rw [hs] at hri
          have C := Lib.hid hri
          clear hs hall hc hm2 hri
          generalize ss.getD k [] = s at hck hl C
          go_wp2_with fail
          refine C.out.mono ?_
          rintro e w1 ⟨rfl, rfl⟩
          go_wp2_with fail
          go_ret
          exact ⟨by rw [he.out]; rfl, rfl⟩
        · have he := Lib.hid (all_step ss k hkl hall.out hs)
          rw [hs] at hri
          have C := Lib.hid hri
          clear hs hall hc hm2 hri
          generalize ss.getD k [] = s at hck hl C
          go_wp2_with fail
          refine C.out.mono ?_
          rintro e w1 ⟨rfl, rfl⟩
          go_wp2_with fail
          go_round
          case rel => exact ⟨k + 1, by omega, by go_num, he, trivial⟩
          case measure => simp [intOf]; omega
      · obtain rfl : k = ss.length := by omega
        have he : Hid (ss.all Dg.isL = true) := by
          have h := hall.out
          rw [List.take_length] at h
          exact h
        clear hc hm2 hall
        go_wp2_with fail
        go_ret
        exact ⟨by rw [he.out]; rfl, rfl⟩

theorem upL_len (n i : Nat) (d : List UInt8) (p : List (List UInt8)) (h : d.length ≤ 35184372088832) : (Tr.upL n i d p).length ≤ 35184372088832 := by
  by_cases h1 : n ≤ 1
  · rw [Tr.upL_one _ _ _ _ h1]; exact h
  · by_cases c : i < Tr.half n
    · rw [Tr.upL_left _ _ _ _ (by omega) c, nodeL_length]; decide
    · rw [Tr.upL_right _ _ _ _ (by omega) (by omega), nodeL_length]; decide

set_option maxHeartbeats 1000000 in
set_option maxRecDepth 100000 in
theorem rup_rec (d : List UInt8) (hd : d.length ≤ 35184372088832) : ∀ (n i : Nat) (p : List (List UInt8)) (v : Value) (w : World), 1 ≤ n → n ≤ 1000000 → i < n → HasStrsC w v p → Mod p → Tr.lenL n i ≤ p.length →
    Calls Tryz.prog 73 #[.int .i64 (n : Int), .int .i64 (i : Int), .string ⟨d.toArray⟩, v] w fun e w' => e = .returned (.string ⟨(Tr.upL n i d p).toArray⟩) ∧ Below w.heap.size w w' := by
  intro n
  induction n using Nat.strongRecOn with
  | _ n ih =>
    intro i p v w h1 hn hi hv hm hlen
    by_cases h2 : n ≤ 1
    · obtain rfl : n = 1 := by omega
      rw [Tr.upL_one 1 i _ _ (by decide)]
      obtain ⟨_, a, c, rfl, _, _⟩ := hv
      go_enter Tryz.func73, Tryz.ntmps73
      go_wp2_with fail
      go_ret
      exact ⟨rfl, Below.refl _ _⟩
    · have hk := Tr.half_bounds (n := n) (by omega)
      have HH := Lib.hid (rhalf_any n (by omega) (by omega))
      have hp0 : 0 < p.length := by
        by_cases c : i < Tr.half n
        · rw [Tr.lenL_left _ _ (by omega) c] at hlen; omega
        · rw [Tr.lenL_right _ _ (by omega) (by omega)] at hlen; omega
      obtain ⟨b, off, c, rfl, hc, hmx, hb, hcell⟩ := hv.parts hp0
      obtain ⟨m, hpm⟩ : ∃ m, p.length = m + 1 := ⟨p.length - 1, by omega⟩
      have hlast : p.getLastD [] = p.getD m [] := by
        have h := last_take p p.length (by omega) (Nat.le_refl _)
        rw [List.take_length, hpm] at h
        exact h
      have hmb : m + 1 ≤ 140737488355328 := by omega
      have hck := hcell m (by omega)
      have hsl : (p.getD m []).length ≤ 35184372088832 := hm _ (by simp [List.getD, List.getElem?_eq_getElem (show m < p.length by omega)])
      have hdl : p.dropLast = p.take m := by rw [List.dropLast_eq_take, hpm, Nat.add_sub_cancel]
      have hrest := hasStrsC_take m (by omega) hc hmx hb hcell
      have q1 := slc_to b off (m + 1) c m (by omega)
      have hrm := hm.take m
      have hrl : (p.take m).length = m := by rw [List.length_take]; omega
      by_cases hik : i < Tr.half n
      · have hu := Tr.upL_left n i d p (by omega) hik
        rw [Tr.lenL_left _ _ (by omega) hik] at hlen
        rw [hlast, hdl] at hu
        have hxl := upL_len (Tr.half n) i d (p.take m) hd
        have IH := Lib.hid (ih (Tr.half n) (by omega) i (p.take m) _ w (by omega) (by omega) hik hrest hrm (by omega))
        rw [hu]
        obtain ⟨x, hx⟩ : ∃ x, Hid (Tr.upL (Tr.half n) i d (p.take m) = x) := ⟨_, rfl⟩
        rw [hx.out] at hxl IH ⊢
        have CN := Lib.hid (fun W => rnode_any x (p.getD m []) (Tr.nodeL x (p.getD m [])) W hxl hsl rfl)
        generalize Tr.nodeL x (p.getD m []) = y at CN ⊢
        generalize p.getD m [] = s at hck hsl CN
        generalize Tr.half n = k at *
        rw [hpm] at hc ⊢
        clear ih hu hlast hdl hcell hv hm hrest hrm hrl hx hlen hp0 hmx
        go_enter Tryz.func73, Tryz.ntmps73
        go_wp2_with fail
        refine (HH.out _).mono ?_
        rintro e w1 ⟨rfl, rfl⟩
        go_wp2_with fail
        refine IH.out.mono ?_
        rintro e w2 ⟨rfl, c2⟩
        go_wp2_with fail
        refine (CN.out _).mono ?_
        rintro e w3 ⟨rfl, c3⟩
        have b3 := below_next c2 c3
        go_wp2_with fail
        go_ret
        exact ⟨rfl, b3⟩
      · have hu := Tr.upL_right n i d p (by omega) (by omega)
        rw [Tr.lenL_right _ _ (by omega) (by omega)] at hlen
        rw [hlast, hdl] at hu
        have hxl := upL_len (n - Tr.half n) (i - Tr.half n) d (p.take m) hd
        have IH := Lib.hid (ih (n - Tr.half n) (by omega) (i - Tr.half n) (p.take m) _ w (by omega) (by omega) (by omega) hrest hrm (by omega))
        rw [hu]
        obtain ⟨x, hx⟩ : ∃ x, Hid (Tr.upL (n - Tr.half n) (i - Tr.half n) d (p.take m) = x) := ⟨_, rfl⟩
        rw [hx.out] at hxl IH ⊢
        have CN := Lib.hid (fun W => rnode_any (p.getD m []) x (Tr.nodeL (p.getD m []) x) W hsl hxl rfl)
        generalize Tr.nodeL (p.getD m []) x = y at CN ⊢
        generalize p.getD m [] = s at hck hsl CN
        generalize Tr.half n = k at *
        have e1 : ((n - k : Nat) : Int) = (n : Int) - (k : Int) := by omega
        have e2 : ((i - k : Nat) : Int) = (i : Int) - (k : Int) := by omega
        rw [e1, e2] at IH
        clear e1 e2
        rw [hpm] at hc ⊢
        clear ih hu hlast hdl hcell hv hm hrest hrm hrl hx hlen hp0 hmx
        go_enter Tryz.func73, Tryz.ntmps73
        go_wp2_with fail
        refine (HH.out _).mono ?_
        rintro e w1 ⟨rfl, rfl⟩
        go_wp2_with fail
        refine IH.out.mono ?_
        rintro e w2 ⟨rfl, c2⟩
        go_wp2_with fail
        refine (CN.out _).mono ?_
        rintro e w3 ⟨rfl, c3⟩
        have b3 := below_next c2 c3
        go_wp2_with fail
        go_ret
        exact ⟨rfl, b3⟩

set_option maxHeartbeats 1000000 in
set_option maxRecDepth 100000 in
theorem rcheck_any (root leaf : List UInt8) (n i : Int) (path : List (List UInt8)) (v : Value) (w : World) (hv : HasStrsC w v path) (hm : Mod path) (hl : leaf.length ≤ 35184372088832)
    (_hn0 : -9223372036854775808 ≤ n) (_hn1 : n ≤ 9223372036854775807) (_hi0 : -9223372036854775808 ≤ i) (_hi1 : i ≤ 9223372036854775807) :
    Calls Tryz.prog 51 #[.string ⟨root.toArray⟩, .int .i64 n, .int .i64 i, .string ⟨leaf.toArray⟩, v] w fun e w' => e = .returned (.bool (Tr.checkL root n i leaf path)) ∧ Below w.heap.size w w' := by
  obtain ⟨a, c, ev, _, hmx⟩ := hv.2
  subst ev
  have HV := Lib.hid hv; clear hv
  by_cases c1 : n ≤ 1000000
  · by_cases c2 : 0 ≤ i
    · by_cases c3 : i < n
      · obtain ⟨n, rfl⟩ := Int.eq_ofNat_of_zero_le (show 0 ≤ n by omega)
        obtain ⟨i, rfl⟩ := Int.eq_ofNat_of_zero_le c2
        have CL := Lib.hid (rlen_rec n i w (by omega) (by omega) (by omega))
        have hlt := lenL_lt n i (by omega)
        by_cases c5 : path.length = Tr.lenL n i
        · have CD := Lib.hid (rdigests_any path _ w HV.out.1 hmx hm)
          cases c4 : path.all Dg.isL
          · have HR : Hid (Tr.checkL root n i leaf path = false) := by unfold Hid Tr.checkL; rw [c4]; simp
            rw [HR.out]
            rw [c4] at CD
            rw [← c5] at CL hlt
            clear c4 c5
            go_enter Tryz.func51, Tryz.ntmps51
            go_wp2_with fail
            refine CL.out.mono ?_
            rintro e w1 ⟨rfl, rfl⟩
            go_wp2_with fail
            refine CD.out.mono ?_
            rintro e w1 ⟨rfl, rfl⟩
            go_wp2_with fail
            go_ret
            exact ⟨rfl, Below.refl _ _⟩
          · have CU := Lib.hid (fun W (bW : Below w.heap.size w W) => rup_rec (Tr.leafL leaf) (by rw [show (Tr.leafL leaf).length = 16 from Dg.sumL_length _]; decide) n i path _ W (by omega) (by omega) (by omega) (HV.out.below bW (Nat.le_refl _)) hm (by omega))
            have hck : Tr.checkL root n i leaf path = (Tr.upL n i (Tr.leafL leaf) path == root) := by
              unfold Tr.checkL
              rw [c4, decide_eq_true c1, decide_eq_true c2, decide_eq_true c3, Int.toNat_natCast, Int.toNat_natCast, c5]
              simp
            have LF := Lib.hid (rleaf_any leaf (Tr.leafL leaf) w hl rfl)
            rw [hck]
            rw [c4] at CD
            rw [← c5] at CL hlt
            clear c4 c5 hck
            generalize Tr.upL n i (Tr.leafL leaf) path = x at CU ⊢
            generalize Tr.leafL leaf = y at LF CU
            go_enter Tryz.func51, Tryz.ntmps51
            go_wp2_with fail
            refine CL.out.mono ?_
            rintro e w1 ⟨rfl, rfl⟩
            go_wp2_with fail
            refine CD.out.mono ?_
            rintro e w1 ⟨rfl, rfl⟩
            go_wp2_with fail
            refine LF.out.mono ?_
            rintro e w1 ⟨rfl, d1⟩
            go_wp2_with fail
            refine (CU.out _ d1).mono ?_
            rintro e w2 ⟨rfl, d2⟩
            have b2 := below_next d1 d2
            go_wp2_with fail
            go_ret
            exact ⟨rfl, b2⟩
        · have HR : Hid (Tr.checkL root n i leaf path = false) := by
            unfold Hid Tr.checkL
            rw [Int.toNat_natCast, Int.toNat_natCast, beq_eq_false_iff_ne.mpr c5]; simp
          rw [HR.out]
          have hne : ((path.length : Int) != (Tr.lenL n i : Int)) = true := by rw [bne_iff_ne]; omega
          generalize Tr.lenL n i = L at CL hne
          clear c5 hlt
          go_enter Tryz.func51, Tryz.ntmps51
          go_wp2_with fail
          refine CL.out.mono ?_
          rintro e w1 ⟨rfl, rfl⟩
          go_wp2_with fail
          go_ret
          exact ⟨rfl, Below.refl _ _⟩
      · have HR : Hid (Tr.checkL root n i leaf path = false) := by unfold Hid Tr.checkL; rw [show decide (i < n) = false by simpa using c3]; simp
        rw [HR.out]
        go_enter Tryz.func51, Tryz.ntmps51
        go_wp2_with fail
        go_ret
        exact ⟨rfl, Below.refl _ _⟩
    · have HR : Hid (Tr.checkL root n i leaf path = false) := by unfold Hid Tr.checkL; rw [show decide (0 ≤ i) = false by simpa using c2]; simp
      rw [HR.out]
      go_enter Tryz.func51, Tryz.ntmps51
      go_wp2_with fail
      go_ret
      exact ⟨rfl, Below.refl _ _⟩
  · have HR : Hid (Tr.checkL root n i leaf path = false) := by unfold Hid Tr.checkL; rw [show decide (n ≤ 1000000) = false by simpa using c1]; simp
    rw [HR.out]
    go_enter Tryz.func51, Tryz.ntmps51
    go_wp2_with fail
    go_ret
    exact ⟨rfl, Below.refl _ _⟩
end Go.Proofs.YteoclpjbeadkpaaGreatDoor
/- WALK: proof.Message. -/
namespace Go.Proofs.YteoclpjbeadkpaaGreatDoor.Pf
def itoaL (i : Int) : List UInt8 := if i < 0 then 45 :: Dg.decN i.natAbs else Dg.decN i.toNat
theorem itoaL_eq (i : Int) (h0 : -9223372036854775808 ≤ i) (h1 : i ≤ 9223372036854775807) : Lib.itoa i = itoaL i := by
  unfold Lib.itoa itoaL
  split
  · rw [Dg.decN_eq _ (by omega)]
  · rw [Dg.decN_eq _ (by omega)]
theorem itoaL_length (i : Int) : (itoaL i).length ≤ 21 := by
  unfold itoaL
  split
  · have := Dg.decN_length i.natAbs; simp; omega
  · have := Dg.decN_length i.toNat; omega
def tagRoot : List UInt8 := [114, 111, 111, 116]
def msgL (day count : Int) (root : List UInt8) : List UInt8 := Dg.listL [tagRoot, itoaL day, itoaL count, root]
end Go.Proofs.YteoclpjbeadkpaaGreatDoor.Pf
namespace Go.Proofs.YteoclpjbeadkpaaGreatDoor
open Go.RowKit

theorem itoaI_any (i : Int) (x : List UInt8) (h0 : -9223372036854775808 ≤ i) (h1 : i ≤ 9223372036854775807) (w : World) (ht : Tab w) (hx : Hid (Pf.itoaL i = x)) :
    Calls Tryz.prog 53 #[.int .i64 i] w fun e w' => e = .returned (.string ⟨x.toArray⟩) ∧ Below w.heap.size w w' :=
  (Tryz.strconv_Itoa i (by omega) (by omega) w ht).mono fun _ _ ⟨h, k, os, h2⟩ => by
    rw [Pf.itoaL_eq i h0 h1, hx.out] at h
    exact ⟨h, by rw [h2]; exact below_grow w k os⟩

set_option maxHeartbeats 400000 in
theorem message_any (day count : Int) (root x : List UInt8) (w : World) (ht : Tab w) (hd0 : -9223372036854775808 ≤ day) (hd1 : day ≤ 9223372036854775807) (hc0 : -9223372036854775808 ≤ count) (hc1 : count ≤ 9223372036854775807) (hr : root.length ≤ 35184372088832) (hx : Hid (Pf.msgL day count root = x)) :
    Calls Tryz.prog 19 #[.int .i64 day, .int .i64 count, .string ⟨root.toArray⟩] w fun e w' => e = .returned (.string ⟨x.toArray⟩) ∧ Below w.heap.size w w' := by
  have l1 := Pf.itoaL_length day
  have l2 := Pf.itoaL_length count
  unfold Pf.msgL at hx
  obtain ⟨a, ha⟩ : ∃ a, Hid (Pf.itoaL day = a) := ⟨_, rfl⟩
  obtain ⟨b, hb⟩ : ∃ a, Hid (Pf.itoaL count = a) := ⟨_, rfl⟩
  rw [ha.out] at l1 hx
  rw [hb.out] at l2 hx
  have hJ : (Dg.joinL [Pf.tagRoot, a, b, root]).length ≤ 140737488355328 := by
    have := (Dg.item_length Pf.tagRoot).2; have := (Dg.item_length a).2; have := (Dg.item_length b).2; have := (Dg.item_length root).2
    have e : Pf.tagRoot.length = 4 := rfl
    simp only [Dg.joinL, List.length_append, List.length_nil]; omega
  have C := Lib.hid (fun W (bW : Below w.heap.size w W) => listNew [Pf.tagRoot, a, b, root] x ht bW (by simp) hJ hx)
  clear hJ hx
  go_enter Tryz.func19, Tryz.ntmps19
  go_wp2_with fail
  refine (itoaI_any day a hd0 hd1 _ ht ha).mono ?_
  rintro e w1 ⟨rfl, c1⟩
  go_wp2_with fail
  refine (itoaI_any count b hc0 hc1 _ (ht.below c1 (Nat.le_refl _)) hb).mono ?_
  rintro e w2 ⟨rfl, c2⟩
  have b2 := below_next c1 c2
  go_wp2_with fail
  refine (C.out _ b2).mono ?_
  rintro e w3 ⟨rfl, c3⟩
  go_wp2_with fail
  go_ret
  exact ⟨rfl, c3⟩
end Go.Proofs.YteoclpjbeadkpaaGreatDoor
/- WALK: the iterator that seal.digits hands back (inside the wide fence). -/
namespace Go.Proofs.YteoclpjbeadkpaaGreatDoor
open Go.RowKit Go.Shelf

attribute [local go_sem] Oper.semAt_some

/-- a place and a digit -/
abbrev DG := { x : Nat × Nat // x.1 < 18 ∧ x.2 ≤ 15 }
def dgF (msg : List UInt8) (j : Nat) : DG := ⟨(if j < 18 then j else 0, (Se.digsL msg).getD j 0), ⟨by show (if j < 18 then j else 0) < 18; split <;> omega, Se.digsL_getD msg j⟩⟩
def upto (msg : List UInt8) (k : Nat) : List DG := (List.range k).map (dgF msg)
theorem upto_succ (msg : List UInt8) (k : Nat) : upto msg (k + 1) = upto msg k ++ [dgF msg k] := by simp [upto, List.range_succ]
theorem upto_length (msg : List UInt8) (k : Nat) : (upto msg k).length = k := by simp [upto]
theorem dgF_one (msg : List UInt8) (k : Nat) (h : k < 18) : (dgF msg k).1.1 = k := if_pos h
theorem dgF_two (msg : List UInt8) (k : Nat) : (dgF msg k).1.2 = (Se.digsL msg).getD k 0 := rfl

def hexL : List UInt8 := [48, 49, 50, 51, 52, 53, 54, 55, 56, 57, 97, 98, 99, 100, 101, 102]
theorem index_hex0 : ∀ c : Fin 256, Dg.isHex (UInt8.ofNat c.val) = true → Lib.indexByte hexL (UInt8.ofNat c.val) = (Se.hexV (UInt8.ofNat c.val) : Int) := by decide +kernel
theorem index_hex (c : UInt8) (h : Dg.isHex c = true) : Lib.indexByte hexL c = (Se.hexV c : Int) := by
  have e : UInt8.ofNat c.toNat = c := by simp
  have h2 := index_hex0 ⟨c.toNat, c.toNat_lt⟩
  simp only [e] at h2
  exact h2 h

theorem digs_low (msg : List UInt8) (k : Nat) (h : k < 16) : (Se.digsL msg).getD k 0 = Se.hexV ((Dg.sumL msg).getD k 0) := by
  unfold Se.digsL
  have hl : ((Dg.sumL msg).map Se.hexV).length = 16 := (List.length_map _).trans (Dg.sumL_length msg)
  have hk : k < (Dg.sumL msg).length := by rw [Dg.sumL_length]; exact h
  rw [List.getD_eq_getElem?_getD, List.getElem?_append_left (by omega), List.getElem?_map, List.getD_eq_getElem?_getD, List.getElem?_eq_getElem hk]
  rfl

def restK (sm : List UInt8) (k : Nat) : Nat := Se.restL ((sm.map Se.hexV).take k)
theorem restL_snoc (ds : List Nat) (d : Nat) : Se.restL (ds ++ [d]) = Se.restL ds + (15 - d) := by unfold Se.restL; simp
theorem restK_step (sm : List UInt8) (k : Nat) (h : k < sm.length) : restK sm (k + 1) = restK sm k + (15 - Se.hexV (sm.getD k 0)) := by
  unfold restK
  rw [List.take_succ_eq_append_getElem (by simpa using h), restL_snoc]
  simp [List.getD, List.getElem?_eq_getElem h]
theorem restK_le (sm : List UInt8) (k : Nat) : restK sm k ≤ 15 * k := by
  unfold restK
  have := Se.restL_le ((sm.map Se.hexV).take k)
  have e : ((sm.map Se.hexV).take k).length ≤ k := by rw [List.length_take]; omega
  exact Nat.le_trans this (Nat.mul_le_mul_left 15 e)
theorem grown_none {w w' : World} (h : Below w.heap.size w w') : w.grownBy w' none := ⟨h.os, h.tape, h.output, h.size, fun k hk _ => h.block k hk⟩

theorem ib_any (c : UInt8) (d : Nat) (hx : Dg.isHex c = true) (hd : Hid (Se.hexV c = d)) (w : World) :
    Calls Tryz.prog 117 #[.string ⟨#[48, 49, 50, 51, 52, 53, 54, 55, 56, 57, 97, 98, 99, 100, 101, 102]⟩, .int .u8 (c.toNat : Int)] w fun e w' => e = .returned (.int .i64 (d : Int)) ∧ w' = w := by
  have h := Tryz.strings_IndexByte ⟨hexL.toArray⟩ (c.toNat : Int) w
  have e1 : ((c.toNat : Int)).toNat.toUInt8 = c := by simp
  rw [e1, show (⟨hexL.toArray⟩ : ByteArray).data.toList = hexL from rfl, index_hex c hx, hd.out] at h
  exact h

theorem digs_16 (msg : List UInt8) : (Se.digsL msg).getD 16 0 = Se.restL ((Dg.sumL msg).map Se.hexV) / 16 := by
  unfold Se.digsL
  have hl : ((Dg.sumL msg).map Se.hexV).length = 16 := (List.length_map _).trans (Dg.sumL_length msg)
  rw [List.getD_eq_getElem?_getD, List.getElem?_append_right (by omega), hl]
  rfl
theorem digs_17 (msg : List UInt8) : (Se.digsL msg).getD 17 0 = Se.restL ((Dg.sumL msg).map Se.hexV) % 16 := by
  unfold Se.digsL
  have hl : ((Dg.sumL msg).map Se.hexV).length = 16 := (List.length_map _).trans (Dg.sumL_length msg)
  rw [List.getD_eq_getElem?_getD, List.getElem?_append_right (by omega), hl]
  rfl

set_option maxRecDepth 100000 in
set_option maxHeartbeats 2000000 in
theorem digits1_in (n : Nat) (hn : 1 ≤ n) (l Bs n₀ : Nat) (msg : List UInt8) (hmsg : msg.length ≤ 140737488355328) (J Jx : List DG → World → Prop)
    (W : World) (hn₀ : n₀ ≤ W.heap.size) (hJ : AbidesFrom W.heap.size J)
    (hY : ∀ pre (x : DG) W, J pre W → pre.length < 18 → YieldAt Fence.wide (n - 1) Tryz.prog l #[.int .i64 (x.1.1 : Int), .int .i64 (x.1.2 : Int)] W fun e W' =>
      (e = .returned (.bool true) ∧ J (pre ++ [x]) W' ∧ Below n₀ W W') ∨ (e = .returned (.bool false) ∧ Jx (pre ++ [x]) W'))
    (hBs : W.cell? ⟨Bs, 0, none⟩ = some (.string ⟨msg.toArray⟩)) (h0 : J [] W) :
    CallsIn Fence.wide n Tryz.prog 116 #[.func (.yield l) #[] #[], .pointer (some ⟨Bs, 0, none⟩)] W fun e W' => (∃ v, e = .returned v) ∧
      ((∃ ys, ys = upto msg 18 ∧ J ys W') ∨ (∃ pre, (∃ k, k ≤ 18 ∧ pre = upto msg k) ∧ Jx pre W')) := by
  obtain ⟨sm, hsm⟩ : ∃ x, Hid (Dg.sumL msg = x) := ⟨_, rfl⟩
  have hl16 : sm.length = 16 := by rw [← hsm.out]; exact Dg.sumL_length msg
  refine callsIn_of_wp Tryz.func116 rfl trivial ?_ rfl
  simp only [Tryz.ntmps116, List.size_toArray, List.length_cons, List.length_nil, Nat.reduceAdd, Nat.reduceSub, Array.replicate_succ, Array.replicate_zero, List.push_toArray, List.append_toArray, List.nil_append, List.cons_append]
  gi_wp2_with (refine ⟨trivial, ?_⟩; gi_at_call 96; refine (callsIn_wide.2 (sumC msg sm hmsg hsm W)).mono ?_; rintro e W1 ⟨rfl, hS⟩)
  have hJ1 : J [] W1 := hJ [] W W1 Option.none h0 (grown_none hS) (fun r e => by cases e)
  have hhex : ∀ c ∈ sm, Dg.isHex c = true := by rw [← hsm.out]; exact Se.sum_hex msg
  gi_loopw [3, 11] (fun r i wr => ∃ k : Nat, k ≤ 16 ∧ i = .int .i64 k ∧ r = .int .i64 (restK sm k : Int) ∧ J (upto msg k) wr)
    (fun _ i _ => 16 - (intOf i).toNat)
  case atStart => exact ⟨0, by omega, rfl, rfl, hJ1⟩
  case round =>
    obtain ⟨k, hk, rfl, rfl, hJs⟩ := hrel
    by_cases hlt : k < 16
    · have hks : k < sm.length := by omega
      have hstep := restK_step sm k hks
      have hrk := restK_le sm k
      have hx : Dg.isHex (sm.getD k 0) = true := hhex _ (by simp [List.getD, List.getElem?_eq_getElem hks])
      have hd15 := Se.hexV_le _ hx
      have hix := index_hex _ hx
      obtain ⟨fn, tmps, assign, body, hy, hR⟩ := hY _ (dgF msg k) wr hJs (by rw [upto_length]; omega)
      rw [dgF_one msg k (by omega), dgF_two, digs_low msg k hlt, hsm.out] at hy
      have hbk : (⟨sm.toArray⟩ : ByteArray)[k]'(by show k < sm.length; omega) = sm.getD k 0 := by
        simp [List.getD, List.getElem?_eq_getElem hks]; rfl
      obtain ⟨d, hd⟩ : ∃ d, Hid (Se.hexV (sm.getD k 0) = d) := ⟨_, rfl⟩
      rw [hd.out] at hstep hd15 hy
      have IB := Lib.hid (ib_any (sm.getD k 0) d hx hd wr)
      rw [← hbk] at IB
      have HS := Lib.hid hstep
      clear hstep hix hx hhex hd
      gi_wp2_with (refine ⟨trivial, ?_⟩; gi_at_call 117; refine (callsIn_wide.2 IB.out).mono ?_; rintro e W2 ⟨rfl, rfl⟩)
      refine hR.mono ?_
      rintro e W3 (⟨rfl, hJ3, hk3⟩ | ⟨rfl, hJx3⟩)
      · gi_wp2
        go_roundw
        case rel => exact ⟨k + 1, by omega, by go_num, by rw [HS.out]; go_num, by rw [upto_succ]; exact hJ3⟩
        case measure => simp [intOf]; omega
      · gi_wp2
        refine bodyPost_ret (results_none rfl _ _ _) rfl ?_
        exact ⟨⟨_, rfl⟩, .inr ⟨_, ⟨k + 1, by omega, (upto_succ _ _).symm⟩, hJx3⟩⟩
    · obtain rfl : k = 16 := by omega
      have hr := restK_le sm 16
      have hr2 : restK sm 16 = Se.restL ((Dg.sumL msg).map Se.hexV) := by
        unfold restK; rw [List.take_of_length_le (by simp; omega), hsm.out]
      have d16 : (Se.digsL msg).getD 16 0 = restK sm 16 / 16 := by rw [hr2]; exact digs_16 msg
      have d17 : (Se.digsL msg).getD 17 0 = restK sm 16 % 16 := by rw [hr2]; exact digs_17 msg
      obtain ⟨fn, tmps, assign, body, hy, hR⟩ := hY _ (dgF msg 16) wr hJs (by rw [upto_length]; decide)
      rw [dgF_one msg 16 (by decide), dgF_two, d16] at hy
      clear hr2
      generalize restK sm 16 = R at *
      have e16 : ((16 : Nat) : Int) = 16 := rfl
      have e2 : ((R / 16 : Nat) : Int) = (R : Int) / 16 := by omega
      rw [e16, e2] at hy
      gi_wp2
      refine hR.mono ?_
      rintro e W3 (⟨rfl, hJ3, hk3⟩ | ⟨rfl, hJx3⟩)
      · rw [← upto_succ] at hJ3
        obtain ⟨fn2, tmps2, assign2, body2, hy2, hR2⟩ := hY _ (dgF msg 17) W3 hJ3 (by rw [upto_length]; decide)
        rw [dgF_one msg 17 (by decide), dgF_two, d17] at hy2
        have e17 : ((17 : Nat) : Int) = 17 := rfl
        have e3 : ((R % 16 : Nat) : Int) = (R : Int) % 16 := by omega
        rw [e17, e3] at hy2
        gi_wp2
        refine hR2.mono ?_
        rintro e W4 (⟨rfl, hJ4, hk4⟩ | ⟨rfl, hJx4⟩)
        · gi_wp2
          go_end0
          exact ⟨⟨_, rfl⟩, .inl ⟨_, (upto_succ _ _).symm, hJ4⟩⟩
        · gi_wp2
          go_end0
          exact ⟨⟨_, rfl⟩, .inr ⟨_, ⟨18, by omega, (upto_succ _ _).symm⟩, hJx4⟩⟩
      · gi_wp2
        go_end0
        exact ⟨⟨_, rfl⟩, .inr ⟨_, ⟨17, by omega, (upto_succ _ _).symm⟩, hJx3⟩⟩

/-- seal.digits hands back a value that yields the 18 digits of a message. -/
theorem digits_stops (n : Nat) (hn : 1 ≤ n) (Bs n₀ : Nat) (msg : List UInt8) (hmsg : msg.length ≤ 140737488355328) (w : World) (hBs : Bs < w.heap.size) (hn₀ : n₀ ≤ w.heap.size) (hc : w.cell? ⟨Bs, 0, none⟩ = some (.string ⟨msg.toArray⟩)) :
    SeqStopsK Fence.wide n Tryz.prog 116 #[.pointer (some ⟨Bs, 0, none⟩)] (fun x : DG => #[Value.int .i64 (x.1.1 : Int), Value.int .i64 (x.1.2 : Int)]) (Below n₀) (fun ys => ys = upto msg 18)
      (fun pre => ∃ k, k ≤ 18 ∧ pre = upto msg k) 18 w := fun l J Jx W hW hJ _ hY h0 =>
  digits1_in n hn l Bs n₀ msg hmsg J Jx W (Nat.le_trans hn₀ hW.size) hJ hY ((hW.cell (p := ⟨Bs, 0, none⟩) hBs).trans hc) h0

theorem sdigits_any (msg : List UInt8) (w : World) : Calls Tryz.prog 78 #[.string ⟨msg.toArray⟩] w fun e w' => e = .returned (.func (.func 116) #[] #[.pointer (some ⟨w.heap.size, 0, none⟩)]) ∧ w' = w.alloc (.cells #[.string ⟨msg.toArray⟩] 9) := by
  go_enter Tryz.func78, Tryz.ntmps78
  go_wp2_with fail
  go_ret
  exact ⟨rfl, rfl⟩
end Go.Proofs.YteoclpjbeadkpaaGreatDoor
/- WALKS: seal.Verify's closure. -/
namespace Go.Proofs.YteoclpjbeadkpaaGreatDoor
open Go.RowKit

set_option maxHeartbeats 1000000 in
theorem vodd1_any (l : List UInt8) (hl : l.length ≤ 140737488355328) (w : World) : Calls Tryz.prog 77 #[.string ⟨l.toArray⟩] w fun e w' => e = .returned (.bool (!Dg.isL l)) ∧ Below w.heap.size w w' := by
  obtain ⟨b, hb⟩ : ∃ b, Hid (Dg.isL l = b) := ⟨_, rfl⟩
  rw [hb.out]
  go_enter Tryz.func77, Tryz.ntmps77
  go_wp2_with fail
  refine (isC2 l b hl hb _).mono ?_
  rintro e w1 ⟨rfl, c⟩
  go_wp2_with fail
  go_ret
  exact ⟨rfl, c⟩

set_option maxHeartbeats 1000000 in
set_option maxRecDepth 100000 in
theorem idxStr_any (ss : List (List UInt8)) (v : Value) (w : World) (hv : HasStrs w v ss) (hn : ss.length ≤ 140737488355328) (hm : Mod ss) :
    Calls Tryz.prog 115 #[v, .func (.func 77) #[] #[]] w fun e w' => e = .returned (.int .i64 (oddAt ss)) ∧ Below w.heap.size w w' := by
  rcases hv with ⟨rfl, a, c, rfl⟩ | ⟨h0, b, off, c, rfl, hlt, hc⟩
  · go_enter Tryz.func115, Tryz.ntmps115
    go_wp2_with fail
    refine wp_loop_rounds 1 ?_
    rw [rounds_succ]
    go_wp2_with fail
    go_ret
    exact ⟨rfl, Below.refl _ _⟩
  · have hm2 : ∀ j, j < ss.length → (ss.getD j []).length ≤ 140737488355328 := fun j hj => by
      have := hm (ss[j]) (List.getElem_mem hj)
      simp [List.getD, List.getElem?_eq_getElem hj]; omega
    clear hm
    go_enter Tryz.func115, Tryz.ntmps115
    go_wp2_with fail
    go_loopw [8] (fun i wr => ∃ k : Nat, k ≤ ss.length ∧ i = .int .i64 k ∧ Hid ((ss.take k).all Dg.isL = true) ∧ Below w.heap.size w wr) (fun i _ => ss.length - (intOf i).toNat)
    case atStart => exact ⟨0, by omega, rfl, rfl, Below.refl _ _⟩
    case round =>
      obtain ⟨k, hk, rfl, hall, hb⟩ := hrel
      by_cases hkl : k < ss.length
      · have hck := (hb.cell (p := ⟨b, off + k, none⟩) hlt).trans (hc k hkl)
        have hl := hm2 k hkl
        have hsz := hb.size
        cases hs : Dg.isL (ss.getD k [])
        · have he := Lib.hid (oddAt_at ss k hkl hall.out hs)
          have HS := Lib.hid hs
          clear hs hall hc hm2
          generalize ss.getD k [] = s at hck hl HS
          go_wp2_with fail
          refine (vodd1_any s hl _).mono ?_
          rintro e w1 ⟨rfl, c1⟩
          rw [HS.out]
          have hb2 := hb.trans (c1.mono hsz)
          go_wp2_with fail
          go_ret
          exact ⟨by rw [he.out]; rfl, hb2⟩
        · have he := Lib.hid (all_step ss k hkl hall.out hs)
          have HS := Lib.hid hs
          clear hs hall hc hm2
          generalize ss.getD k [] = s at hck hl HS
          go_wp2_with fail
          refine (vodd1_any s hl _).mono ?_
          rintro e w1 ⟨rfl, c1⟩
          rw [HS.out]
          have hb2 := hb.trans (c1.mono hsz)
          go_wp2_with fail
          go_roundw
          case rel => exact ⟨k + 1, by omega, by go_num, he, hb2⟩
          case measure => simp [intOf]; omega
      · obtain rfl : k = ss.length := by omega
        have he : Hid (oddAt ss = -1) := by
          have h := hall.out
          rw [List.take_length] at h
          exact oddAt_none ss h
        clear hc hm2 hall
        go_wp2_with fail
        go_ret
        exact ⟨by rw [he.out]; rfl, hb⟩

set_option maxHeartbeats 1000000 in
theorem odd_any (ss : List (List UInt8)) (v : Value) (b : Bool) (w : World) (hv : HasStrs w v ss) (hn : ss.length ≤ 140737488355328) (hm : Mod ss) (hb : Hid (ss.all Dg.isL = b)) :
    Calls Tryz.prog 75 #[v] w fun e w' => e = .returned (.bool (!b)) ∧ Below w.heap.size w w' := by
  obtain ⟨a, c, rfl⟩ := hv.shape
  obtain ⟨x, hx⟩ : ∃ x, Hid (oddAt ss = x) := ⟨_, rfl⟩
  have hz := oddAt_ge ss
  rw [hx.out, hb.out] at hz
  have HZ := Lib.hid hz
  have C : ∀ W, Below w.heap.size w W → Calls Tryz.prog 76 #[.slice a ss.length c, .func (.func 77) #[] #[]] W fun e w' => e = .returned (.bool (decide (0 ≤ x))) ∧ Below W.heap.size W w' := by
    intro W hW
    have C0 := Lib.hid (idxStr_any ss _ W (hv.below hW (Nat.le_refl _)) hn hm)
    rw [hx.out] at C0
    clear hz hx hv
    go_enter Tryz.func76, Tryz.ntmps76
    go_wp2_with fail
    refine C0.out.mono ?_
    rintro e w1 ⟨rfl, c1⟩
    go_wp2_with fail
    go_ret
    exact ⟨rfl, c1⟩
  have CC := Lib.hid C
  clear C hz hx hv
  go_enter Tryz.func75, Tryz.ntmps75
  go_wp2_with fail
  refine (CC.out _ (Below.refl _ _)).mono ?_
  rintro e w1 ⟨rfl, c1⟩
  rw [HZ.out]
  go_wp2_with fail
  go_ret
  exact ⟨rfl, c1⟩
end Go.Proofs.YteoclpjbeadkpaaGreatDoor
/- The range over a function, its frame told by the slots that a round sets; an append to a boxed list of texts. -/
namespace Go.Proofs.YteoclpjbeadkpaaGreatDoor
open Go.RowKit Go.Shelf

variable {F : Fence} {n : Nat} {P : Program}

/-- The kit's law of the range over a function, the frame of a round being the loop's frame with some slots set. -/
theorem rangeW {α : Type} (e1 e2 : α → Value) (p1 p2 : Tmp) (q : List (Nat × (α → Value))) {g : Operand} {assign body : Code} {Q : Exit → Act → World → Prop} {a : Act} {w : World}
    (hro : F.round = none) (h1 : 1 ≤ n) {gf : Nat} {lb : Array Value} (hg : a.eval g = .func (.func gf) #[] lb) (hFg : F.fn gf) (eg : ∀ args w, (callFunc gf args).run P w = .ok (.enter gf args) w)
    {Kp : World → World → Prop} {S Sp : List α → Prop} {N : Nat} {w0 : World} (hseq : SeqStopsK F (n - 1) P gf lb (fun x => #[e1 x, e2 x]) Kp S Sp N w0)
    (hKt : ∀ {A B C : World}, Kp A B → Kp B C → Kp A C) (hKb : ∀ (W : World) (l : Nat) (o o' : Obj), w.heap.size ≤ l → W.heap[l]? = some o → o.isCells = false → o.isWalk = false → Kp W (W.putObj l o')) (hb0 : Below w0.heap.size w0 w)
    (I : List α → World → Prop) (Ix : Code → List α → World → Prop) (hI : OwnFrom w.heap.size I) (hIx : ∀ c, OwnFrom w.heap.size (Ix c)) (h0 : I [] w)
    (hassign : ∀ (l : Nat) (x : α) (W : World) (K : Act → World → Prop), K { tmps := q.foldl (fun t p => t.setIfInBounds p.1 (p.2 x)) a.tmps, defers := [] } W →
      assign.wpIn (F.inRound l) (n - 1 - 1) P (Exit.then K (fun _ _ _ => False)) { tmps := (a.tmps.setIfInBounds p1 (e1 x)).setIfInBounds p2 (e2 x), defers := [] } W)
    (hbody : ∀ (l : Nat) (pre : List α) (x : α) (W : World), I pre W → pre.length < N → body.wpIn (F.inRound l) (n - 1 - 1) P (ownPostG w.heap.size Kp I Ix (pre ++ [x]) W) { tmps := q.foldl (fun t p => t.setIfInBounds p.1 (p.2 x)) a.tmps, defers := [] } W)
    (hdone : ∀ (D : Nat) (xs : List α) (W : World), w.heap.size ≤ D → S xs → I xs W → W.heap[D]? = some (.deferred (some [])) → Q .normal { a with defers := { target := .collected D, args := #[] } :: a.defers } W)
    (hstop : ∀ (D : Nat) (c : Code) (pre : List α) (W : World), w.heap.size ≤ D → Sp pre → Ix c pre W → W.heap[D]? = some (.deferred (some [])) → c.wpIn F n P Q { a with defers := { target := .collected D, args := #[] } :: a.defers } W) :
    (Code.rangeFunc g #[p1, p2] assign body).wpIn F n P Q a w :=
  wpIn_rangeFunc_ownG hro h1 hg hFg eg hseq (fun h k => hKt h k) hKb hb0 (fun _ => rfl) I Ix hI hIx h0 (fun x => { tmps := q.foldl (fun t p => t.setIfInBounds p.1 (p.2 x)) a.tmps, defers := [] }) (fun l x W K hK => by
    have e : (#[p1, p2].zip #[e1 x, e2 x]).foldl (fun t (p, v) => t.setIfInBounds p v) a.tmps = (a.tmps.setIfInBounds p1 (e1 x)).setIfInBounds p2 (e2 x) := by
      rw [show #[p1, p2].zip #[e1 x, e2 x] = #[(p1, e1 x), (p2, e2 x)] by simp]
      simp
    have h := hassign l x W K hK
    rw [← e] at h
    exact h) hbody hdone hstop

theorem keeps_of_below {W W1 : World} (h : Below W.heap.size W W1) : KeepsOthers W W1 :=
  ⟨h.size, fun k _ hk _ => (h.block k (Array.getElem?_eq_some_iff.1 hk).1).trans hk⟩
theorem boxed_below {W W1 : World} {B : Nat} {t : TypeId} {v : Value} (h : Boxed W B t v) (hb : Below W.heap.size W W1) : Boxed W1 B t v := (hb.block B h.lt).trans h

/-- A box that holds a list of texts, in blocks from n₀ on. -/
def BoxS (n₀ B : Nat) (W : World) (ss : List (List UInt8)) : Prop := ∃ v, Boxed W B 27 v ∧ OwnS n₀ W v ss
theorem BoxS.own {β : Type} (n₀ B : Nat) (f : β → List (List UInt8)) : Own (fun s W => BoxS n₀ B W (f s)) := by
  intro s X Y row ⟨v, hv, hr⟩ hg hrow
  obtain ⟨u, h1, h2, _⟩ := holdsRow_own n₀ B 27 9 1 (fun s => (f s).length) (fun s => (f s).map fun t => Value.string ⟨t.toArray⟩) (fun _ _ => True) s X Y row ⟨v, hv, show X.ownsRow n₀ 9 1 v (f s).length ((f s).map fun t => Value.string ⟨t.toArray⟩) from hr, trivial⟩ hg hrow
  exact ⟨u, h1, h2⟩
theorem BoxS.below {n₀ B : Nat} {W W1 : World} {ss : List (List UInt8)} (h : BoxS n₀ B W ss) (hb : Below W.heap.size W W1) : BoxS n₀ B W1 ss := by
  obtain ⟨v, h1, h2⟩ := h
  exact ⟨v, boxed_below h1 hb, h2.below hb⟩
theorem BoxS.new {n₀ : Nat} (W : World) : BoxS n₀ W.heap.size (W.alloc (.cells #[.slice none 0 0] 27)) [] := ⟨_, Boxed.new W _ _, OwnS.nil _ _⟩
theorem BoxS.alloc {n₀ B : Nat} {W : World} {ss : List (List UInt8)} (h : BoxS n₀ B W ss) (o : Obj) : BoxS n₀ B (W.alloc o) ss := h.below ((Below.refl _ _).alloc (Nat.le_refl _) _)
/-- The append to a list of texts, under a name that the walk does not open. -/
def AppS (args : Array Value) := Builtin.append_ #[27, 27] 27 args
theorem appS_eq (args : Array Value) : Builtin.append_ #[27, 27] 27 args = AppS args := rfl

theorem app_run {n₀ B : Nat} {W : World} {v : Value} {ss : List (List UInt8)} (y : List UInt8) (hv : Boxed W B 27 v) (hown : OwnS n₀ W v ss) (hn₀ : n₀ ≤ W.heap.size) (hB : n₀ ≤ B) (hn : ss.length ≤ 8796093022206) :
    ∃ g cap w2, (AppS #[v, .slice (some ⟨W.heap.size, 0, none⟩) 1 1]).run Tryz.prog (W.alloc (.cells #[.string ⟨y.toArray⟩] 9)) = .ok (.slice (some ⟨g, 0, none⟩) (ss.length + 1) cap) w2 ∧
      w2.cell? ⟨B, 0, none⟩ = some v ∧ w2.frozen? ⟨B, 0, none⟩ = false ∧ BoxS n₀ B (w2.setCell ⟨B, 0, none⟩ (.slice (some ⟨g, 0, none⟩) (ss.length + 1) cap)) (ss ++ [y]) ∧
      KeepsOthers W (w2.setCell ⟨B, 0, none⟩ (.slice (some ⟨g, 0, none⟩) (ss.length + 1) cap)) ∧ Below n₀ W (w2.setCell ⟨B, 0, none⟩ (.slice (some ⟨g, 0, none⟩) (ss.length + 1) cap)) ∧ Below n₀ W w2 := by
  obtain ⟨i0, hi, hz0, hz1, hz2⟩ := info_parts info_str
  obtain ⟨v', w', hrun, hown', hgrow, hnil⟩ := run_append_own (P := Tryz.prog) (W.alloc (.cells #[.string ⟨y.toArray⟩] 9)) n₀ 27 27 9 i0 (.string ⟨#[]⟩) 1 16 Tryz.underlying27 hi hz0 hz1 hz2 rfl (by decide) v ss.length _ (hown.alloc _) ⟨W.heap.size, 0, none⟩ 1 1 [.string ⟨y.toArray⟩] rfl (by
      intro j u hj
      match j, hj with
      | 0, hj => simp at hj; subst hj; simp [Addr.add]) (by intro u hu; simp at hu; subst hu; rfl) (by unfold maxLen; omega) (by omega) (by simp; omega)
  obtain ⟨g, cap, rfl⟩ := ownsRow_succ hown'
  obtain ⟨h1, h2, h3, h4, h5⟩ := hv.appended (by decide) hown hn₀ hB hown' hgrow
  have h6 : Below n₀ W w' := ((Below.refl n₀ W).alloc hn₀ _).grown hgrow (by simp; omega) (fun k e => by
    rcases hown.2 with ⟨rfl, _⟩ | ⟨g0, _, _, rfl, hg0, _⟩
    · cases e
    · cases e; exact hg0)
  refine ⟨g, cap, w', hrun, h1.cell, h1.frozen, ⟨_, h2, ?_⟩, h4, h5, h6⟩
  unfold OwnS
  rw [List.map_append, List.length_append]
  exact h3
end Go.Proofs.YteoclpjbeadkpaaGreatDoor
/- A region that draws its order, in a round of a range over a function: it is enough to walk it as in a plain frame. -/
namespace Go.Proofs.YteoclpjbeadkpaaGreatDoor
open Go.RowKit Go.Shelf

variable {P : Program} {ops : Array Oper} {Q : Exit → Act → World → Prop} {md : Region.Mode}

theorem opIn_of_op {i : Nat} (l n : Nat) (hQ : ¬ LetsOut Q) (hd : ∀ (i : Nat) (o : Oper), ops[i]? = some o → ∀ c, o.op ≠ .defer c) {K : Act → World → Prop} {a : Act} {w : World}
    (h : wpOp P ops Q i K a w) : wpOpIn (Fence.wide.inRound l) n P ops Q i K a w := by
  unfold wpOp at h
  unfold wpOpIn
  cases ho : ops[i]? with
  | none => simp only [ho] at h ⊢; exact h
  | some o =>
    simp only [ho] at h ⊢
    by_cases hw : Region.wanted o (yielded ops a.tmps) = true
    · rw [if_pos hw] at h ⊢
      rcases h with h | ⟨_, h⟩
      · refine ⟨fun _ _ => trivial, ?_⟩
        rw [Oper.semAt_eq _ _ _ (hd i o ho)]
        unfold Oper.wp at h
        generalize (execOp a.eval o).run P w = r at h ⊢
        cases r with
        | ok x w' =>
          cases x
          case enter f args =>
            refine ⟨(fun e => Bool.noConfusion (show false = true from e)), ?_⟩
            refine CallsIn.inRound l (callsIn_wide.2 ?_)
            exact Calls.mono h (fun e w'' he => by cases e <;> exact he)
          case row row args =>
            refine ⟨(fun e => Bool.noConfusion (show false = true from e)), ?_⟩
            intro c cs hroom
            obtain ⟨v, w'', r, s⟩ := h c cs
            exact ⟨v, w'', r, stepsIn_wide.2 s⟩
          all_goals first | exact h | exact False.elim h
        | halt x w' => cases x <;> exact h
      · exact absurd h hQ
    · rw [if_neg hw] at h ⊢
      exact ⟨fun _ _ => trivial, h⟩

theorem anyIn_of_any (l n : Nat) (hQ : ¬ LetsOut Q) (hd : ∀ (i : Nat) (o : Oper), ops[i]? = some o → ∀ c, o.op ≠ .defer c) : ∀ (fuel : Nat) (listed : Array Bool) (a : Act) (w : World),
    wpAny P md ops Q fuel listed a w → wpAnyIn (Fence.wide.inRound l) n P md ops Q fuel listed a w
  | 0, _, _, _, h => h
  | fuel + 1, _, _, _, h => ⟨h.1, fun i hi => opIn_of_op l n hQ hd (wpOp_mono (fun a' w' h' => anyIn_of_any l n hQ hd fuel _ a' w' h') (h.2 i hi))⟩

/-- THE LAW. -/
theorem region_round {id : Nat} {a : Act} {w : World} (l n : Nat) (S : World → Prop) (hm : P.follows .mixedOrders = true) (hQ : ¬ LetsOut Q) (hd : ∀ (i : Nat) (o : Oper), ops[i]? = some o → ∀ c, o.op ≠ .defer c)
    (h : wpAnyH P .any ops Q S ops.size (Array.replicate ops.size false) a w.drew) : (Code.region id ops true).wpIn (Fence.wide.inRound l) n P Q a w :=
  wpIn_region_any hm (anyIn_of_any l n hQ hd _ _ _ _ (wpAny_of_held _ _ _ _ h))

theorem noDefer_all {ops : List Oper} (h : ops.all (fun o => match o.op with | .defer _ => false | _ => true) = true) : ∀ (i : Nat) (o : Oper), ops.toArray[i]? = some o → ∀ c, o.op ≠ .defer c := by
  intro i o ho c e
  rw [List.all_eq_true] at h
  have hm : o ∈ ops := List.mem_of_getElem? (by simpa using ho)
  have := h o hm
  rw [e] at this
  cases this

theorem wp_appS {o : Oper} {a : Act} {w w2 : World} {K : Act → World → Prop} {Q : Exit → Act → World → Prop} {s x : Operand} {v u r : Value}
    (hop : o.op = .call { callee := .builtin .append, args := #[s, x], argTypes := #[27, 27] }) (hty : o.type = 27) (hs : a.eval s = v) (hx : a.eval x = u)
    (hrun : (AppS #[v, u]).run Tryz.prog w = .ok r w2) (hK : K (a.put o.dst r) w2) : Oper.wp Tryz.prog o a w K Q := by
  unfold AppS at hrun
  unfold Oper.wp
  simp [execOp, hop, resolve, invoke, builtin, hs, hx, hty, hrun, Result.andThen]
  exact hK
end Go.Proofs.YteoclpjbeadkpaaGreatDoor
/- WALK: seal.Verify at height 0. -/
namespace Go.Proofs.YteoclpjbeadkpaaGreatDoor
open Go.RowKit Go.Shelf

attribute [local go_sem] Oper.semAt_some

abbrev Seal3 (w X : World) (a : Option Addr) (c : Nat) (pa : Option Addr) (pc : Nat) : Prop := X.cell? ⟨w.heap.size, 0, none⟩ = some (.int .i64 0) ∧ X.cell? ⟨w.heap.size, 1, none⟩ = some (.slice a 18 c) ∧ X.cell? ⟨w.heap.size, 2, none⟩ = some (.slice pa 0 pc) ∧ w.heap.size < X.heap.size ∧ Below w.heap.size w X
theorem Seal3.next {w X Y : World} {a : Option Addr} {c : Nat} {pa : Option Addr} {pc : Nat} (h : Seal3 w X a c pa pc) (b : Below X.heap.size X Y) : Seal3 w Y a c pa pc :=
  ⟨(b.cell (p := ⟨w.heap.size, 0, none⟩) h.2.2.2.1).trans h.1, (b.cell (p := ⟨w.heap.size, 1, none⟩) h.2.2.2.1).trans h.2.1, (b.cell (p := ⟨w.heap.size, 2, none⟩) h.2.2.2.1).trans h.2.2.1, Nat.lt_of_lt_of_le h.2.2.2.1 b.size, below_next h.2.2.2.2 b⟩

theorem chainL_le (n : Nat) (l : List UInt8) (h : l.length ≤ 100) : (Dg.chainL n l).length ≤ 100 := by
  cases n with
  | zero => exact h
  | succ n => rw [Dg.chainL_succ, Dg.sumL_length]; decide
theorem ends_upto (msg : List UInt8) (sig : List (List UInt8)) : (upto msg 18).map (fun x => Dg.chainL (15 - x.1.2) (sig.getD x.1.1 [])) = Se.endsL msg sig := by
  unfold upto Se.endsL
  rw [List.map_map]
  apply List.map_congr_left
  intro k hk
  rw [List.mem_range] at hk
  show Dg.chainL (15 - (dgF msg k).1.2) (sig.getD (dgF msg k).1.1 []) = _
  rw [dgF_one msg k hk, dgF_two]

set_option maxHeartbeats 8000000 in
set_option maxRecDepth 100000 in
theorem verify_any (pub msg : List UInt8) (sig : List (List UInt8)) (a : Option Addr) (c : Nat) (pa : Option Addr) (pc : Nat) (w : World) (ht : Tab w) (hs : HasStrsC w (.slice a 18 c) sig) (hl : sig.length = 18) (hd : sig.all Dg.isL = true) (hm : Mod sig) (hmsg : msg.length ≤ 35184372088832) :
    Calls Tryz.prog 38 #[.string ⟨pub.toArray⟩, .string ⟨msg.toArray⟩, .agg #[.int .i64 0, .slice a 18 c, .slice pa 0 pc]] w fun e w' => e = .returned (.bool (Se.verL pub msg sig)) ∧ Below w.heap.size w w' := by
  refine (callsIn_wide (n := 5)).1 ?_
  refine callsIn_of_wp_marks Tryz.func38 rfl trivial ?_ rfl
  simp only [Tryz.ntmps38, List.size_toArray, List.length_cons, List.length_nil, Nat.reduceAdd, Nat.reduceSub, Array.replicate_succ, Array.replicate_zero, List.push_toArray, List.append_toArray, List.nil_append, List.cons_append]
  refine wpIn_wide.2 ?_
  go_wp2_with fail
  obtain ⟨W0, hW0⟩ : ∃ W, Hid (w.alloc (.cells #[.int .i64 0, .slice a 18 c, .slice pa 0 pc] 42) = W) := ⟨_, rfl⟩
  have s0 : W0.cell? ⟨w.heap.size, 0, none⟩ = some (.int .i64 0) ∧ W0.cell? ⟨w.heap.size, 1, none⟩ = some (.slice a 18 c) ∧ W0.cell? ⟨w.heap.size, 2, none⟩ = some (.slice pa 0 pc) ∧ w.heap.size < W0.heap.size ∧ Below w.heap.size w W0 := by
    rw [← hW0.out]
    refine ⟨World.cell?_alloc_at _ _ _ _ rfl, World.cell?_alloc_at _ _ _ _ rfl, World.cell?_alloc_at _ _ _ _ rfl, by rw [size_alloc]; omega, (Below.refl _ _).alloc (Nat.le_refl _) _⟩
  rw [hW0.out]
  have C1 := Lib.hid (fun W (h : Seal3 w W a c pa pc) => (odd_any sig (.slice a 18 c) true W (hs.below h.2.2.2.2 (Nat.le_refl _)).1 (by omega) hm hd).mono (fun e w' ⟨h1, h2⟩ => And.intro h1 (h.next h2)))
  have C2 := Lib.hid (fun W (h : Seal3 w W a c pa pc) => (odd_any [] (.slice pa 0 pc) true W (Or.inl ⟨rfl, _, _, rfl⟩) (by simp) (fun s hs => by cases hs) rfl).mono (fun e w' ⟨h1, h2⟩ => And.intro h1 (h.next h2)))
  have S0 : Seal3 w W0 a c pa pc := s0
  have S1 : Seal3 w W0.drew a c pa pc := S0.next (Below.refl _ _).drew
  go_region_held3 (fun X => X.cell? ⟨w.heap.size, 0, none⟩ = some (.int .i64 0) ∧ X.cell? ⟨w.heap.size, 1, none⟩ = some (.slice a 18 c) ∧ X.cell? ⟨w.heap.size, 2, none⟩ = some (.slice pa 0 pc) ∧ w.heap.size < X.heap.size ∧ Below w.heap.size w X) (first | exact S0 | exact S1 | assumption) (first | (go_at_call 75; with_reducible refine (C1.out _ (by assumption)).mono ?_; rintro e wA ⟨rfl, hSA⟩) | (go_at_call 75; with_reducible refine (C2.out _ (by assumption)).mono ?_; rintro e X ⟨rfl, hS⟩))
  go_wp2_with (go_at_call 78; refine (sdigits_any msg _).mono ?_; rintro e w' ⟨rfl, rfl⟩)
  clear C1 C2 S0 S1 s0 hW0 hSA
  obtain ⟨q0, q1, q2, q3, q4⟩ := hS
  rename _ ∧ _ => hH
  clear hH
  have HSX : Hid (Seal3 w X a c pa pc) := Lib.hid ⟨q0, q1, q2, q3, q4⟩
  clear q0 q1 q2 q3 q4
  rename 0 < IntKind.i64.wrap 1 => hw1
  clear hw1
  obtain ⟨b, off, cc, e1, hcc, hmm, hblt, hcell⟩ := hs.parts (by omega)
  simp only [Value.slice.injEq] at e1
  obtain ⟨rfl, e18, rfl⟩ := e1
  clear e18
  rw [hl] at hcell
  have HC := Lib.hid hcell
  clear hcell hmm
  have bE := (BoxS.new (n₀ := X.heap.size) X).alloc (.cells #[.string ⟨msg.toArray⟩] 9)
  have bN := Boxed.new (X.alloc (.cells #[.slice none 0 0] 27)) 9 (.string ⟨msg.toArray⟩)
  rw [World.size_alloc] at bN
  have hB0 : Below X.heap.size X ((X.alloc (.cells #[.slice none 0 0] 27)).alloc (.cells #[.string ⟨msg.toArray⟩] 9)) := ((Below.refl _ X).alloc (Nat.le_refl _) _).alloc (by simp) _
  refine (wpIn_wide (n := 5)).1 ?_
  refine rangeW (α := DG) (fun x => .int .i64 (x.1.1 : Int)) (fun x => .int .i64 (x.1.2 : Int)) 49 50 [(49, fun x => .int .i64 (x.1.1 : Int)), (50, fun x => .int .i64 (x.1.2 : Int)), (10, fun x => .int .i64 (x.1.1 : Int)), (11, fun x => .int .i64 (x.1.2 : Int))] rfl (by omega) (gf := 116) (lb := #[.pointer (some ⟨X.heap.size + 1, 0, none⟩)]) rfl trivial (enters_of Tryz.func116 (by kernel_rfl) rfl)
    (digits_stops (5 - 1) (by omega) (X.heap.size + 1) X.heap.size msg (by omega) _ (by simp) (by simp; omega) bN.cell) belowK_t (belowK_b (by simp; omega)) (Below.refl _ _)
    (fun pre W => BoxS X.heap.size X.heap.size W (pre.map fun x => Dg.chainL (15 - x.1.2) (sig.getD x.1.1 [])) ∧ Below X.heap.size X W)
    (fun _ _ _ => False)
    (OwnFrom.and (Own.from (BoxS.own _ _ _) _) (ownFrom_below (Nat.le_refl _) (by simp; omega)))
    (fun _ _ _ _ _ hs _ _ => hs)
    ⟨bE, hB0⟩ ?assign ?body ?done ?stop
  case assign =>
    intro l x W K hK
    simp only [List.foldl, List.setIfInBounds_toArray, List.set_cons_succ, List.set_cons_zero] at hK ⊢
    clear HC hblt bE bN hB0 hcc hs
    gi_wp2
    exact hK
  case body =>
    rintro l pre x W ⟨hbx, hB⟩ hlt
    simp only [List.foldl, List.setIfInBounds_toArray, List.set_cons_succ, List.set_cons_zero]
    obtain ⟨v, hv, hown⟩ := hbx
    have hSW := Seal3.next HSX.out hB
    have h18 := x.2.1
    have h15 := x.2.2
    have hc1 := hSW.2.1
    have hcv := hv.cell
    have hfv := hv.frozen
    have hck := (below_next HSX.out.2.2.2.2 hB).cell (p := ⟨b, off + x.1.1, none⟩) hblt
    rw [HC.out x.1.1 h18] at hck
    obtain ⟨oa, oc, rfl⟩ := hown.shape
    have hlt0 := hv.lt
    have hmx : Tryz.prog.follows .mixedOrders = true := by kernel_rfl
    have hsl : (sig.getD x.1.1 []).length ≤ 140737488355328 := by
      have := hm (sig[x.1.1]'(by omega)) (List.getElem_mem _)
      simp [List.getD, List.getElem?_eq_getElem (show x.1.1 < sig.length by omega)]; omega
    have hdi : IntKind.i64.wrap (15 - (x.1.2 : Int)) = ((15 - x.1.2 : Nat) : Int) := by rw [IntKind.wrap_i64]; omega
    obtain ⟨y, hy⟩ : ∃ y, Hid (Dg.chainL (15 - x.1.2) (sig.getD x.1.1 []) = y) := ⟨_, rfl⟩
    have CH := Lib.hid (fun W' => chainC (sig.getD x.1.1 []) ((15 - x.1.2 : Nat) : Int) y hsl (by omega) (by omega) (by unfold Hid; rw [← hy.out]; congr 1; omega) W')
    have hpl : (pre.map fun x => Dg.chainL (15 - x.1.2) (sig.getD x.1.1 [])).length ≤ 8796093022206 := by rw [List.length_map]; omega
    have AP := Lib.hid (fun w1 (c1 : Below W.drew.heap.size W.drew w1) => app_run y (boxed_below hv (below_next (Below.refl _ _).drew c1)) (hown.below (below_next (Below.refl _ _).drew c1)) (Nat.le_trans hB.size c1.size) (Nat.le_refl _) hpl)
    have HB := Lib.hid hB
    have HK := Lib.hid (fun w1 (c1 : Below W.drew.heap.size W.drew w1) => And.intro (keeps_of_below (below_next (Below.refl W.heap.size W).drew c1)) (Below.mono (below_next (Below.refl W.heap.size W).drew c1) hB.size))
    have HM := Lib.hid (List.map_append (f := fun x : DG => Dg.chainL (15 - x.1.2) (sig.getD x.1.1 [])) (l₁ := pre) (l₂ := [x]))
    clear HC hs hSW hB hown hv hm hd hl ht
    obtain ⟨os, hos⟩ : ∃ os, pre.map (fun x : DG => Dg.chainL (15 - x.1.2) (sig.getD x.1.1 [])) = os := ⟨_, rfl⟩
    rw [hos] at AP hpl HM hcv
    have HY : Hid ([x].map (fun x : DG => Dg.chainL (15 - x.1.2) (sig.getD x.1.1 [])) = [y]) := by unfold Hid; rw [← hy.out]; rfl
    rw [HY.out] at HM
    clear HY hos hpl
    generalize sig.getD x.1.1 [] = s at *
    have hpx : (0 : Int) ≤ (x.1.1 : Int) := by omega
    have hpy : (x.1.1 : Int) < 18 := by omega
    have hwl : w.heap.size < W.heap.size := Nat.lt_of_lt_of_le HSX.out.2.2.2.1 HB.out.size
    have hwx : w.heap.size < X.heap.size := HSX.out.2.2.2.1
    have hbx : b < X.heap.size := Nat.lt_trans hblt hwx
    have hbl : b < W.heap.size := Nat.lt_trans hblt hwl
    have SK := Lib.hid (fun (B : World) (h : Below W.drew.heap.size W.drew B) => And.intro ((h.cell (p := ⟨w.heap.size, 1, none⟩) hwl).trans hc1) ((h.cell (p := ⟨b, off + x.1.1, none⟩) hbl).trans hck))
    have SX := Lib.hid (fun (A B : World) (h : Below X.heap.size A B) (q : A.cell? ⟨w.heap.size, 1, none⟩ = some (.slice (some ⟨b, off, none⟩) 18 c) ∧ A.cell? ⟨b, off + x.1.1, none⟩ = some (.string ⟨s.toArray⟩)) => And.intro ((h.cell (p := ⟨w.heap.size, 1, none⟩) hwx).trans q.1) ((h.cell (p := ⟨b, off + x.1.1, none⟩) hbx).trans q.2))
    clear hwx hbx hbl hwl
    gi_wp2
    refine region_round l _ (fun w' => w'.cell? ⟨w.heap.size, 1, none⟩ = some (.slice (some ⟨b, off, none⟩) 18 c) ∧ w'.cell? ⟨b, off + x.1.1, none⟩ = some (.string ⟨s.toArray⟩)) hmx (fun ⟨_, _, h⟩ => h) (noDefer_all (by rfl)) ?_
    have hS0 : W.drew.cell? ⟨w.heap.size, 1, none⟩ = some (.slice (some ⟨b, off, none⟩) 18 c) ∧ W.drew.cell? ⟨b, off + x.1.1, none⟩ = some (.string ⟨s.toArray⟩) := ⟨hc1, hck⟩
    have hcd : W.drew.cell? ⟨X.heap.size, 0, none⟩ = some (.slice oa os.length oc) := hcv
    refine wpAnyH_take (i := 1) (v := .pointer (some ⟨w.heap.size, 1, none⟩)) rfl (by kernel_rfl) (by kernel_rfl) (by kernel_rfl) (fun _ _ _ h => h) (Or.inl ⟨by rfl, fun w' hS => by obtain ⟨s1, s2⟩ := hS; go_simp⟩) hS0 ?_
    simp only [Act.put, List.setIfInBounds_toArray, List.set_cons_zero, List.set_cons_succ]
    refine wpAnyH_take (i := 2) (v := .slice (some ⟨b, off, none⟩) 18 c) rfl (by kernel_rfl) (by kernel_rfl) (by kernel_rfl) (fun _ _ _ h => h) (Or.inl ⟨by rfl, fun w' hS => by obtain ⟨s1, s2⟩ := hS; go_simp⟩) hS0 ?_
    simp only [Act.put, List.setIfInBounds_toArray, List.set_cons_zero, List.set_cons_succ]
    refine wpAnyH_take (i := 3) (v := .int .i64 (x.1.1 : Int)) rfl (by kernel_rfl) (by kernel_rfl) (by kernel_rfl) (fun _ _ _ h => h) (Or.inl ⟨by rfl, fun w' hS => by obtain ⟨s1, s2⟩ := hS; go_simp⟩) hS0 ?_
    simp only [Act.put, List.setIfInBounds_toArray, List.set_cons_zero, List.set_cons_succ]
    refine wpAnyH_take (i := 4) (v := .pointer (some ⟨b, off + x.1.1, none⟩)) rfl (by kernel_rfl) (by kernel_rfl) (by kernel_rfl) (fun _ _ _ h => h) (Or.inl ⟨by rfl, fun w' hS => by obtain ⟨s1, s2⟩ := hS; go_simp⟩) hS0 ?_
    simp only [Act.put, List.setIfInBounds_toArray, List.set_cons_zero, List.set_cons_succ]
    refine wpAnyH_take (i := 5) (v := .string ⟨s.toArray⟩) rfl (by kernel_rfl) (by kernel_rfl) (by kernel_rfl) (fun _ _ _ h => h) (Or.inl ⟨by rfl, fun w' hS => by obtain ⟨s1, s2⟩ := hS; go_simp⟩) hS0 ?_
    simp only [Act.put, List.setIfInBounds_toArray, List.set_cons_zero, List.set_cons_succ]
    refine wpAnyH_take (i := 6) (v := .int .i64 (x.1.2 : Int)) rfl (by kernel_rfl) (by kernel_rfl) (by kernel_rfl) (fun _ _ _ h => h) (Or.inl ⟨by rfl, fun w' hS => by obtain ⟨s1, s2⟩ := hS; go_simp⟩) hS0 ?_
    simp only [Act.put, List.setIfInBounds_toArray, List.set_cons_zero, List.set_cons_succ]
    refine wpAnyH_take (i := 7) (v := .int .i64 ((15 - x.1.2 : Nat) : Int)) rfl (by kernel_rfl) (by kernel_rfl) (by kernel_rfl) (fun _ _ _ h => h) (Or.inl ⟨by rfl, fun w' hS => by obtain ⟨s1, s2⟩ := hS; go_simp⟩) hS0 ?_
    simp only [Act.put, List.setIfInBounds_toArray, List.set_cons_zero, List.set_cons_succ]
    refine wpAnyH_ready (rs := [0, 8]) (by kernel_rfl) (by simp) ?_
    refine AllReadyH.cons rfl (fun K hK => ?_) (AllReadyH.cons rfl (fun K hK => ?_) AllReadyH.nil)
    · skip
      go_simp
      refine hK.out _ _ hS0 (fun _ => ?_)
      clear hK K
      refine wpAnyH_ready (rs := [8]) (by kernel_rfl) (by simp) ?_
      refine AllReadyH.cons rfl (fun K hK => ?_) AllReadyH.nil
      go_simp
      go_wp2_with (go_at_call 79; refine (CH.out _).mono ?_; rintro e w1 ⟨rfl, c1⟩)
      obtain ⟨g, cp, w2, hrun, hc2, hf2, hbx2, hk2, hb2, hb3⟩ := AP.out w1 c1
      have hcv1 := (c1.cell (p := ⟨X.heap.size, 0, none⟩) hlt0).trans hcd
      have ha1 : Below w1.heap.size w1 (w1.alloc (.cells #[.string ⟨y.toArray⟩] 9)) := (Below.refl _ w1).alloc (Nat.le_refl _) _
      have hcv2 := (ha1.cell (p := ⟨X.heap.size, 0, none⟩) (show X.heap.size < w1.heap.size from Nat.lt_of_lt_of_le hlt0 c1.size)).trans hcv1
      have hS1 := SK.out _ c1
      have hS2 := SK.out _ (c1.trans (ha1.mono c1.size))
      have hS3 := SX.out _ _ hb3 hS1
      have hS4 := SX.out _ _ hb2 hS1
      refine hK.out _ _ hS1 (fun _ => ?_)
      clear hK K
      refine wpAnyH_ready (rs := [9]) (by kernel_rfl) (by simp) ?_
      refine AllReadyH.cons rfl (fun K hK => ?_) AllReadyH.nil
      go_simp
      refine hK.out _ _ hS2 (fun _ => ?_)
      clear hK K
      refine wpAnyH_ready (rs := [10]) (by kernel_rfl) (by simp) ?_
      refine AllReadyH.cons rfl (fun K hK => ?_) AllReadyH.nil
      rw [if_pos (by rfl)]
      refine wp_appS (by rfl) (by rfl) (by rfl) (by rfl) hrun ?_
      simp only [Act.put, List.setIfInBounds_toArray, List.set_cons_zero, List.set_cons_succ]
      refine hK.out _ _ hS3 (fun _ => ?_)
      clear hK K
      refine wpAnyH_ready (rs := [11]) (by kernel_rfl) (by simp) ?_
      refine AllReadyH.cons rfl (fun K hK => ?_) AllReadyH.nil
      go_simp
      refine hK.out _ _ hS4 (fun _ => ?_)
      clear hK K
      refine wpAnyH_done (by kernel_rfl) ?_ _
      exact ⟨((HK.out w1 c1).1.trans hk2).from _, (HK.out w1 c1).2.trans hb2, by rw [HM.out]; exact hbx2, HB.out.trans ((HK.out w1 c1).2.trans hb2)⟩
    · skip
      go_simp
      go_wp2_with (go_at_call 79; refine (CH.out _).mono ?_; rintro e w1 ⟨rfl, c1⟩)
      obtain ⟨g, cp, w2, hrun, hc2, hf2, hbx2, hk2, hb2, hb3⟩ := AP.out w1 c1
      have hcv1 := (c1.cell (p := ⟨X.heap.size, 0, none⟩) hlt0).trans hcd
      have ha1 : Below w1.heap.size w1 (w1.alloc (.cells #[.string ⟨y.toArray⟩] 9)) := (Below.refl _ w1).alloc (Nat.le_refl _) _
      have hcv2 := (ha1.cell (p := ⟨X.heap.size, 0, none⟩) (show X.heap.size < w1.heap.size from Nat.lt_of_lt_of_le hlt0 c1.size)).trans hcv1
      have hS1 := SK.out _ c1
      have hS2 := SK.out _ (c1.trans (ha1.mono c1.size))
      have hS3 := SX.out _ _ hb3 hS1
      have hS4 := SX.out _ _ hb2 hS1
      refine hK.out _ _ hS1 (fun _ => ?_)
      clear hK K
      refine wpAnyH_ready (rs := [0, 9]) (by kernel_rfl) (by simp) ?_
      refine AllReadyH.cons rfl (fun K hK => ?_) (AllReadyH.cons rfl (fun K hK => ?_) AllReadyH.nil)
      · skip
        go_simp
        refine hK.out _ _ hS1 (fun _ => ?_)
        clear hK K
        refine wpAnyH_ready (rs := [9]) (by kernel_rfl) (by simp) ?_
        refine AllReadyH.cons rfl (fun K hK => ?_) AllReadyH.nil
        go_simp
        refine hK.out _ _ hS2 (fun _ => ?_)
        clear hK K
        refine wpAnyH_ready (rs := [10]) (by kernel_rfl) (by simp) ?_
        refine AllReadyH.cons rfl (fun K hK => ?_) AllReadyH.nil
        rw [if_pos (by rfl)]
        refine wp_appS (by rfl) (by rfl) (by rfl) (by rfl) hrun ?_
        simp only [Act.put, List.setIfInBounds_toArray, List.set_cons_zero, List.set_cons_succ]
        refine hK.out _ _ hS3 (fun _ => ?_)
        clear hK K
        refine wpAnyH_ready (rs := [11]) (by kernel_rfl) (by simp) ?_
        refine AllReadyH.cons rfl (fun K hK => ?_) AllReadyH.nil
        go_simp
        refine hK.out _ _ hS4 (fun _ => ?_)
        clear hK K
        refine wpAnyH_done (by kernel_rfl) ?_ _
        exact ⟨((HK.out w1 c1).1.trans hk2).from _, (HK.out w1 c1).2.trans hb2, by rw [HM.out]; exact hbx2, HB.out.trans ((HK.out w1 c1).2.trans hb2)⟩
      · skip
        go_simp
        refine hK.out _ _ hS2 (fun _ => ?_)
        clear hK K
        refine wpAnyH_ready (rs := [0]) (by kernel_rfl) (by simp) ?_
        refine AllReadyH.cons rfl (fun K hK => ?_) AllReadyH.nil
        go_simp
        refine hK.out _ _ hS2 (fun _ => ?_)
        clear hK K
        refine wpAnyH_ready (rs := [10]) (by kernel_rfl) (by simp) ?_
        refine AllReadyH.cons rfl (fun K hK => ?_) AllReadyH.nil
        rw [if_pos (by rfl)]
        refine wp_appS (by rfl) (by rfl) (by rfl) (by rfl) hrun ?_
        simp only [Act.put, List.setIfInBounds_toArray, List.set_cons_zero, List.set_cons_succ]
        refine hK.out _ _ hS3 (fun _ => ?_)
        clear hK K
        refine wpAnyH_ready (rs := [11]) (by kernel_rfl) (by simp) ?_
        refine AllReadyH.cons rfl (fun K hK => ?_) AllReadyH.nil
        go_simp
        refine hK.out _ _ hS4 (fun _ => ?_)
        clear hK K
        refine wpAnyH_done (by kernel_rfl) ?_ _
        exact ⟨((HK.out w1 c1).1.trans hk2).from _, (HK.out w1 c1).2.trans hb2, by rw [HM.out]; exact hbx2, HB.out.trans ((HK.out w1 c1).2.trans hb2)⟩
  case done =>
    rintro D ys W hD rfl ⟨⟨v, hv, hown⟩, hB⟩ hK
    rw [ends_upto] at hown
    obtain ⟨oa, oc, rfl⟩ := hown.shape
    have hl18 : (Se.endsL msg sig).length = 18 := by unfold Se.endsL; simp
    have hDl : D < W.heap.size := (Array.getElem?_eq_some_iff.1 hK).1
    have hSW := Seal3.next HSX.out hB
    have hcv := hv.cell
    have hvlt := hv.lt
    have bwW := hSW.2.2.2.2
    have hwW := hSW.2.2.2.1
    have hDw : w.heap.size ≤ D := by have := HSX.out.2.2.2.2.size; simp at hD; omega
    obtain ⟨x, hx⟩ : ∃ x, Hid (Dg.listL (Se.endsL msg sig) = x) := ⟨_, rfl⟩
    have hj := joinL_ends (fun k => Dg.chainL (15 - (Se.digsL msg).getD k 0) (sig.getD k [])) (fun k => chainL_le _ _ (by
      by_cases hk : k < sig.length
      · have := List.all_eq_true.mp hd (sig[k]) (List.getElem_mem hk)
        simp only [Dg.isL, Bool.and_eq_true, beq_iff_eq] at this
        simp [List.getD, List.getElem?_eq_getElem hk, this.1]
      · simp [List.getD, List.getElem?_eq_none (Nat.le_of_not_lt hk)])) (List.range 18)
    rw [List.length_range] at hj
    have hJ : (Dg.joinL (Se.endsL msg sig)).length ≤ 140737488355328 := Nat.le_trans hj (by decide)
    have hxl : x.length = 16 := by rw [← hx.out]; exact Dg.sumL_length _
    have C1 := Lib.hid (fun W' (h : Below W.heap.size W W') => of_any (Se.endsL msg sig) _ x W' (ht.below (below_next bwW h) (Nat.le_refl _)) ((hown.below h).has (by omega)).1 hJ hx)
    have C2 := Lib.hid (fun W' (h : Below W.heap.size W W') => check_any pub x 1 0 [] (.slice pa 0 pc) W' (ht.below (below_next bwW h) (Nat.le_refl _)) ⟨Or.inl ⟨rfl, pa, pc, rfl⟩, pa, pc, rfl, Nat.zero_le _, by decide⟩ (fun s hs => by cases hs) (by simp) (by omega) (by decide) (by decide) (by decide) (by decide))
    have hver : Hid (Se.verL pub msg sig = Tr.checkL pub 1 0 x []) := by
      unfold Hid Se.verL
      rw [hl, hd, hx.out]; rfl
    have hc0 := hSW.1
    have hc2 := hSW.2.2.1
    rw [hl18] at hcv C1
    have SN := Lib.hid (fun (A B : World) (h : A.cell? ⟨w.heap.size, 0, none⟩ = some (.int .i64 0) ∧ A.cell? ⟨w.heap.size, 2, none⟩ = some (.slice pa 0 pc) ∧ A.cell? ⟨X.heap.size, 0, none⟩ = some (.slice oa 18 oc) ∧ Below W.heap.size W A) (c : Below A.heap.size A B) =>
      And.intro ((c.cell (p := ⟨w.heap.size, 0, none⟩) (Nat.lt_of_lt_of_le hwW h.2.2.2.size)).trans h.1) (And.intro ((c.cell (p := ⟨w.heap.size, 2, none⟩) (Nat.lt_of_lt_of_le hwW h.2.2.2.size)).trans h.2.1) (And.intro ((c.cell (p := ⟨X.heap.size, 0, none⟩) (Nat.lt_of_lt_of_le hvlt h.2.2.2.size)).trans h.2.2.1) (below_next h.2.2.2 c))))
    have hS0 : W.cell? ⟨w.heap.size, 0, none⟩ = some (.int .i64 0) ∧ W.cell? ⟨w.heap.size, 2, none⟩ = some (.slice pa 0 pc) ∧ W.cell? ⟨X.heap.size, 0, none⟩ = some (.slice oa 18 oc) ∧ Below W.heap.size W W := ⟨hc0, hc2, hcv, Below.refl _ _⟩
    have hS1 := SN.out _ _ hS0 (Below.refl _ W).drew
    have HKD := Lib.hid hK
    have HB := Lib.hid bwW
    have hw1 : IntKind.i64.wrap 1 = 1 := by decide
    clear hSW hc0 hc2 hcv hvlt hwW hv hown hB hK bwW hj hJ hx hm hd hl HC hs ht
    go_wp2_with fail
    go_region_held3 (fun Y => Y.cell? ⟨w.heap.size, 0, none⟩ = some (.int .i64 0) ∧ Y.cell? ⟨w.heap.size, 2, none⟩ = some (.slice pa 0 pc) ∧ Y.cell? ⟨X.heap.size, 0, none⟩ = some (.slice oa 18 oc) ∧ Below W.heap.size W Y) (first | exact hS0 | exact hS1 | assumption) (first | (go_at_call 80; with_reducible refine (C1.out _ (And.right (And.right (And.right (by assumption))))).mono ?_; rintro e w1 ⟨rfl, c1⟩; have hSa := SN.out _ _ (by assumption) c1) | (go_at_call 49; with_reducible refine (C2.out _ (And.right (And.right (And.right (by assumption))))).mono ?_; rintro e w2 ⟨rfl, c2⟩; have hSb := SN.out _ _ (by assumption) c2))
    go_wp2_with fail
    have hK2 : w2.heap[D]? = some (.deferred (some [])) := (hSb.2.2.2.block D hDl).trans HKD.out
    refine ⟨by simp, .inl ⟨_, _, rfl, run_takeDeferred hK2, ?_⟩⟩
    exact ⟨_, results_tmp rfl _ _ _, by rw [hver.out]; rfl, (HB.out.trans (hSb.2.2.2.mono HB.out.size)).trans (belowK_b (w := w) (Nat.le_refl _) w2 D _ _ hDw hK2 rfl rfl)⟩
  case stop =>
    rintro D c pre W _ _ h _
    exact h.elim
end Go.Proofs.YteoclpjbeadkpaaGreatDoor
/- WALK: seal.Sign at height 0. -/
namespace Go.Proofs.YteoclpjbeadkpaaGreatDoor
open Go.RowKit Go.Shelf

attribute [local go_sem] Oper.semAt_some

/-- The block of a seal that is being made: its list of texts so far. -/
def BoxO (n₀ B : Nat) (W : World) (ss : List (List UInt8)) : Prop := ∃ v, W.heap[B]? = some (.cells #[.int .i64 0, v, .slice none 0 0] 42 (0, 0)) ∧ OwnS n₀ W v ss
theorem ownS_not {n₀ B : Nat} {W : World} {v : Value} {ss : List (List UInt8)} {cs : Array Value} (h : W.heap[B]? = some (.cells cs 42 (0, 0))) (hr : OwnS n₀ W v ss) : some B ≠ v.ownBlock := by
  rcases hr.2 with ⟨rfl, _⟩ | ⟨g, cap, cur, rfl, _, hgb, _⟩
  · simp [Value.ownBlock]
  · intro e
    obtain rfl : B = g := by simpa [Value.ownBlock] using e
    rw [hgb] at h
    simp at h
theorem BoxO.own {β : Type} (n₀ B : Nat) (f : β → List (List UInt8)) : Own (fun s W => BoxO n₀ B W (f s)) := by
  intro s X Y row ⟨v, hv, hr⟩ hg hrow
  have hlt : B < X.heap.size := (Array.getElem?_eq_some_iff.1 hv).1
  refine ⟨v, (hg.block B hlt (fun e => ?_)).trans hv, World.ownsRow.kept hr hg ?_⟩
  · obtain ⟨o, ho, hc⟩ := hrow B e.symm
    rw [hv] at ho; cases ho; cases hc
  · rcases hr.2 with ⟨rfl, _⟩ | ⟨g, cap, cur, rfl, _, hgb, _⟩
    · exact .inl rfl
    · refine .inr fun e => ?_
      obtain ⟨o, ho, hc⟩ := hrow g (by simpa [Value.ownBlock] using e.symm)
      rw [hgb] at ho; cases ho; cases hc
theorem set_mid_heap {w : World} {b : Nat} {x old z v : Value} {t : TypeId} (h : w.heap[b]? = some (.cells #[x, old, z] t (0, 0))) : (w.setCell ⟨b, 1, none⟩ v).heap[b]? = some (.cells #[x, v, z] t (0, 0)) := by
  simp [World.setCell, Array.getElem?_modify, h]
theorem set_last_heap {w : World} {b : Nat} {x old z v : Value} {t : TypeId} (h : w.heap[b]? = some (.cells #[x, old, z] t (0, 0))) : (w.setCell ⟨b, 2, none⟩ v).heap[b]? = some (.cells #[x, old, v] t (0, 0)) := by
  simp [World.setCell, Array.getElem?_modify, h]
theorem set_fst_heap {w : World} {b : Nat} {x old z v : Value} {t : TypeId} (h : w.heap[b]? = some (.cells #[old, x, z] t (0, 0))) : (w.setCell ⟨b, 0, none⟩ v).heap[b]? = some (.cells #[v, x, z] t (0, 0)) := by
  simp [World.setCell, Array.getElem?_modify, h]
theorem grown_set (W : World) (p : Addr) (v : Value) : W.grownBy (W.setCell p v) (some p.block) :=
  ⟨rfl, rfl, rfl, (KeepsWalks.setCell W _ v).size, fun k _ hk => Below.heap_setCell _ _ _ k (fun e => hk (by rw [e]))⟩
theorem ownS_ne {n₀ B : Nat} {W : World} {v : Value} {ss : List (List UInt8)} (h : B < n₀) (hr : OwnS n₀ W v ss) : some B ≠ v.ownBlock := by
  rcases hr.2 with ⟨rfl, _⟩ | ⟨g, cap, cur, rfl, hb, _⟩
  · simp [Value.ownBlock]
  · intro e
    obtain rfl : B = g := by simpa [Value.ownBlock] using e
    omega
theorem grown_mid (W : World) (b : Nat) (v : Value) : W.grownBy (W.setCell ⟨b, 1, none⟩ v) (some b) :=
  ⟨rfl, rfl, rfl, (KeepsWalks.setCell W _ v).size, fun k _ hk => Below.heap_setCell _ _ _ k (fun e => hk (by rw [e]))⟩

theorem app_runO {n₀ B : Nat} {W : World} {v : Value} {ss : List (List UInt8)} (y : List UInt8) (hv : W.heap[B]? = some (.cells #[.int .i64 0, v, .slice none 0 0] 42 (0, 0))) (hown : OwnS n₀ W v ss) (hn₀ : n₀ ≤ W.heap.size) (hB : n₀ ≤ B) (hn : ss.length ≤ 8796093022206) :
    ∃ g cap w2, (AppS #[v, .slice (some ⟨W.heap.size, 0, none⟩) 1 1]).run Tryz.prog (W.alloc (.cells #[.string ⟨y.toArray⟩] 9)) = .ok (.slice (some ⟨g, 0, none⟩) (ss.length + 1) cap) w2 ∧
      w2.cell? ⟨B, 1, none⟩ = some v ∧ w2.frozen? ⟨B, 1, none⟩ = false ∧ BoxO n₀ B (w2.setCell ⟨B, 1, none⟩ (.slice (some ⟨g, 0, none⟩) (ss.length + 1) cap)) (ss ++ [y]) ∧
      KeepsOthers W (w2.setCell ⟨B, 1, none⟩ (.slice (some ⟨g, 0, none⟩) (ss.length + 1) cap)) ∧ Below n₀ W (w2.setCell ⟨B, 1, none⟩ (.slice (some ⟨g, 0, none⟩) (ss.length + 1) cap)) ∧ Below n₀ W w2 := by
  obtain ⟨i0, hi, hz0, hz1, hz2⟩ := info_parts info_str
  obtain ⟨v', w', hrun, hown', hgrow, hnil⟩ := run_append_own (P := Tryz.prog) (W.alloc (.cells #[.string ⟨y.toArray⟩] 9)) n₀ 27 27 9 i0 (.string ⟨#[]⟩) 1 16 Tryz.underlying27 hi hz0 hz1 hz2 rfl (by decide) v ss.length _ (hown.alloc _) ⟨W.heap.size, 0, none⟩ 1 1 [.string ⟨y.toArray⟩] rfl (by
      intro j u hj
      match j, hj with
      | 0, hj => simp at hj; subst hj; simp [Addr.add]) (by intro u hu; simp at hu; subst hu; rfl) (by unfold maxLen; omega) (by omega) (by simp; omega)
  obtain ⟨g, cap, rfl⟩ := ownsRow_succ hown'
  have hlt : B < W.heap.size := (Array.getElem?_eq_some_iff.1 hv).1
  have hB1 : w'.heap[B]? = some (.cells #[.int .i64 0, v, .slice none 0 0] 42 (0, 0)) :=
    (hgrow.block B (by simp; omega) (ownS_not hv hown)).trans ((heap_alloc_lt _ _ _ hlt).trans hv)
  have h6 : Below n₀ W w' := ((Below.refl n₀ W).alloc hn₀ _).grown hgrow (by simp; omega) (fun k e => by
    rcases hown.2 with ⟨rfl, _⟩ | ⟨g0, _, _, rfl, hg0, _⟩
    · cases e
    · cases e; exact hg0)
  have hown2 : OwnS n₀ w' (.slice (some ⟨g, 0, none⟩) (ss.length + 1) cap) (ss ++ [y]) := by
    unfold OwnS
    rw [List.map_append, List.length_append]
    exact hown'
  refine ⟨g, cap, w', hrun, cell_of_heap hB1, free_of_heap hB1, ⟨_, set_mid_heap hB1, World.ownsRow.kept hown2 (grown_mid w' B _) (.inr (ownS_not hB1 hown2).symm)⟩, ?_, h6.setCell (p := ⟨B, 1, none⟩) hB _, h6⟩
  refine ((KeepsOthers.alloc W _).trans (KeepsOthers.of_grownBy hgrow fun j o ej hj => ?_)).trans (KeepsOthers.setCell _ _ _)
  rcases (World.ownsRow.alloc hown (.cells #[.string ⟨y.toArray⟩] 9)).2 with ⟨rfl, _⟩ | ⟨g, cap, cur, rfl, _, hgb, _⟩
  · simp [Value.ownBlock] at ej
  · obtain rfl : g = j := by simpa [Value.ownBlock] using ej
    rw [hgb] at hj; cases hj; rfl

theorem sig_upto (secret msg : List UInt8) : (upto msg 18).map (fun x => Dg.chainL x.1.2 (Se.startL secret 0 x.1.1)) = Se.sigL secret msg := by
  unfold upto Se.sigL
  rw [List.map_map]
  apply List.map_congr_left
  intro k hk
  rw [List.mem_range] at hk
  show Dg.chainL (dgF msg k).1.2 (Se.startL secret 0 (dgF msg k).1.1) = _
  rw [dgF_one msg k hk, dgF_two]

set_option maxHeartbeats 8000000 in
set_option maxRecDepth 100000 in
theorem sign_any (secret msg : List UInt8) (w : World) (ht : Tab w) (hsec : secret.length ≤ 35184372088832) (hmsg : msg.length ≤ 35184372088832) :
    Calls Tryz.prog 57 #[.string ⟨secret.toArray⟩, .int .i64 0, .int .i64 0, .string ⟨msg.toArray⟩] w fun e w' => ∃ a c pa pc, e = .returned (.tuple #[.agg #[.int .i64 0, .slice a 18 c, .slice pa 0 pc], .int .i64 0]) ∧ HasStrsC w' (.slice a 18 c) (Se.sigL secret msg) ∧ Below w.heap.size w w' := by
  refine (callsIn_wide (n := 5)).1 ?_
  refine callsIn_of_wp_marks Tryz.func57 rfl trivial ?_ rfl
  simp only [Tryz.ntmps57, List.size_toArray, List.length_cons, List.length_nil, Nat.reduceAdd, Nat.reduceSub, Array.replicate_succ, Array.replicate_zero, List.push_toArray, List.append_toArray, List.nil_append, List.cons_append]
  refine wpIn_wide.2 ?_
  go_wp2_with fail
  have hw1 : IntKind.i64.wrap 1 = 1 := by decide
  go_quiet (fail)
  go_wp2_with (go_at_call 78; refine (sdigits_any msg _).mono ?_; rintro e w' ⟨rfl, rfl⟩)
  obtain ⟨X, hX⟩ : ∃ X, (((w.alloc (.cells #[.string ⟨secret.toArray⟩] 9)).alloc (.cells #[.int .i64 0] 3)).alloc (.cells #[.int .i64 0, .slice none 0 0, .slice none 0 0] 42)).drewN nq = X := ⟨_, rfl⟩
  have hXs : X.heap.size = w.heap.size + 1 + 1 + 1 := by rw [← hX]; show ((((w.alloc _).alloc _).alloc _)).heap.size = _; simp
  have hX0 : X.cell? ⟨w.heap.size, 0, none⟩ = some (.string ⟨secret.toArray⟩) := by rw [← hX]; exact cell_of_heap (((heap_alloc_lt _ _ _ (by simp; omega)).trans (heap_alloc_lt _ _ _ (by simp))).trans (heap_alloc_at w _))
  have hX1 : X.cell? ⟨w.heap.size + 1, 0, none⟩ = some (.int .i64 0) := by
    rw [← hX]
    have e := heap_alloc_at (w.alloc (.cells #[.string ⟨secret.toArray⟩] 9)) (.cells #[.int .i64 0] 3)
    rw [World.size_alloc] at e
    exact cell_of_heap ((heap_alloc_lt _ _ _ (by simp)).trans e)
  have hX2 : X.heap[w.heap.size + 1 + 1]? = some (.cells #[.int .i64 0, .slice none 0 0, .slice none 0 0] 42) := by
    rw [← hX]
    have e := heap_alloc_at ((w.alloc (.cells #[.string ⟨secret.toArray⟩] 9)).alloc (.cells #[.int .i64 0] 3)) (.cells #[.int .i64 0, .slice none 0 0, .slice none 0 0] 42)
    rw [World.size_alloc, World.size_alloc] at e
    exact e
  have hXb : Below w.heap.size w X := by
    rw [← hX]
    exact (((((Below.refl _ w).alloc (Nat.le_refl _) _).alloc (by simp) _).alloc (by simp; omega) _)).trans ⟨rfl, rfl, rfl, Nat.le_refl _, fun _ _ => rfl⟩
  rw [hX, ← hXs]
  clear hX
  have bE : BoxO X.heap.size X.heap.size ((X.alloc (.cells #[.int .i64 0, .slice none 0 0, .slice none 0 0] 42)).alloc (.cells #[.string ⟨msg.toArray⟩] 9)) [] := ⟨_, (heap_alloc_lt _ _ _ (by simp)).trans (heap_alloc_at X _), OwnS.nil _ _⟩
  have bN := Boxed.new (X.alloc (.cells #[.int .i64 0, .slice none 0 0, .slice none 0 0] 42)) 9 (.string ⟨msg.toArray⟩)
  rw [World.size_alloc] at bN
  have hB0 : Below X.heap.size X ((X.alloc (.cells #[.int .i64 0, .slice none 0 0, .slice none 0 0] 42)).alloc (.cells #[.string ⟨msg.toArray⟩] 9)) := ((Below.refl _ X).alloc (Nat.le_refl _) _).alloc (by simp) _
  refine (wpIn_wide (n := 5)).1 ?_
  refine rangeW (α := DG) (fun x => .int .i64 (x.1.1 : Int)) (fun x => .int .i64 (x.1.2 : Int)) 34 35 [(34, fun x => .int .i64 (x.1.1 : Int)), (35, fun x => .int .i64 (x.1.2 : Int)), (11, fun x => .int .i64 (x.1.1 : Int)), (12, fun x => .int .i64 (x.1.2 : Int))] rfl (by omega) (gf := 116) (lb := #[.pointer (some ⟨X.heap.size + 1, 0, none⟩)]) rfl trivial (enters_of Tryz.func116 (by kernel_rfl) rfl)
    (digits_stops (5 - 1) (by omega) (X.heap.size + 1) X.heap.size msg (by omega) _ (by simp) (by simp; omega) bN.cell) belowK_t (belowK_b (by simp; omega)) (Below.refl _ _)
    (fun pre W => BoxO X.heap.size X.heap.size W (pre.map fun x => Dg.chainL x.1.2 (Se.startL secret 0 x.1.1)) ∧ Below X.heap.size X W)
    (fun _ _ _ => False)
    (OwnFrom.and (Own.from (BoxO.own _ _ _) _) (ownFrom_below (Nat.le_refl _) (by simp; omega)))
    (fun _ _ _ _ _ hs _ _ => hs)
    ⟨bE, hB0⟩ ?assign ?body ?done ?stop
  case assign =>
    intro l x W K hK
    simp only [List.foldl, List.setIfInBounds_toArray, List.set_cons_succ, List.set_cons_zero] at hK ⊢
    clear bE bN hB0 hX0 hX1 hX2 hXb hXs
    gi_wp2
    exact hK
  case body =>
    rintro l pre x W ⟨hbx, hB⟩ hlt
    simp only [List.foldl, List.setIfInBounds_toArray, List.set_cons_succ, List.set_cons_zero]
    obtain ⟨v, hv, hown⟩ := hbx
    have h18 := x.2.1
    have h15 := x.2.2
    have hwx : w.heap.size < X.heap.size := by omega
    have hwx1 : w.heap.size + 1 < X.heap.size := by omega
    have hXW := hB.size
    have hwl : w.heap.size < W.heap.size := by omega
    have hwl1 : w.heap.size + 1 < W.heap.size := by omega
    have hc0 : W.cell? ⟨w.heap.size, 0, none⟩ = some (.string ⟨secret.toArray⟩) := (hB.cell (p := ⟨w.heap.size, 0, none⟩) hwx).trans hX0
    have hc1 : W.cell? ⟨w.heap.size + 1, 0, none⟩ = some (.int .i64 0) := (hB.cell (p := ⟨w.heap.size + 1, 0, none⟩) hwx1).trans hX1
    have hlt0 : X.heap.size < W.heap.size := (Array.getElem?_eq_some_iff.1 hv).1
    obtain ⟨oa, oc, rfl⟩ := hown.shape
    have hcv : W.cell? ⟨X.heap.size, 1, none⟩ = some (.slice oa (pre.map fun x => Dg.chainL x.1.2 (Se.startL secret 0 x.1.1)).length oc) := cell_of_heap hv
    have hmx : Tryz.prog.follows .mixedOrders = true := by kernel_rfl
    have bwW : Below w.heap.size w W := hXb.trans (hB.mono (by omega))
    obtain ⟨s, hs1⟩ : ∃ s, Hid (Se.startL secret 0 x.1.1 = s) := ⟨_, rfl⟩
    have hsl : s.length ≤ 140737488355328 := by rw [← hs1.out]; unfold Se.startL Dg.listL; rw [Dg.sumL_length]; decide
    obtain ⟨y, hy⟩ : ∃ y, Hid (Dg.chainL x.1.2 s = y) := ⟨_, rfl⟩
    have CS : Hid (∀ A, Below w.heap.size w A → Calls Tryz.prog 101 #[.string ⟨secret.toArray⟩, .int .i64 0, .int .i64 (x.1.1 : Int)] A fun e w' => e = .returned (.string ⟨s.toArray⟩) ∧ Below A.heap.size A w') := fun A hA => start_any secret 0 x.1.1 s A (ht.below hA (Nat.le_refl _)) hsec (by omega) (by omega) hs1
    have CH := Lib.hid (fun W' => chainC s (x.1.2 : Int) y hsl (by omega) (by omega) (by unfold Hid; rw [← hy.out]; congr 1; omega) W')
    have hpl : (pre.map fun x => Dg.chainL x.1.2 (Se.startL secret 0 x.1.1)).length ≤ 8796093022206 := by rw [List.length_map]; omega
    have AP := Lib.hid (fun w1 (c1 : Below W.drew.heap.size W.drew w1) => app_runO y ((c1.block X.heap.size hlt0).trans hv) (hown.below (below_next (Below.refl _ _).drew c1)) (Nat.le_trans hB.size c1.size) (Nat.le_refl _) hpl)
    have HB := Lib.hid hB
    have HK := Lib.hid (fun w1 (c1 : Below W.drew.heap.size W.drew w1) => And.intro (keeps_of_below (below_next (Below.refl W.heap.size W).drew c1)) (Below.mono (below_next (Below.refl W.heap.size W).drew c1) hB.size))
    have HM := Lib.hid (List.map_append (f := fun x : DG => Dg.chainL x.1.2 (Se.startL secret 0 x.1.1)) (l₁ := pre) (l₂ := [x]))
    obtain ⟨os, hos⟩ : ∃ os, pre.map (fun x : DG => Dg.chainL x.1.2 (Se.startL secret 0 x.1.1)) = os := ⟨_, rfl⟩
    rw [hos] at AP hpl HM hcv
    have HY : Hid ([x].map (fun x : DG => Dg.chainL x.1.2 (Se.startL secret 0 x.1.1)) = [y]) := by unfold Hid; rw [← hy.out, ← hs1.out]; rfl
    rw [HY.out] at HM
    have SK := Lib.hid (fun (B : World) (h : Below W.drew.heap.size W.drew B) => And.intro ((h.cell (p := ⟨w.heap.size, 0, none⟩) hwl).trans hc0) ((h.cell (p := ⟨w.heap.size + 1, 0, none⟩) hwl1).trans hc1))
    have SX := Lib.hid (fun (A B : World) (h : Below X.heap.size A B) (q : A.cell? ⟨w.heap.size, 0, none⟩ = some (.string ⟨secret.toArray⟩) ∧ A.cell? ⟨w.heap.size + 1, 0, none⟩ = some (.int .i64 0)) => And.intro ((h.cell (p := ⟨w.heap.size, 0, none⟩) hwx).trans q.1) ((h.cell (p := ⟨w.heap.size + 1, 0, none⟩) hwx1).trans q.2))
    have BW : Hid (Below w.heap.size w W.drew) := bwW.drew
    have hS0 : W.drew.cell? ⟨w.heap.size, 0, none⟩ = some (.string ⟨secret.toArray⟩) ∧ W.drew.cell? ⟨w.heap.size + 1, 0, none⟩ = some (.int .i64 0) := ⟨hc0, hc1⟩
    have hcd : W.drew.cell? ⟨X.heap.size, 1, none⟩ = some (.slice oa os.length oc) := hcv
    clear HY hos hpl hs1 hy hown hv hB bwW hwx hwx1 hwl hwl1 hXW hX0 hX1 hX2 hXb hXs bE bN hB0 ht hc0 hc1 hcv
    gi_wp2
    refine region_round l _ (fun w' => w'.cell? ⟨w.heap.size, 0, none⟩ = some (.string ⟨secret.toArray⟩) ∧ w'.cell? ⟨w.heap.size + 1, 0, none⟩ = some (.int .i64 0)) hmx (fun ⟨_, _, h⟩ => h) (noDefer_all (by rfl)) ?_
    refine wpAnyH_take (i := 0) (v := .pointer (some ⟨X.heap.size, 1, none⟩)) rfl (by kernel_rfl) (by kernel_rfl) (by kernel_rfl) (fun _ _ _ h => h) (Or.inl ⟨by rfl, fun w' hS => by obtain ⟨s1, s2⟩ := hS; go_simp⟩) hS0 ?_
    simp only [Act.put, List.setIfInBounds_toArray, List.set_cons_zero, List.set_cons_succ]
    refine wpAnyH_take (i := 2) (v := .string ⟨secret.toArray⟩) rfl (by kernel_rfl) (by kernel_rfl) (by kernel_rfl) (fun _ _ _ h => h) (Or.inl ⟨by rfl, fun w' hS => by obtain ⟨s1, s2⟩ := hS; go_simp⟩) hS0 ?_
    simp only [Act.put, List.setIfInBounds_toArray, List.set_cons_zero, List.set_cons_succ]
    refine wpAnyH_take (i := 3) (v := .int .i64 0) rfl (by kernel_rfl) (by kernel_rfl) (by kernel_rfl) (fun _ _ _ h => h) (Or.inl ⟨by rfl, fun w' hS => by obtain ⟨s1, s2⟩ := hS; go_simp⟩) hS0 ?_
    simp only [Act.put, List.setIfInBounds_toArray, List.set_cons_zero, List.set_cons_succ]
    refine wpAnyH_take (i := 4) (v := .int .i64 (x.1.1 : Int)) rfl (by kernel_rfl) (by kernel_rfl) (by kernel_rfl) (fun _ _ _ h => h) (Or.inl ⟨by rfl, fun w' hS => by obtain ⟨s1, s2⟩ := hS; go_simp⟩) hS0 ?_
    simp only [Act.put, List.setIfInBounds_toArray, List.set_cons_zero, List.set_cons_succ]
    refine wpAnyH_take (i := 6) (v := .int .i64 (x.1.2 : Int)) rfl (by kernel_rfl) (by kernel_rfl) (by kernel_rfl) (fun _ _ _ h => h) (Or.inl ⟨by rfl, fun w' hS => by obtain ⟨s1, s2⟩ := hS; go_simp⟩) hS0 ?_
    simp only [Act.put, List.setIfInBounds_toArray, List.set_cons_zero, List.set_cons_succ]
    refine wpAnyH_ready (rs := [1, 5]) (by kernel_rfl) (by simp) ?_
    refine AllReadyH.cons rfl (fun K hK => ?_) (AllReadyH.cons rfl (fun K hK => ?_) AllReadyH.nil)
    · skip
      go_simp
      refine hK.out _ _ hS0 (fun _ => ?_)
      clear hK K
      refine wpAnyH_ready (rs := [5]) (by kernel_rfl) (by simp) ?_
      refine AllReadyH.cons rfl (fun K hK => ?_) AllReadyH.nil
      go_simp
      go_wp2_with (go_at_call 101; refine (CS.out _ BW.out).mono ?_; rintro e w1 ⟨rfl, c1⟩)
      have hv1 := (c1.cell (p := ⟨X.heap.size, 1, none⟩) hlt0).trans hcd
      have hS1 := SK.out _ c1
      refine hK.out _ _ hS1 (fun _ => ?_)
      clear hK K
      refine wpAnyH_ready (rs := [7]) (by kernel_rfl) (by simp) ?_
      refine AllReadyH.cons rfl (fun K hK => ?_) AllReadyH.nil
      go_simp
      go_wp2_with (go_at_call 79; refine (CH.out _).mono ?_; rintro e w2 ⟨rfl, c2⟩)
      have c3 := c1.trans (c2.mono c1.size)
      obtain ⟨g, cp, w3, hrun, hc2, hf2, hbx2, hk2, hb2, hb3⟩ := AP.out w2 c3
      have hv2 := (c3.cell (p := ⟨X.heap.size, 1, none⟩) hlt0).trans hcd
      have ha1 : Below w2.heap.size w2 (w2.alloc (.cells #[.string ⟨y.toArray⟩] 9)) := (Below.refl _ w2).alloc (Nat.le_refl _) _
      have c4 := c3.trans (ha1.mono c3.size)
      have hv3 := (c4.cell (p := ⟨X.heap.size, 1, none⟩) hlt0).trans hcd
      have hS2 := SK.out _ c3
      have hS3 := SK.out _ c4
      have hS4 := SX.out _ _ hb3 hS2
      have hS5 := SX.out _ _ hb2 hS2
      refine hK.out _ _ hS2 (fun _ => ?_)
      clear hK K
      refine wpAnyH_ready (rs := [8]) (by kernel_rfl) (by simp) ?_
      refine AllReadyH.cons rfl (fun K hK => ?_) AllReadyH.nil
      go_simp
      refine hK.out _ _ hS3 (fun _ => ?_)
      clear hK K
      refine wpAnyH_ready (rs := [9]) (by kernel_rfl) (by simp) ?_
      refine AllReadyH.cons rfl (fun K hK => ?_) AllReadyH.nil
      rw [if_pos (by rfl)]
      refine wp_appS (by rfl) (by rfl) (by rfl) (by rfl) hrun ?_
      simp only [Act.put, List.setIfInBounds_toArray, List.set_cons_zero, List.set_cons_succ]
      refine hK.out _ _ hS4 (fun _ => ?_)
      clear hK K
      refine wpAnyH_ready (rs := [10]) (by kernel_rfl) (by simp) ?_
      refine AllReadyH.cons rfl (fun K hK => ?_) AllReadyH.nil
      go_simp
      refine hK.out _ _ hS4 (fun _ => ?_)
      clear hK K
      refine wpAnyH_ready (rs := [11]) (by kernel_rfl) (by simp) ?_
      refine AllReadyH.cons rfl (fun K hK => ?_) AllReadyH.nil
      go_simp
      refine hK.out _ _ hS5 (fun _ => ?_)
      clear hK K
      refine wpAnyH_done (by kernel_rfl) ?_ _
      exact ⟨((HK.out w2 c3).1.trans hk2).from _, (HK.out w2 c3).2.trans hb2, by rw [HM.out]; exact hbx2, HB.out.trans ((HK.out w2 c3).2.trans hb2)⟩
    · skip
      go_simp
      go_wp2_with (go_at_call 101; refine (CS.out _ BW.out).mono ?_; rintro e w1 ⟨rfl, c1⟩)
      have hv1 := (c1.cell (p := ⟨X.heap.size, 1, none⟩) hlt0).trans hcd
      have hS1 := SK.out _ c1
      refine hK.out _ _ hS1 (fun _ => ?_)
      clear hK K
      refine wpAnyH_ready (rs := [1, 7]) (by kernel_rfl) (by simp) ?_
      refine AllReadyH.cons rfl (fun K hK => ?_) (AllReadyH.cons rfl (fun K hK => ?_) AllReadyH.nil)
      · skip
        go_simp
        refine hK.out _ _ hS1 (fun _ => ?_)
        clear hK K
        refine wpAnyH_ready (rs := [7]) (by kernel_rfl) (by simp) ?_
        refine AllReadyH.cons rfl (fun K hK => ?_) AllReadyH.nil
        go_simp
        go_wp2_with (go_at_call 79; refine (CH.out _).mono ?_; rintro e w2 ⟨rfl, c2⟩)
        have c3 := c1.trans (c2.mono c1.size)
        obtain ⟨g, cp, w3, hrun, hc2, hf2, hbx2, hk2, hb2, hb3⟩ := AP.out w2 c3
        have hv2 := (c3.cell (p := ⟨X.heap.size, 1, none⟩) hlt0).trans hcd
        have ha1 : Below w2.heap.size w2 (w2.alloc (.cells #[.string ⟨y.toArray⟩] 9)) := (Below.refl _ w2).alloc (Nat.le_refl _) _
        have c4 := c3.trans (ha1.mono c3.size)
        have hv3 := (c4.cell (p := ⟨X.heap.size, 1, none⟩) hlt0).trans hcd
        have hS2 := SK.out _ c3
        have hS3 := SK.out _ c4
        have hS4 := SX.out _ _ hb3 hS2
        have hS5 := SX.out _ _ hb2 hS2
        refine hK.out _ _ hS2 (fun _ => ?_)
        clear hK K
        refine wpAnyH_ready (rs := [8]) (by kernel_rfl) (by simp) ?_
        refine AllReadyH.cons rfl (fun K hK => ?_) AllReadyH.nil
        go_simp
        refine hK.out _ _ hS3 (fun _ => ?_)
        clear hK K
        refine wpAnyH_ready (rs := [9]) (by kernel_rfl) (by simp) ?_
        refine AllReadyH.cons rfl (fun K hK => ?_) AllReadyH.nil
        rw [if_pos (by rfl)]
        refine wp_appS (by rfl) (by rfl) (by rfl) (by rfl) hrun ?_
        simp only [Act.put, List.setIfInBounds_toArray, List.set_cons_zero, List.set_cons_succ]
        refine hK.out _ _ hS4 (fun _ => ?_)
        clear hK K
        refine wpAnyH_ready (rs := [10]) (by kernel_rfl) (by simp) ?_
        refine AllReadyH.cons rfl (fun K hK => ?_) AllReadyH.nil
        go_simp
        refine hK.out _ _ hS4 (fun _ => ?_)
        clear hK K
        refine wpAnyH_ready (rs := [11]) (by kernel_rfl) (by simp) ?_
        refine AllReadyH.cons rfl (fun K hK => ?_) AllReadyH.nil
        go_simp
        refine hK.out _ _ hS5 (fun _ => ?_)
        clear hK K
        refine wpAnyH_done (by kernel_rfl) ?_ _
        exact ⟨((HK.out w2 c3).1.trans hk2).from _, (HK.out w2 c3).2.trans hb2, by rw [HM.out]; exact hbx2, HB.out.trans ((HK.out w2 c3).2.trans hb2)⟩
      · skip
        go_simp
        go_wp2_with (go_at_call 79; refine (CH.out _).mono ?_; rintro e w2 ⟨rfl, c2⟩)
        have c3 := c1.trans (c2.mono c1.size)
        obtain ⟨g, cp, w3, hrun, hc2, hf2, hbx2, hk2, hb2, hb3⟩ := AP.out w2 c3
        have hv2 := (c3.cell (p := ⟨X.heap.size, 1, none⟩) hlt0).trans hcd
        have ha1 : Below w2.heap.size w2 (w2.alloc (.cells #[.string ⟨y.toArray⟩] 9)) := (Below.refl _ w2).alloc (Nat.le_refl _) _
        have c4 := c3.trans (ha1.mono c3.size)
        have hv3 := (c4.cell (p := ⟨X.heap.size, 1, none⟩) hlt0).trans hcd
        have hS2 := SK.out _ c3
        have hS3 := SK.out _ c4
        have hS4 := SX.out _ _ hb3 hS2
        have hS5 := SX.out _ _ hb2 hS2
        refine hK.out _ _ hS2 (fun _ => ?_)
        clear hK K
        refine wpAnyH_ready (rs := [1, 8]) (by kernel_rfl) (by simp) ?_
        refine AllReadyH.cons rfl (fun K hK => ?_) (AllReadyH.cons rfl (fun K hK => ?_) AllReadyH.nil)
        · skip
          go_simp
          refine hK.out _ _ hS2 (fun _ => ?_)
          clear hK K
          refine wpAnyH_ready (rs := [8]) (by kernel_rfl) (by simp) ?_
          refine AllReadyH.cons rfl (fun K hK => ?_) AllReadyH.nil
          go_simp
          refine hK.out _ _ hS3 (fun _ => ?_)
          clear hK K
          refine wpAnyH_ready (rs := [9]) (by kernel_rfl) (by simp) ?_
          refine AllReadyH.cons rfl (fun K hK => ?_) AllReadyH.nil
          rw [if_pos (by rfl)]
          refine wp_appS (by rfl) (by rfl) (by rfl) (by rfl) hrun ?_
          simp only [Act.put, List.setIfInBounds_toArray, List.set_cons_zero, List.set_cons_succ]
          refine hK.out _ _ hS4 (fun _ => ?_)
          clear hK K
          refine wpAnyH_ready (rs := [10]) (by kernel_rfl) (by simp) ?_
          refine AllReadyH.cons rfl (fun K hK => ?_) AllReadyH.nil
          go_simp
          refine hK.out _ _ hS4 (fun _ => ?_)
          clear hK K
          refine wpAnyH_ready (rs := [11]) (by kernel_rfl) (by simp) ?_
          refine AllReadyH.cons rfl (fun K hK => ?_) AllReadyH.nil
          go_simp
          refine hK.out _ _ hS5 (fun _ => ?_)
          clear hK K
          refine wpAnyH_done (by kernel_rfl) ?_ _
          exact ⟨((HK.out w2 c3).1.trans hk2).from _, (HK.out w2 c3).2.trans hb2, by rw [HM.out]; exact hbx2, HB.out.trans ((HK.out w2 c3).2.trans hb2)⟩
        · skip
          go_simp
          refine hK.out _ _ hS3 (fun _ => ?_)
          clear hK K
          refine wpAnyH_ready (rs := [1]) (by kernel_rfl) (by simp) ?_
          refine AllReadyH.cons rfl (fun K hK => ?_) AllReadyH.nil
          go_simp
          refine hK.out _ _ hS3 (fun _ => ?_)
          clear hK K
          refine wpAnyH_ready (rs := [9]) (by kernel_rfl) (by simp) ?_
          refine AllReadyH.cons rfl (fun K hK => ?_) AllReadyH.nil
          rw [if_pos (by rfl)]
          refine wp_appS (by rfl) (by rfl) (by rfl) (by rfl) hrun ?_
          simp only [Act.put, List.setIfInBounds_toArray, List.set_cons_zero, List.set_cons_succ]
          refine hK.out _ _ hS4 (fun _ => ?_)
          clear hK K
          refine wpAnyH_ready (rs := [10]) (by kernel_rfl) (by simp) ?_
          refine AllReadyH.cons rfl (fun K hK => ?_) AllReadyH.nil
          go_simp
          refine hK.out _ _ hS4 (fun _ => ?_)
          clear hK K
          refine wpAnyH_ready (rs := [11]) (by kernel_rfl) (by simp) ?_
          refine AllReadyH.cons rfl (fun K hK => ?_) AllReadyH.nil
          go_simp
          refine hK.out _ _ hS5 (fun _ => ?_)
          clear hK K
          refine wpAnyH_done (by kernel_rfl) ?_ _
          exact ⟨((HK.out w2 c3).1.trans hk2).from _, (HK.out w2 c3).2.trans hb2, by rw [HM.out]; exact hbx2, HB.out.trans ((HK.out w2 c3).2.trans hb2)⟩
  case done =>
    rintro D ys W hD rfl ⟨⟨v, hv, hown⟩, hB⟩ hK
    rw [sig_upto] at hown
    obtain ⟨oa, oc, rfl⟩ := hown.shape
    have hl18 : (Se.sigL secret msg).length = 18 := by unfold Se.sigL; simp
    rw [hl18] at hv
    have hDl : D < W.heap.size := (Array.getElem?_eq_some_iff.1 hK).1
    have hlt0 : X.heap.size < W.heap.size := (Array.getElem?_eq_some_iff.1 hv).1
    have hwx : w.heap.size < X.heap.size := by omega
    have hwx1 : w.heap.size + 1 < X.heap.size := by omega
    have hwx2 : w.heap.size + 1 + 1 < X.heap.size := by omega
    have hDw : w.heap.size ≤ D := by simp at hD; omega
    have hTW : W.heap[w.heap.size + 1 + 1]? = some (.cells #[.int .i64 0, .slice none 0 0, .slice none 0 0] 42) := (hB.block _ hwx2).trans hX2
    have hc0 : W.cell? ⟨w.heap.size, 0, none⟩ = some (.string ⟨secret.toArray⟩) := (hB.cell (p := ⟨w.heap.size, 0, none⟩) hwx).trans hX0
    have hc1 : W.cell? ⟨w.heap.size + 1, 0, none⟩ = some (.int .i64 0) := (hB.cell (p := ⟨w.heap.size + 1, 0, none⟩) hwx1).trans hX1
    have hkm : Mod [Se.keyL secret 0] := fun s hs => by
      rw [List.mem_singleton.mp hs]; unfold Se.keyL Dg.listL; rw [Dg.sumL_length]; decide
    have CK : Hid (∀ A, (Below X.heap.size X A ∧ A.cell? ⟨w.heap.size, 0, none⟩ = some (.string ⟨secret.toArray⟩) ∧ A.cell? ⟨w.heap.size + 1, 0, none⟩ = some (.int .i64 0)) → Calls Tryz.prog 100 #[.string ⟨secret.toArray⟩, .int .i64 0] A fun e w' => ∃ u, e = .returned u ∧ OwnS A.heap.size w' u [Se.keyL secret 0] ∧ Below A.heap.size A w') :=
      fun A hA => keys_any secret A (ht.below (hXb.trans (hA.1.mono (by omega))) (Nat.le_refl _)) hsec
    have CP : Hid (∀ u A, (Below X.heap.size X A ∧ A.cell? ⟨w.heap.size, 0, none⟩ = some (.string ⟨secret.toArray⟩) ∧ A.cell? ⟨w.heap.size + 1, 0, none⟩ = some (.int .i64 0)) → HasStrsC A u [Se.keyL secret 0] → Calls Tryz.prog 44 #[u, .int .i64 0] A fun e w' => ∃ pa pc, e = .returned (.tuple #[.slice pa 0 pc, .int .i64 0]) ∧ Below A.heap.size A w') :=
      fun u A hA hu => (path_any [Se.keyL secret 0] u 0 A (ht.below (hXb.trans (hA.1.mono (by omega))) (Nat.le_refl _)) hu hkm (by simp) (by simp)).mono (fun e w' ⟨u2, h1, h2, h3⟩ => by
        rw [Tr.pathL_short _ _ (by simp)] at h2
        obtain ⟨pa, pc, rfl⟩ := h2.shape
        exact ⟨pa, pc, h1, h3⟩)
    have SN : Hid (∀ A B, (Below X.heap.size X A ∧ A.cell? ⟨w.heap.size, 0, none⟩ = some (.string ⟨secret.toArray⟩) ∧ A.cell? ⟨w.heap.size + 1, 0, none⟩ = some (.int .i64 0)) → Below X.heap.size A B → (Below X.heap.size X B ∧ B.cell? ⟨w.heap.size, 0, none⟩ = some (.string ⟨secret.toArray⟩) ∧ B.cell? ⟨w.heap.size + 1, 0, none⟩ = some (.int .i64 0))) :=
      fun A B h c => ⟨h.1.trans c, (c.cell (p := ⟨w.heap.size, 0, none⟩) hwx).trans h.2.1, (c.cell (p := ⟨w.heap.size + 1, 0, none⟩) hwx1).trans h.2.2⟩
    have hS0 : Below X.heap.size X W ∧ W.cell? ⟨w.heap.size, 0, none⟩ = some (.string ⟨secret.toArray⟩) ∧ W.cell? ⟨w.heap.size + 1, 0, none⟩ = some (.int .i64 0) := ⟨hB, hc0, hc1⟩
    have hS1 := SN.out _ _ hS0 (Below.refl _ W).drew
    have HKD := Lib.hid hK
    have HV := Lib.hid hv
    have HT := Lib.hid hTW
    have HB := Lib.hid hXb
    have HOW := Lib.hid hown
    have HL18 := Lib.hid hl18
    have hXW := hB.size
    clear hv hown hB hK hkm hX0 hX1 hX2 hXb bE bN hB0 ht hc0 hc1 hTW hl18 hXs
    go_wp2_with fail
    go_region_held3 (fun Y => Below X.heap.size X Y ∧ Y.cell? ⟨w.heap.size, 0, none⟩ = some (.string ⟨secret.toArray⟩) ∧ Y.cell? ⟨w.heap.size + 1, 0, none⟩ = some (.int .i64 0)) (first | exact hS0 | exact hS1 | assumption) (first
      | (go_at_call 100; (with_reducible refine (CK.out _ (by assumption)).mono ?_); rintro e w1 ⟨u, rfl, hu, c1⟩; have hSa := SN.out _ _ (by assumption) (c1.mono hXW); have hv1 := (c1.block _ hlt0).trans HV.out; have hT1 := (c1.block _ (show w.heap.size + 1 + 1 < W.drew.heap.size from Nat.lt_trans hwx2 hlt0)).trans HT.out; have hD1 := (c1.block _ hDl).trans HKD.out; have hu2 := hu.has (by simp))
      | (go_at_call 44; (with_reducible refine (CP.out _ _ (by assumption) (by assumption)).mono ?_); rintro e w2 ⟨pa, pc, rfl, c2⟩; have hSb := SN.out _ _ (by assumption) (c2.mono (Nat.le_trans hXW c1.size)); have hv2 := (c2.block _ (Nat.lt_of_lt_of_le hlt0 c1.size)).trans hv1; have hT2 := (c2.block _ (Nat.lt_of_lt_of_le (show w.heap.size + 1 + 1 < W.drew.heap.size from Nat.lt_trans hwx2 hlt0) c1.size)).trans hT1; have hD2 := (c2.block _ (Nat.lt_of_lt_of_le hDl c1.size)).trans hD1; have hcl := cell_of_heap (i := 2) hv2; have hfl := free_of_heap (i := 2) hv2; have hSc := SN.out _ _ hSb ((Below.refl X.heap.size w2).setCell (p := ⟨X.heap.size, 2, none⟩) (Nat.le_refl _) (.slice pa 0 pc))))
    obtain ⟨w3, hw3⟩ : ∃ w3, Hid (w2.setCell ⟨X.heap.size, 2, none⟩ (.slice pa 0 pc) = w3) := ⟨_, rfl⟩
    rw [hw3.out] at hSc ⊢
    have hO : w3.heap[X.heap.size]? = some (.cells #[.int .i64 0, .slice oa 18 oc, .slice pa 0 pc] 42 (0, 0)) := by rw [← hw3.out]; exact set_last_heap hv2
    have b23 : Below X.heap.size w2 w3 := by rw [← hw3.out]; exact (Below.refl X.heap.size w2).setCell (p := ⟨X.heap.size, 2, none⟩) (Nat.le_refl _) _
    have hT3 := (b23.block _ hwx2).trans hT2
    have hD3 : w3.heap[D]? = some (.deferred (some [])) := by rw [← hw3.out]; exact (Below.heap_setCell _ _ _ D (fun e => by rw [e] at hD2; rw [hD2] at hv2; cases hv2)).trans hD2
    have o0 : w3.cell? ⟨X.heap.size, 0, none⟩ = some (.int .i64 0) := cell_of_heap hO
    have o1 : w3.cell? ⟨X.heap.size, 1, none⟩ = some (.slice oa 18 oc) := cell_of_heap hO
    have o2 : w3.cell? ⟨X.heap.size, 2, none⟩ = some (.slice pa 0 pc) := cell_of_heap hO
    have q0 : w3.cell? ⟨w.heap.size + 1 + 1, 0, none⟩ = some (.int .i64 0) := cell_of_heap hT3
    have q1 : w3.cell? ⟨w.heap.size + 1 + 1, 1, none⟩ = some (.slice none 0 0) := cell_of_heap hT3
    have q2 : w3.cell? ⟨w.heap.size + 1 + 1, 2, none⟩ = some (.slice none 0 0) := cell_of_heap hT3
    have r0 : w3.frozen? ⟨w.heap.size + 1 + 1, 0, none⟩ = false := free_of_heap hT3
    have r1 : w3.frozen? ⟨w.heap.size + 1 + 1, 1, none⟩ = false := free_of_heap hT3
    have r2 : w3.frozen? ⟨w.heap.size + 1 + 1, 2, none⟩ = false := free_of_heap hT3
    have HH := Lib.hid (And.intro hO (And.intro b23 (And.intro hT3 (And.intro hD3 (And.intro c1 (And.intro c2 (And.intro hSb hSc)))))))
    clear hO b23 hT3 hD3 hT2 hD2 hv2 hT1 hD1 hv1 hcl hfl hSa hSb hSc
    go_wp2_with fail
    obtain ⟨hO, b23, hT3, hD3, c1, c2, hSb, hSc⟩ := HH.out
    have hTne : w.heap.size + 1 + 1 ≠ D := fun e => by rw [e] at hT3; rw [hD3] at hT3; cases hT3
    have own1 := OwnS.below (w := W.drew) HOW.out c1
    have own2 := OwnS.below own1 c2
    have hv2 := (c2.block _ (Nat.lt_of_lt_of_le hlt0 c1.size)).trans ((c1.block _ hlt0).trans HV.out)
    have own3 := World.ownsRow.kept own2 (grown_set w2 ⟨X.heap.size, 2, none⟩ (.slice pa 0 pc)) (.inr (ownS_not hv2 own2).symm)
    rw [hw3.out] at own3
    have own4 := World.ownsRow.kept own3 (grown_set w3 ⟨w.heap.size + 1 + 1, 0, none⟩ (.int .i64 0)) (.inr (ownS_ne hwx2 own3).symm)
    have own5 := World.ownsRow.kept own4 (grown_set _ ⟨w.heap.size + 1 + 1, 1, none⟩ (.slice oa 18 oc)) (.inr (ownS_ne hwx2 own3).symm)
    have own6 := World.ownsRow.kept own5 (grown_set _ ⟨w.heap.size + 1 + 1, 2, none⟩ (.slice pa 0 pc)) (.inr (ownS_ne hwx2 own3).symm)
    have hT6 := set_last_heap (v := .slice pa 0 pc) (set_mid_heap (v := .slice oa 18 oc) (set_fst_heap (v := .int .i64 0) hT3))
    have hD6 := (Below.heap_setCell ((w3.setCell ⟨w.heap.size + 1 + 1, 0, none⟩ (.int .i64 0)).setCell ⟨w.heap.size + 1 + 1, 1, none⟩ (.slice oa 18 oc)) ⟨w.heap.size + 1 + 1, 2, none⟩ (.slice pa 0 pc) D hTne.symm).trans ((Below.heap_setCell _ ⟨w.heap.size + 1 + 1, 1, none⟩ (.slice oa 18 oc) D hTne.symm).trans ((Below.heap_setCell _ ⟨w.heap.size + 1 + 1, 0, none⟩ (.int .i64 0) D hTne.symm).trans hD3))
    have bw6 := ((((HB.out.trans (hSc.1.mono (Nat.le_of_lt hwx))).setCell (p := ⟨w.heap.size + 1 + 1, 0, none⟩) (show w.heap.size ≤ w.heap.size + 1 + 1 by omega) (.int .i64 0)).setCell (p := ⟨w.heap.size + 1 + 1, 1, none⟩) (show w.heap.size ≤ w.heap.size + 1 + 1 by omega) (.slice oa 18 oc)).setCell (p := ⟨w.heap.size + 1 + 1, 2, none⟩) (show w.heap.size ≤ w.heap.size + 1 + 1 by omega) (.slice pa 0 pc))
    obtain ⟨w6, hw6⟩ : ∃ w6, ((w3.setCell ⟨w.heap.size + 1 + 1, 0, none⟩ (.int .i64 0)).setCell ⟨w.heap.size + 1 + 1, 1, none⟩ (.slice oa 18 oc)).setCell ⟨w.heap.size + 1 + 1, 2, none⟩ (.slice pa 0 pc) = w6 := ⟨_, rfl⟩
    rw [hw6] at own6 hT6 hD6 bw6 ⊢
    have own7 := ownsRow_putObj own6 (.deferred none) hD6 rfl
    have hT7 := (World.putObj_heap_other (w := w6) (o := .deferred none) hTne).trans hT6
    have z0 : (w6.putObj D (.deferred none)).cell? ⟨w.heap.size + 1 + 1, 0, none⟩ = some (.int .i64 0) := cell_of_heap hT7
    have z1 : (w6.putObj D (.deferred none)).cell? ⟨w.heap.size + 1 + 1, 1, none⟩ = some (.slice oa 18 oc) := cell_of_heap hT7
    have z2 : (w6.putObj D (.deferred none)).cell? ⟨w.heap.size + 1 + 1, 2, none⟩ = some (.slice pa 0 pc) := cell_of_heap hT7
    have hfin : HasStrsC (w6.putObj D (.deferred none)) (.slice oa 18 oc) (Se.sigL secret msg) := OwnS.has (B := X.heap.size) (HL18.out ▸ own7) (by rw [HL18.out]; decide)
    have bfin := bw6.trans (belowK_b (w := w) (Nat.le_refl _) w6 D _ (.deferred none) hDw hD6 rfl rfl)
    clear own1 own2 own3 own4 own5 own6 own7 hT6 hT7 hD3 hT3 hO hv2 b23 c1 c2 hSb hSc HH o0 o1 o2 q0 q1 q2 r0 r1 r2 hw6 bw6
    refine ⟨by simp, .inl ⟨_, _, rfl, run_takeDeferred hD6, ?_⟩⟩
    refine ⟨.tuple #[.agg #[.int .i64 0, .slice oa 18 oc, .slice pa 0 pc], .int .i64 0], ?_, oa, oc, pa, pc, rfl, hfin, bfin⟩
    simp [results, Tryz.f57, go_sem, z0, z1, z2]
  case stop =>
    rintro D c pre W _ _ h _
    exact h.elim
end Go.Proofs.YteoclpjbeadkpaaGreatDoor
