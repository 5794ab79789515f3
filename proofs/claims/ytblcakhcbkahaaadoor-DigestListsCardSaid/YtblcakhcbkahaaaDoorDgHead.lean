/- WALK: the fixed examples of layer 1's statements hold. -/
import Derived.Test.YtblcakhcbkahaaaDoorDgRef3
namespace Go.Proofs.YtblcakhcbkahaaaDoor
open Go.RowKit

theorem below_next {w a b : World} (h : Below w.heap.size w a) (k : Below a.heap.size a b) : Below w.heap.size w b := h.trans (k.mono h.size)
theorem hasStrs_alloc (w : World) (ss : List (List UInt8)) (c : Nat) (h : 0 < ss.length) : HasStrs (w.alloc (.cells (ss.map fun s => Value.string ⟨s.toArray⟩).toArray 9)) (.slice (some ⟨w.heap.size, 0, none⟩) ss.length c) ss := by
  refine Or.inr ⟨h, w.heap.size, 0, c, rfl, by simp, fun j hj => ?_⟩
  rw [World.cell?_alloc_at _ _ _ _ rfl]
  simp [List.getD, List.getElem?_eq_getElem hj]

theorem isA (w : World) : Calls Tryd.prog 18 #[.string ⟨#[48, 49, 50, 51, 52, 53, 54, 55, 56, 57, 97, 98, 99, 100, 101, 102]⟩] w fun e w' => e = .returned (.bool true) ∧ Below w.heap.size w w' :=
  is_any [48, 49, 50, 51, 52, 53, 54, 55, 56, 57, 97, 98, 99, 100, 101, 102] w (by decide)
theorem isB (w : World) : Calls Tryd.prog 18 #[.string ⟨#[48, 49, 50, 51, 52, 53, 54, 55, 56, 57, 97, 98, 99, 100, 101, 70]⟩] w fun e w' => e = .returned (.bool false) ∧ Below w.heap.size w w' :=
  is_any [48, 49, 50, 51, 52, 53, 54, 55, 56, 57, 97, 98, 99, 100, 101, 70] w (by decide)
theorem isC (w : World) : Calls Tryd.prog 18 #[.string ⟨#[]⟩] w fun e w' => e = .returned (.bool false) ∧ Below w.heap.size w w' :=
  is_any [] w (by decide)
theorem sumC (l : List UInt8) (x : List UInt8) (hl : l.length ≤ 140737488355328) (hx : Hid (Dg.sumL l = x)) (w : World) : Calls Tryd.prog 12 #[.string ⟨l.toArray⟩] w fun e w' => e = .returned (.string ⟨x.toArray⟩) ∧ Below w.heap.size w w' := by
  have h := sum_any ⟨l.toArray⟩ w (by show l.length ≤ _; exact hl)
  rw [show (⟨l.toArray⟩ : ByteArray).data.toList = l from rfl, hx.out] at h
  exact h
theorem chainC (l : List UInt8) (n : Int) (x : List UInt8) (hl : l.length ≤ 140737488355328) (h0 : -9223372036854775808 ≤ n) (h1 : n ≤ 9223372036854775807) (hx : Hid (Dg.chainL (max 0 (min n 1000)).toNat l = x)) (w : World) : Calls Tryd.prog 16 #[.string ⟨l.toArray⟩, .int .i64 n] w fun e w' => e = .returned (.string ⟨x.toArray⟩) ∧ Below w.heap.size w w' := by
  have h := chain_any l n w hl h0 h1
  rw [hx.out] at h
  exact h
theorem listC (ss : List (List UInt8)) (v : Value) (x : List UInt8) (w : World) (ht : Tab w) (hv : HasStrs w v ss) (hJ : (Dg.joinL ss).length ≤ 140737488355328) (hx : Hid (Dg.listL ss = x)) :
    Calls Tryd.prog 14 #[v] w fun e w' => e = .returned (.string ⟨x.toArray⟩) ∧ Below w.heap.size w w' := by
  have h := list_any ss v w ht hv hJ
  rw [hx.out] at h
  exact h

set_option maxHeartbeats 1000000 in
set_option maxRecDepth 100000 in
theorem head_any (w : World) (ht : Tab w) : Calls Tryd.prog 10 #[] w fun e w' => e = .returned (.bool true) ∧ Below w.heap.size w w' := by
  obtain ⟨x1, h1⟩ : ∃ x, Hid (Dg.sumL [49, 58, 97, 50, 58, 98, 99] = x) := ⟨_, rfl⟩
  obtain ⟨x2, h2⟩ : ∃ x, Hid (Dg.sumL [120] = x) := ⟨_, rfl⟩
  obtain ⟨x3, h3⟩ : ∃ x, Hid (Dg.sumL x2 = x) := ⟨_, rfl⟩
  obtain ⟨x4, h4⟩ : ∃ x, Hid (Dg.sumL [] = x) := ⟨_, rfl⟩
  obtain ⟨x5, h5⟩ : ∃ x, Hid (Dg.sumL [0] = x) := ⟨_, rfl⟩
  obtain ⟨x6, h6⟩ : ∃ x, Hid (Dg.sumL [1] = x) := ⟨_, rfl⟩
  have e1 : Hid (Dg.listL [[97], [98, 99]] = x1) := h1
  have e2 : Hid (Dg.chainL (max 0 (min (2 : Int) 1000)).toNat [120] = x3) := by
    unfold Hid; rw [show (max 0 (min (2 : Int) 1000)).toNat = 2 from rfl, Dg.chainL, Dg.chainL, Dg.chainL, h2.out, h3.out]
  have e0 : Hid (Dg.chainL (max 0 (min (0 : Int) 1000)).toNat [120] = [120]) := rfl
  have l2 : x2.length ≤ 140737488355328 := by rw [← h2.out, Dg.sumL_length]; decide
  have n45 : (x4 == x5) = false := by
    rw [beq_eq_false_iff_ne]; intro e; rw [← h4.out, ← h5.out] at e; have := Dg.sumL_short (by decide) (by decide) e; simp at this
  have n64 : (x6 == x4) = false := by
    rw [beq_eq_false_iff_ne]; intro e; rw [← h6.out, ← h4.out] at e; have := Dg.sumL_short (by decide) (by decide) e; simp at this
  go_enter Tryd.func10, Tryd.ntmps10
  go_wp2_with fail
  refine (isA _).mono ?_
  rintro e w1 ⟨rfl, b1⟩
  go_wp2_with fail
  refine (isB _).mono ?_
  rintro e w2 ⟨rfl, c⟩
  have b2 := below_next b1 c; clear c b1
  go_wp2_with fail
  refine (isC _).mono ?_
  rintro e w3 ⟨rfl, c⟩
  have b3 := below_next b2 c; clear c b2
  go_wp2_with fail
  refine (listC [[97], [98, 99]] _ x1 _ (ht.below (b3.alloc b3.size _) (Nat.le_refl _)) (hasStrs_alloc _ _ 2 (by decide)) (by decide) e1).mono ?_
  rintro e w4 ⟨rfl, c⟩
  have b4 := below_next (b3.alloc b3.size _) c; clear c b3
  go_wp2_with fail
  refine (sumC [49, 58, 97, 50, 58, 98, 99] x1 (by decide) h1 _).mono ?_
  rintro e w5 ⟨rfl, c⟩
  have b5 := below_next b4 c; clear c b4
  go_wp2_with fail
  refine (chainC [120] 0 [120] (by decide) (by decide) (by decide) e0 _).mono ?_
  rintro e w6 ⟨rfl, c⟩
  have b6 := below_next b5 c; clear c b5
  go_wp2_with fail
  refine (chainC [120] 2 x3 (by decide) (by decide) (by decide) e2 _).mono ?_
  rintro e w7 ⟨rfl, c⟩
  have b7 := below_next b6 c; clear c b6
  go_wp2_with fail
  refine (sumC [120] x2 (by decide) h2 _).mono ?_
  rintro e w8 ⟨rfl, c⟩
  have b8 := below_next b7 c; clear c b7
  go_wp2_with fail
  refine (sumC x2 x3 l2 h3 _).mono ?_
  rintro e w9 ⟨rfl, c⟩
  have b9 := below_next b8 c; clear c b8
  go_wp2_with fail
  refine (sumC [] x4 (by decide) h4 _).mono ?_
  rintro e w10 ⟨rfl, c⟩
  have b10 := below_next b9 c; clear c b9
  go_wp2_with fail
  refine (sumC [0] x5 (by decide) h5 _).mono ?_
  rintro e w11 ⟨rfl, c⟩
  have b11 := below_next b10 c; clear c b10
  go_wp2_with fail
  refine (sumC [1] x6 (by decide) h6 _).mono ?_
  rintro e w12 ⟨rfl, c⟩
  have b12 := below_next b11 c; clear c b11
  go_wp2_with fail
  refine (sumC [] x4 (by decide) h4 _).mono ?_
  rintro e w13 ⟨rfl, c⟩
  have b13 := below_next b12 c; clear c b12
  go_wp2_with fail
  go_ret
  exact ⟨rfl, b13⟩
end Go.Proofs.YtblcakhcbkahaaaDoor
