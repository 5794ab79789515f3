/- WALK: the statement DigestForm returns true. -/
import Derived.Test.YtblcakhcbkahaaaDoorRowBase
namespace Go.Proofs.YtblcakhcbkahaaaDoor
open Go.RowKit

theorem few_cap (ss : List (List UInt8)) (h : fewL ss 200 = true) : capL ss ≤ 6630 := by
  unfold fewL at h
  rw [Bool.and_eq_true] at h
  obtain ⟨h1, h2⟩ := h
  have h3 : ss.length ≤ 30 := by simpa using h2
  have h4 : ∀ t : List (List UInt8), t.all (fun s => decide (s.length ≤ 200)) = true → capL t ≤ t.length * 221 := by
    intro t
    induction t with
    | nil => simp [capL]
    | cons x r ih =>
      intro h
      simp only [List.all_cons, Bool.and_eq_true, decide_eq_true_eq] at h
      have := ih h.2
      rw [capL, List.length_cons]; omega
  have := h4 ss h1
  omega

theorem isS (x : List UInt8) (w : World) (hl : x.length ≤ 140737488355328) (hx : Hid (Dg.isL x = true)) : Calls Tryd.prog 18 #[.string ⟨x.toArray⟩] w fun e w' => e = .returned (.bool true) ∧ Below w.heap.size w w' := by
  have h := is_any x w hl
  rw [hx.out] at h
  exact h

theorem form_n (n : Nat) : Hid (Dg.chainL (max 0 (min (1 + (n : Int) % 30) 1000)).toNat = Dg.chainL (1 + n % 30)) := by
  unfold Hid
  congr 1
  omega

set_option maxHeartbeats 1000000 in
set_option maxRecDepth 100000 in
theorem form_walk (l : List UInt8) (ss : List (List UInt8)) (v : Value) (n : Nat) (w : World) (ht : Tab w) (hl : l.length ≤ 140737488355328) (hv : HasStrs w v ss) (hs : Sized ss) (hn : n < 256) :
    Calls Tryd.prog 5 #[.string ⟨l.toArray⟩, v, .int .u8 (n : Int)] w fun e w' => e = .returned (.bool true) ∧ Below w.heap.size w w' := by
  obtain ⟨a, c, rfl⟩ := hv.shape
  have HV := Lib.hid hv; clear hv
  by_cases h2 : 2000 < l.length
  · go_enter Tryd.func5, Tryd.ntmps5
    go_wp2_with fail
    refine (head_any _ ht).mono ?_
    rintro e w1 ⟨rfl, b1⟩
    go_wp2_with fail
    go_ret
    exact ⟨rfl, b1⟩
  · cases hf : fewL ss 200 with
    | false =>
      have HF := Lib.hid hf; clear hf
      go_enter Tryd.func5, Tryd.ntmps5
      go_wp2_with fail
      refine (head_any _ ht).mono ?_
      rintro e w1 ⟨rfl, b1⟩
      go_wp2_with fail
      refine (rfew_any ss 200 _ _ (HV.out.below b1 (Nat.le_refl _)) hs.1 hs.2).mono ?_
      rintro e w2 ⟨rfl, rfl⟩
      rw [HF.out]
      go_wp2_with fail
      go_ret
      exact ⟨rfl, b1⟩
    | true =>
      have hcap := few_cap ss hf
      have hjl := Nat.le_trans (joinL_cap ss) hcap
      have HF := Lib.hid hf; clear hf
      obtain ⟨x1, h1⟩ : ∃ x, Hid (Dg.sumL l = x) := ⟨_, rfl⟩
      obtain ⟨x2, h3⟩ : ∃ x, Hid (Dg.listL ss = x) := ⟨_, rfl⟩
      obtain ⟨x3, h4⟩ : ∃ x, Hid (Dg.chainL (max 0 (min (1 + (n : Int) % 30) 1000)).toNat l = x) := ⟨_, rfl⟩
      have i1 : Hid (Dg.isL x1 = true) := by unfold Hid; rw [← h1.out]; exact Dg.sumL_isL _
      have i2 : Hid (Dg.isL x2 = true) := by unfold Hid; rw [← h3.out]; exact Dg.sumL_isL _
      have i3 : Hid (Dg.isL x3 = true) := by unfold Hid; rw [← h4.out, (form_n n).out]; exact Dg.chainL_isL (by omega) _
      have l1 : x1.length ≤ 140737488355328 := by rw [← h1.out, Dg.sumL_length]; decide
      have l2 : x2.length ≤ 140737488355328 := by rw [← h3.out]; unfold Dg.listL; rw [Dg.sumL_length]; decide
      have l3 : x3.length ≤ 140737488355328 := by
        rw [← h4.out, (form_n n).out, Nat.add_comm, Dg.chainL_succ, Dg.sumL_length]; decide
      go_enter Tryd.func5, Tryd.ntmps5
      go_wp2_with fail
      refine (head_any _ ht).mono ?_
      rintro e w1 ⟨rfl, b1⟩
      go_wp2_with fail
      refine (rfew_any ss 200 _ _ (HV.out.below b1 (Nat.le_refl _)) hs.1 hs.2).mono ?_
      rintro e w2 ⟨rfl, rfl⟩
      rw [HF.out]
      go_wp2_with fail
      refine (sumC l x1 hl h1 _).mono ?_
      rintro e w2 ⟨rfl, c⟩
      have b2 := below_next b1 c; clear c b1
      go_wp2_with fail
      refine (isS x1 _ l1 i1).mono ?_
      rintro e w3 ⟨rfl, c⟩
      have b3 := below_next b2 c; clear c b2
      go_wp2_with fail
      refine (listC ss _ x2 _ (ht.below b3 (Nat.le_refl _)) (HV.out.below b3 (Nat.le_refl _)) (by omega) h3).mono ?_
      rintro e w4 ⟨rfl, c⟩
      have b4 := below_next b3 c; clear c b3
      go_wp2_with fail
      refine (isS x2 _ l2 i2).mono ?_
      rintro e w5 ⟨rfl, c⟩
      have b5 := below_next b4 c; clear c b4
      go_wp2_with fail
      refine (chainC l (1 + (n : Int) % 30) x3 hl (by omega) (by omega) h4 _).mono ?_
      rintro e w6 ⟨rfl, c⟩
      have b6 := below_next b5 c; clear c b5
      go_wp2_with fail
      refine (isS x3 _ l3 i3).mono ?_
      rintro e w7 ⟨rfl, c⟩
      have b7 := below_next b6 c; clear c b6
      go_wp2_with fail
      go_ret
      exact ⟨rfl, b7⟩
end Go.Proofs.YtblcakhcbkahaaaDoor
