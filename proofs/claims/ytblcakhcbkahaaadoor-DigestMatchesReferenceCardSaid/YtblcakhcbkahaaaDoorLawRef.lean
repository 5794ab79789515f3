/- WALK: the statement DigestMatchesReference returns true. -/
import Derived.Test.YtblcakhcbkahaaaDoorRowBase
import Derived.Test.YtblcakhcbkahaaaDoorLawShort
import Derived.Test.YtblcakhcbkahaaaDoorLawForm
namespace Go.Proofs.YtblcakhcbkahaaaDoor
open Go.RowKit

theorem rsumC (l : List UInt8) (x : List UInt8) (hl : l.length ≤ 140737488355328) (hx : Hid (Dg.sumL l = x)) (w : World) : Calls Tryd.prog 13 #[.string ⟨l.toArray⟩] w fun e w' => e = .returned (.string ⟨x.toArray⟩) ∧ w = w' := by
  have h := rsum_any l w hl
  rw [hx.out] at h
  exact h
theorem rlistC (ss : List (List UInt8)) (v : Value) (x : List UInt8) (w : World) (hv : HasStrs w v ss) (hJ : capL ss ≤ 140737488355328) (hx : Hid (Dg.listL ss = x)) :
    Calls Tryd.prog 15 #[v] w fun e w' => e = .returned (.string ⟨x.toArray⟩) ∧ Below w.heap.size w w' := by
  have h := rlist_any ss v w hv hJ
  rw [hx.out] at h
  exact h
theorem isC2 (l : List UInt8) (b : Bool) (hl : l.length ≤ 140737488355328) (hb : Hid (Dg.isL l = b)) (w : World) : Calls Tryd.prog 18 #[.string ⟨l.toArray⟩] w fun e w' => e = .returned (.bool b) ∧ Below w.heap.size w w' := by
  have h := is_any l w hl
  rw [hb.out] at h
  exact h
theorem risC2 (l : List UInt8) (b : Bool) (hl : l.length ≤ 140737488355328) (hb : Hid (Dg.isL l = b)) (w : World) : Calls Tryd.prog 19 #[.string ⟨l.toArray⟩] w fun e w' => e = .returned (.bool b) ∧ w = w' := by
  have h := ris_any l w hl
  rw [hb.out] at h
  exact h

theorem tmod_bd (n : Int) : -40 < n.tmod 40 ∧ n.tmod 40 < 40 := ⟨Int.lt_tmod_of_pos n (by decide), Int.tmod_lt_of_pos n (by decide)⟩

set_option maxHeartbeats 1000000 in
set_option maxRecDepth 100000 in
theorem ref_walk (l : List UInt8) (ss : List (List UInt8)) (v : Value) (n : Int) (w : World) (ht : Tab w) (hl : l.length ≤ 140737488355328) (hv : HasStrs w v ss) (hs : Sized ss) (_h0 : -9223372036854775808 ≤ n) (_h1 : n ≤ 9223372036854775807) :
    Calls Tryd.prog 3 #[.string ⟨l.toArray⟩, v, .int .i64 n] w fun e w' => e = .returned (.bool true) ∧ Below w.heap.size w w' := by
  obtain ⟨a, c, rfl⟩ := hv.shape
  have HV := Lib.hid hv; clear hv
  by_cases h2 : 2000 < l.length
  · go_enter Tryd.func3, Tryd.ntmps3
    go_wp2_with fail
    refine (head_any _ ht).mono ?_
    rintro e w1 ⟨rfl, b1⟩
    go_wp2_with fail
    go_ret
    exact ⟨rfl, b1⟩
  · cases hf : fewL ss 200 with
    | false =>
      have HF := Lib.hid hf; clear hf
      go_enter Tryd.func3, Tryd.ntmps3
      go_wp2_with fail
      refine (head_any _ ht).mono ?_
      rintro e w1 ⟨rfl, b1⟩
      go_wp2_with fail
      refine (rfew_any ss 200 _ _ (HV.out.below b1 (Nat.le_refl _)) hs.1 hs.2).mono ?_
      rintro e w2 ⟨rfl, rfl⟩
      rw [HF.out]
      go_wp2_with fail
      go_ret
      exact ⟨rfl, b1⟩
    | true =>
      have hcap := few_cap ss hf
      have hjl := Nat.le_trans (joinL_cap ss) hcap
      have HF := Lib.hid hf; clear hf
      obtain ⟨x1, g1⟩ : ∃ x, Hid (Dg.sumL l = x) := ⟨_, rfl⟩
      obtain ⟨x2, g2⟩ : ∃ x, Hid (Dg.listL ss = x) := ⟨_, rfl⟩
      obtain ⟨x3, g3⟩ : ∃ x, Hid (Dg.chainL (max 0 (min (n.tmod 40) 1000)).toNat l = x) := ⟨_, rfl⟩
      obtain ⟨x4, g4⟩ : ∃ x, Hid (Dg.isL l = x) := ⟨_, rfl⟩
      go_enter Tryd.func3, Tryd.ntmps3
      go_wp2_with fail
      refine (head_any _ ht).mono ?_
      rintro e w1 ⟨rfl, b1⟩
      go_wp2_with fail
      refine (rfew_any ss 200 _ _ (HV.out.below b1 (Nat.le_refl _)) hs.1 hs.2).mono ?_
      rintro e w2 ⟨rfl, rfl⟩
      rw [HF.out]
      go_wp2_with fail
      refine (sumC l x1 hl g1 _).mono ?_
      rintro e w2 ⟨rfl, c⟩
      have b2 := below_next b1 c; clear c b1
      go_wp2_with fail
      refine (rsumC l x1 hl g1 _).mono ?_
      rintro e w3 ⟨rfl, rfl⟩
      go_wp2_with fail
      refine (listC ss _ x2 _ (ht.below b2 (Nat.le_refl _)) (HV.out.below b2 (Nat.le_refl _)) (by omega) g2).mono ?_
      rintro e w4 ⟨rfl, c⟩
      have b4 := below_next b2 c; clear c b2
      go_wp2_with fail
      refine (rlistC ss _ x2 _ (HV.out.below b4 (Nat.le_refl _)) (by omega) g2).mono ?_
      rintro e w5 ⟨rfl, c⟩
      have b5 := below_next b4 c; clear c b4
      go_wp2_with fail
      have hr := tmod_bd n
      refine (chainC l (n.tmod 40) x3 hl (by omega) (by omega) g3 _).mono ?_
      rintro e w6 ⟨rfl, c⟩
      have b6 := below_next b5 c; clear c b5
      go_wp2_with fail
      refine (rchainC l (n.tmod 40) x3 hl (by omega) (by omega) g3 _).mono ?_
      rintro e w7 ⟨rfl, rfl⟩
      go_wp2_with fail
      refine (isC2 l x4 hl g4 _).mono ?_
      rintro e w8 ⟨rfl, c⟩
      have b8 := below_next b6 c; clear c b6
      go_wp2_with fail
      refine (risC2 l x4 hl g4 _).mono ?_
      rintro e w9 ⟨rfl, rfl⟩
      go_wp2_with fail
      go_ret
      refine ⟨?_, b8⟩
      cases x4 <;> rfl
end Go.Proofs.YtblcakhcbkahaaaDoor
