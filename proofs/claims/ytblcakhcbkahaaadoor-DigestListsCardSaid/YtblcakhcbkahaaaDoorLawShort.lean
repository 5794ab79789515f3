/- WALKS: the statements DigestChains, DigestLong, DigestShort return true. -/
import Derived.Test.YtblcakhcbkahaaaDoorRowBase
namespace Go.Proofs.YtblcakhcbkahaaaDoor
open Go.RowKit

theorem chN (n : Nat) (l x : List UInt8) (h : Dg.chainL n l = x) (m : Int) (hm : m = n) (hn : n ≤ 1000) : Hid (Dg.chainL (max 0 (min m 1000)).toNat l = x) := by
  unfold Hid
  rw [← h, hm]
  congr 1
  omega
theorem ch_length (n : Nat) (l : List UInt8) (hl : l.length ≤ 140737488355328) : (Dg.chainL n l).length ≤ 140737488355328 := by
  cases n with
  | zero => exact hl
  | succ n => rw [Dg.chainL_succ, Dg.sumL_length]; decide

set_option maxHeartbeats 1000000 in
set_option maxRecDepth 100000 in
theorem chains_walk (l : List UInt8) (n m : Nat) (w : World) (ht : Tab w) (hl : l.length ≤ 140737488355328) (hn : n < 256) (hm : m < 256) :
    Calls Tryd.prog 8 #[.string ⟨l.toArray⟩, .int .u8 (n : Int), .int .u8 (m : Int)] w fun e w' => e = .returned (.bool true) ∧ Below w.heap.size w w' := by
  by_cases h2 : 2000 < l.length
  · go_enter Tryd.func8, Tryd.ntmps8
    go_wp2_with fail
    refine (head_any _ ht).mono ?_
    rintro e w1 ⟨rfl, b1⟩
    go_wp2_with fail
    go_ret
    exact ⟨rfl, b1⟩
  · obtain ⟨x1, h1⟩ : ∃ x, Dg.chainL (n % 51) l = x := ⟨_, rfl⟩
    obtain ⟨x2, h3⟩ : ∃ x, Dg.chainL (m % 51) x1 = x := ⟨_, rfl⟩
    have h4 : Dg.chainL (n % 51 + m % 51) l = x2 := by rw [← Dg.chainL_add, h1, h3]
    have l1 : x1.length ≤ 140737488355328 := by rw [← h1]; exact ch_length _ _ hl
    have g1 := chN _ _ _ h1 ((n : Int) % 51) (by omega) (by omega)
    have g2 := chN _ _ _ h3 ((m : Int) % 51) (by omega) (by omega)
    have g3 := chN _ _ _ h4 ((n : Int) % 51 + (m : Int) % 51) (by omega) (by omega)
    clear h1 h3 h4
    go_enter Tryd.func8, Tryd.ntmps8
    go_wp2_with fail
    refine (head_any _ ht).mono ?_
    rintro e w1 ⟨rfl, b1⟩
    go_wp2_with fail
    refine (chainC l ((n : Int) % 51) x1 hl (by omega) (by omega) g1 _).mono ?_
    rintro e w2 ⟨rfl, c⟩
    have b2 := below_next b1 c; clear c b1
    go_wp2_with fail
    refine (chainC x1 ((m : Int) % 51) x2 l1 (by omega) (by omega) g2 _).mono ?_
    rintro e w3 ⟨rfl, c⟩
    have b3 := below_next b2 c; clear c b2
    go_wp2_with fail
    refine (chainC l ((n : Int) % 51 + (m : Int) % 51) x2 hl (by omega) (by omega) g3 _).mono ?_
    rintro e w4 ⟨rfl, c⟩
    have b4 := below_next b3 c; clear c b3
    go_wp2_with fail
    go_ret
    exact ⟨rfl, b4⟩

theorem rchainC (l : List UInt8) (n : Int) (x : List UInt8) (hl : l.length ≤ 140737488355328) (h0 : -9223372036854775808 ≤ n) (h1 : n ≤ 9223372036854775807) (hx : Hid (Dg.chainL (max 0 (min n 1000)).toNat l = x)) (w : World) : Calls Tryd.prog 17 #[.string ⟨l.toArray⟩, .int .i64 n] w fun e w' => e = .returned (.string ⟨x.toArray⟩) ∧ w = w' := by
  have h := rchain_any l n w hl h0 h1
  rw [hx.out] at h
  exact h

set_option maxHeartbeats 1000000 in
set_option maxRecDepth 100000 in
theorem long_walk (l : List UInt8) (n : Int) (w : World) (ht : Tab w) (hl : l.length ≤ 140737488355328) (h0 : -9223372036854775808 ≤ n) (h1 : n ≤ 9223372036854775807) :
    Calls Tryd.prog 4 #[.string ⟨l.toArray⟩, .int .i64 n] w fun e w' => e = .returned (.bool true) ∧ Below w.heap.size w w' := by
  by_cases h2 : 200 < l.length
  · go_enter Tryd.func4, Tryd.ntmps4
    go_wp2_with fail
    refine (head_any _ ht).mono ?_
    rintro e w1 ⟨rfl, b1⟩
    go_wp2_with fail
    go_ret
    exact ⟨rfl, b1⟩
  · by_cases h3 : n ≤ 1000
    · go_enter Tryd.func4, Tryd.ntmps4
      go_wp2_with fail
      refine (head_any _ ht).mono ?_
      rintro e w1 ⟨rfl, b1⟩
      go_wp2_with fail
      go_ret
      exact ⟨rfl, b1⟩
    · obtain ⟨x, hx⟩ : ∃ x, Dg.chainL 1000 l = x := ⟨_, rfl⟩
      have g1 : Hid (Dg.chainL (max 0 (min n 1000)).toNat l = x) := by
        unfold Hid; rw [← hx]; congr 1; omega
      have g2 := chN _ _ _ hx 1000 rfl (by decide)
      clear hx
      go_enter Tryd.func4, Tryd.ntmps4
      go_wp2_with fail
      refine (head_any _ ht).mono ?_
      rintro e w1 ⟨rfl, b1⟩
      go_wp2_with fail
      refine (chainC l n x hl h0 h1 g1 _).mono ?_
      rintro e w2 ⟨rfl, c⟩
      have b2 := below_next b1 c; clear c b1
      go_wp2_with fail
      refine (rchainC l 1000 x hl (by decide) (by decide) g2 _).mono ?_
      rintro e w3 ⟨rfl, rfl⟩
      go_wp2_with fail
      go_ret
      exact ⟨rfl, b2⟩

theorem mk_ext {s : ByteArray} {l : List UInt8} (h : s.data.toList = l) : s = ⟨l.toArray⟩ := by rw [← h]
theorem ext7 (l : List UInt8) : (⟨l.toArray⟩ : ByteArray).extract 0 (min (l.length : Int) 7).toNat = ⟨(l.take 7).toArray⟩ := by
  apply mk_ext
  rw [Lib.extract_data]
  show (l.drop 0).take ((min (l.length : Int) 7).toNat - 0) = l.take 7
  rw [List.drop_zero, Nat.sub_zero]
  rcases Nat.le_total l.length 7 with h | h
  · rw [List.take_of_length_le (by omega), List.take_of_length_le h]
  · congr 1; omega

set_option maxHeartbeats 1000000 in
set_option maxRecDepth 100000 in
theorem short_walk (l m : List UInt8) (w : World) (ht : Tab w) (hl : l.length ≤ 140737488355328) (hm : m.length ≤ 140737488355328) :
    Calls Tryd.prog 6 #[.string ⟨l.toArray⟩, .string ⟨m.toArray⟩] w fun e w' => e = .returned (.bool true) ∧ Below w.heap.size w w' := by
  have E1 := Lib.hid (ext7 l)
  have E2 := Lib.hid (ext7 m)
  have lp : (l.take 7).length ≤ 7 := by simp; omega
  have lq : (m.take 7).length ≤ 7 := by simp; omega
  generalize l.take 7 = p at E1 lp
  generalize m.take 7 = q at E2 lq
  obtain ⟨x1, h1⟩ : ∃ x, Hid (Dg.sumL p = x) := ⟨_, rfl⟩
  obtain ⟨x2, h2⟩ : ∃ x, Hid (Dg.sumL q = x) := ⟨_, rfl⟩
  by_cases e : p = q
  · subst e
    obtain rfl : x1 = x2 := by rw [← h1.out, h2.out]
    go_enter Tryd.func6, Tryd.ntmps6
    go_wp2_with fail
    refine (head_any _ ht).mono ?_
    rintro e w1 ⟨rfl, b1⟩
    go_wp2_with fail
    rw [E1.out, E2.out]
    refine (sumC p x1 (by omega) h1 _).mono ?_
    rintro e w2 ⟨rfl, c⟩
    have b2 := below_next b1 c; clear c b1
    go_wp2_with fail
    refine (sumC p x1 (by omega) h1 _).mono ?_
    rintro e w3 ⟨rfl, c⟩
    have b3 := below_next b2 c; clear c b2
    go_wp2_with fail
    go_ret
    exact ⟨rfl, b3⟩
  · have n1 : (p == q) = false := by simpa using e
    have n2 : (x1 == x2) = false := by
      rw [beq_eq_false_iff_ne]; intro h
      rw [← h1.out, ← h2.out] at h
      exact e (Dg.sumL_short lp lq h)
    clear e
    go_enter Tryd.func6, Tryd.ntmps6
    go_wp2_with fail
    refine (head_any _ ht).mono ?_
    rintro e w1 ⟨rfl, b1⟩
    go_wp2_with fail
    rw [E1.out, E2.out]
    refine (sumC p x1 (by omega) h1 _).mono ?_
    rintro e w2 ⟨rfl, c⟩
    have b2 := below_next b1 c; clear c b1
    go_wp2_with fail
    refine (sumC q x2 (by omega) h2 _).mono ?_
    rintro e w3 ⟨rfl, c⟩
    have b3 := below_next b2 c; clear c b2
    go_wp2_with fail
    go_ret
    exact ⟨rfl, b3⟩
end Go.Proofs.YtblcakhcbkahaaaDoor
