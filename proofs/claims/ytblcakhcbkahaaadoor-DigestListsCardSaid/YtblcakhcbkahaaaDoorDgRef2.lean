/- WALKS: the other reference functions of layer 1. -/
import Derived.Test.YtblcakhcbkahaaaDoorDgRef1
namespace Go.Proofs.YtblcakhcbkahaaaDoor
open Go.RowKit

theorem dig_extract : ∀ m : Fin 10, (⟨#[48, 49, 50, 51, 52, 53, 54, 55, 56, 57]⟩ : ByteArray).extract m.val (m.val + 1) = ⟨#[UInt8.ofNat (48 + m.val)]⟩ := by decide +kernel
theorem dig_slice (q : Nat) : ∀ W : World, (Instr.slice 9 (.string ⟨#[48, 49, 50, 51, 52, 53, 54, 55, 56, 57]⟩) (some (.int .u64 ((q : Int) % 10))) (some (.int .u64 ((q : Int) % 10 + 1))) none).run Tryd.prog W = .ok (.string ⟨#[UInt8.ofNat (48 + q % 10)]⟩) W := by
  intro W
  have e : ((q : Int) % 10) = ((q % 10 : Nat) : Int) := by omega
  have h := dig_extract ⟨q % 10, Nat.mod_lt _ (by decide)⟩
  have h3 : ((q % 10 : Nat) : Int) + 1 ≤ ((⟨#[48, 49, 50, 51, 52, 53, 54, 55, 56, 57]⟩ : ByteArray).size : Int) := by
    show ((q % 10 : Nat) : Int) + 1 ≤ 10
    omega
  rw [e, run_slice_string W 9 _ .u64 .u64 _ _ Tryd.underlying9 (by omega) (by omega) h3, ← h]
  rfl

/-- what is left of the number, and the digits behind it -/
def DigRel (n u : Nat) (s : List UInt8) : Prop := (0 < u ∧ Lib.decDigits n = Lib.decDigits u ++ s) ∨ (u = 0 ∧ Lib.decDigits n = s)
theorem digRel_start (n : Nat) : DigRel n (n / 10) [UInt8.ofNat (48 + n % 10)] := by
  by_cases h : n < 10
  · refine Or.inr ⟨by omega, ?_⟩
    rw [Lib.decDigits, dif_pos h, Nat.mod_eq_of_lt h]
  · refine Or.inl ⟨by omega, ?_⟩
    conv => lhs; rw [Lib.decDigits, dif_neg h]
theorem digRel_step {n u : Nat} {s : List UInt8} (h : DigRel n u s) (hu : 0 < u) : DigRel n (u / 10) (UInt8.ofNat (48 + u % 10) :: s) := by
  rcases h with ⟨_, h⟩ | ⟨h, _⟩
  · by_cases h1 : u < 10
    · refine Or.inr ⟨by omega, ?_⟩
      rw [h, Lib.decDigits, dif_pos h1, Nat.mod_eq_of_lt h1]; rfl
    · refine Or.inl ⟨by omega, ?_⟩
      rw [h]
      conv => lhs; rw [Lib.decDigits, dif_neg h1]
      simp
  · omega
theorem digRel_length {n u : Nat} {s : List UInt8} (hn : n < 18446744073709551616) (h : DigRel n u s) : s.length ≤ 20 := by
  have := Dg.decN_length n
  rw [Dg.decN_eq n (by omega)] at this
  rcases h with ⟨_, h⟩ | ⟨_, h⟩
  · rw [h, List.length_append] at this; omega
  · rw [h] at this; exact this

set_option maxHeartbeats 400000 in
theorem rdigits_any (n : Nat) (hn : n < 18446744073709551616) (w : World) :
    Calls Tryd.prog 42 #[.int .u64 (n : Int)] w fun e w' => e = .returned (.string ⟨(Dg.decN n).toArray⟩) ∧ w = w' := by
  rw [Dg.decN_eq n (by omega)]
  have h0 := digRel_start n
  have hsl := dig_slice n
  generalize UInt8.ofNat (48 + n % 10) = c at h0 hsl
  have H0 := Lib.hid h0; clear h0
  go_enter Tryd.func42, Tryd.ntmps42
  go_wp2_with fail
  clear hsl
  go_loop [0, 3] (fun u s => ∃ (m : Nat) (t : List UInt8), u = .int .u64 (m : Int) ∧ m < 18446744073709551616 ∧ s = .string ⟨t.toArray⟩ ∧ DigRel n m t) (fun u _ => (intOf u).toNat)
  case atStart => exact ⟨n / 10, [c], by simp, by omega, rfl, H0.out⟩
  case round =>
    obtain ⟨m, t, rfl, hm, rfl, hr⟩ := hrel
    have htl := digRel_length hn hr
    by_cases h0 : 0 < m
    · have h1 := digRel_step hr h0
      have hsl := dig_slice m
      generalize UInt8.ofNat (48 + m % 10) = d at h1 hsl
      have H1 := Lib.hid h1; clear h1 hr
      have HC := Lib.hid (mk_append [d] t)
      go_wp2_with fail
      go_round
      case rel => exact ⟨m / 10, d :: t, by simp, by omega, congrArg Value.string HC.out, H1.out⟩
      case measure => simp [intOf]; omega
    · rcases hr with ⟨h, _⟩ | ⟨rfl, h⟩
      · omega
      · have H := Lib.hid h; clear h
        go_wp2_with fail
        go_ret
        exact ⟨by rw [H.out]; rfl, rfl⟩

set_option maxHeartbeats 400000 in
theorem rdecimal_any (n : Nat) (hn : n ≤ 9223372036854775807) (w : World) :
    Calls Tryd.prog 31 #[.int .i64 (n : Int)] w fun e w' => e = .returned (.string ⟨(Dg.decN n).toArray⟩) ∧ w = w' := by
  go_enter Tryd.func31, Tryd.ntmps31
  go_wp2_with fail
  refine (rdigits_any n (by omega) _).mono ?_
  rintro e w' ⟨rfl, rfl⟩
  go_wp2_with fail
  go_ret
  exact ⟨rfl, rfl⟩

/-- the value of a hexadecimal digit, -1 if it is none -/
def digV (x : Nat) : Int := if 48 ≤ x ∧ x ≤ 57 then (x : Int) - 48 else if 97 ≤ x ∧ x ≤ 102 then (x : Int) - 97 + 10 else -1
theorem digV_neg (c : UInt8) : digV c.toNat < 0 ↔ Dg.isHex c = false := by
  have hh : Dg.isHex c = decide ((48 ≤ c.toNat ∧ c.toNat ≤ 57) ∨ (97 ≤ c.toNat ∧ c.toNat ≤ 102)) := by
    unfold Dg.isHex
    rw [Bool.eq_iff_iff]; simp [UInt8.le_iff_toNat_le]
  rw [hh, decide_eq_false_iff_not]
  unfold digV
  split
  · omega
  · split <;> omega
theorem digV_bd (x : Nat) (h : x < 256) : -1 ≤ digV x ∧ digV x ≤ 15 := by
  unfold digV
  split
  · omega
  · split <;> omega

set_option maxHeartbeats 400000 in
theorem rdigit_any (x : Nat) (hx : x < 256) (w : World) :
    Calls Tryd.prog 30 #[.int .u8 (x : Int)] w fun e w' => e = .returned (.int .i64 (digV x)) ∧ w = w' := by
  rcases (show x < 48 ∨ (48 ≤ x ∧ x ≤ 57) ∨ (57 < x ∧ x < 97) ∨ (97 ≤ x ∧ x ≤ 102) ∨ 102 < x by omega) with h | ⟨h, h'⟩ | ⟨h, h'⟩ | ⟨h, h'⟩ | h
  · have HV : Hid (digV x = -1) := by unfold Hid digV; rw [if_neg (by omega), if_neg (by omega)]
    go_enter Tryd.func30, Tryd.ntmps30
    go_wp2_with fail
    go_ret
    exact ⟨by rw [HV.out]; rfl, rfl⟩
  · have HV : Hid (digV x = (x : Int) - 48) := by unfold Hid digV; rw [if_pos (by omega)]
    go_enter Tryd.func30, Tryd.ntmps30
    go_wp2_with fail
    go_ret
    exact ⟨by rw [HV.out]; rfl, rfl⟩
  · have HV : Hid (digV x = -1) := by unfold Hid digV; rw [if_neg (by omega), if_neg (by omega)]
    go_enter Tryd.func30, Tryd.ntmps30
    go_wp2_with fail
    go_ret
    exact ⟨by rw [HV.out]; rfl, rfl⟩
  · have HV : Hid (digV x = (x : Int) - 97 + 10) := by unfold Hid digV; rw [if_neg (by omega), if_pos (by omega)]
    go_enter Tryd.func30, Tryd.ntmps30
    go_wp2_with fail
    go_ret
    exact ⟨by rw [HV.out]; rfl, rfl⟩
  · have HV : Hid (digV x = -1) := by unfold Hid digV; rw [if_neg (by omega), if_neg (by omega)]
    go_enter Tryd.func30, Tryd.ntmps30
    go_wp2_with fail
    go_ret
    exact ⟨by rw [HV.out]; rfl, rfl⟩

set_option maxHeartbeats 400000 in
theorem ris_any (l : List UInt8) (w : World) (hl : l.length ≤ 140737488355328) :
    Calls Tryd.prog 19 #[.string ⟨l.toArray⟩] w fun e w' => e = .returned (.bool (Dg.isL l)) ∧ w = w' := by
  go_enter Tryd.func19, Tryd.ntmps19
  go_wp2_with fail
  go_loop [3] (fun i => ∃ k : Nat, k ≤ l.length ∧ k ≤ 16 ∧ i = .int .i64 (k : Int) ∧ (l.take k).all Dg.isHex = true) (fun i => 16 - (intOf i).toNat)
  case atStart => exact ⟨0, by omega, by omega, rfl, by simp⟩
  case round =>
    obtain ⟨k, hk, hk16, rfl, ha⟩ := hrel
    by_cases h1 : k < l.length ∧ k < 16
    · obtain ⟨hkl, hk6⟩ := h1
      have hb := byte_at l k hkl
      have hn := digV_neg (l.getD k 0)
      have hbd := digV_bd (l.getD k 0).toNat (Dg.byte_lt _)
      have hbl := Dg.byte_lt (l.getD k 0)
      have hd := rdigit_any (l.getD k 0).toNat hbl
      have ht : (l.take (k + 1)).all Dg.isHex = Dg.isHex (l.getD k 0) := by
        rw [List.take_succ_eq_append_getElem hkl, List.all_append, ha]
        simp [List.getD, List.getElem?_eq_getElem hkl]
      generalize l.getD k 0 = c at *
      have HT := Lib.hid ht; clear ht
      have HA := Lib.hid ha; clear ha
      have HD := Lib.hid hd; clear hd
      have HB := Lib.hid hb; clear hb
      by_cases hc : Dg.isHex c = true
      · have h0 : 0 ≤ digV c.toNat := by
          rw [hc] at hn; simp at hn; exact hn
        clear hn
        generalize hv : digV c.toNat = v at *
        have HV := Lib.hid hv; clear hv
        go_wp2_with fail
        rw [HB.out]
        refine (HD.out _).mono ?_
        rintro e w' ⟨rfl, rfl⟩
        go_wp2_with fail
        go_round
        case rel => exact ⟨k + 1, by omega, by omega, by go_num, by rw [HT.out, hc]⟩
        case measure => simp [intOf]; omega
      · have hc' : Dg.isHex c = false := by simpa using hc
        have h0 : digV c.toNat < 0 := hn.2 hc'
        have hL : Dg.isL l = false := by
          have ht := HT.out
          rw [hc'] at ht
          unfold Dg.isL
          have : l.all Dg.isHex = false := by
            rw [← List.take_append_drop (k + 1) l, List.all_append, ht]; rfl
          rw [this, Bool.and_false]
        have HL := Lib.hid hL; clear hL
        clear hn hc' hc HT
        generalize hv : digV c.toNat = v at *
        have HV := Lib.hid hv; clear hv
        go_wp2_with fail
        rw [HB.out]
        refine (HD.out _).mono ?_
        rintro e w' ⟨rfl, rfl⟩
        go_wp2_with fail
        go_ret
        exact ⟨by rw [HL.out]; rfl, rfl⟩
    · have hL : Dg.isL l = ((l.length : Int) == 16) := by
        unfold Dg.isL
        by_cases h : l.length = 16
        · have e : k = 16 := by omega
          subst e
          rw [← h, List.take_length] at ha
          rw [ha, h]; rfl
        · have h2 : (l.length == 16) = false := by simpa using h
          have h3 : ((l.length : Int) == 16) = false := by rw [beq_eq_false_iff_ne]; omega
          rw [h2, h3]; rfl
      have HL := Lib.hid hL; clear hL
      by_cases hkl : k < l.length
      · have h6 : 16 ≤ k := by omega
        clear h1
        go_wp2_with fail
        all_goals
          go_ret
          exact ⟨by rw [HL.out]; rfl, rfl⟩
      · clear h1
        go_wp2_with fail
        all_goals
          go_ret
          exact ⟨by rw [HL.out]; rfl, rfl⟩
end Go.Proofs.YtblcakhcbkahaaaDoor
