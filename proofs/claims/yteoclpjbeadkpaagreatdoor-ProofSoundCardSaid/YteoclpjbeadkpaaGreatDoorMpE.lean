/- The texts CoSeen CoOpen CoWalk1 CoWalk2 CoJoin CoLeaves, merged: walks and plain laws that the statements of layer 44 use. -/
import Derived.Test.YteoclpjbeadkpaaGreatDoorMpD
import Derived.Test.YteoclpjbeadkpaaGreatDoorMpA
import Derived.Lib.DecodeN
import Derived.Maps.Views
import Derived.Maps.OwnOps
import Derived.ArgAppend
import Derived.Deep.AppendLies
import Derived.Deep.RegionHeld3
set_option linter.unusedSimpArgs false
set_option linter.unusedVariables false
/- WALKS: code.isName, code.proper and its closure. -/
namespace Go.Proofs.YteoclpjbeadkpaaGreatDoor
open Go.RowKit Go.Shelf

theorem u8ge (c : UInt8) (k : Nat) (hk : k < 256) : (UInt8.ofNat k ≤ c) ↔ (k : Int) ≤ (c.toNat : Int) := by
  rw [UInt8.le_iff_toNat_le]
  have : (UInt8.ofNat k).toNat = k := by simp; omega
  omega
theorem u8le (c : UInt8) (k : Nat) (hk : k < 256) : (c ≤ UInt8.ofNat k) ↔ (c.toNat : Int) ≤ (k : Int) := by
  rw [UInt8.le_iff_toNat_le]
  have : (UInt8.ofNat k).toNat = k := by simp; omega
  omega
theorem letter_iff (c : UInt8) : Co.letter c = true ↔ (97 ≤ (c.toNat : Int) ∧ (c.toNat : Int) ≤ 122) ∨ (65 ≤ (c.toNat : Int) ∧ (c.toNat : Int) ≤ 90) := by
  unfold Co.letter
  simp only [Bool.or_eq_true, Bool.and_eq_true, decide_eq_true_eq]
  have a := u8ge c 97 (by decide); have b := u8le c 122 (by decide); have d := u8ge c 65 (by decide); have e := u8le c 90 (by decide)
  simp only [UInt8.reduceOfNat] at a b d e
  rw [a, b, d, e]; omega
theorem digU_iff (c : UInt8) : Co.digU c = true ↔ (48 ≤ (c.toNat : Int) ∧ (c.toNat : Int) ≤ 57) ∨ (c.toNat : Int) = 95 := by
  unfold Co.digU
  simp only [Bool.or_eq_true, Bool.and_eq_true, decide_eq_true_eq, beq_iff_eq]
  have a := u8ge c 48 (by decide); have b := u8le c 57 (by decide)
  have d : c = 95 ↔ (c.toNat : Int) = 95 := by rw [← UInt8.toNat_inj]; show c.toNat = 95 ↔ _; omega
  simp only [UInt8.reduceOfNat] at a b
  rw [a, b, d]; omega
theorem numC_iff (c : UInt8) : Co.numC c = true ↔ (48 ≤ (c.toNat : Int) ∧ (c.toNat : Int) ≤ 57) ∨ (97 ≤ (c.toNat : Int) ∧ (c.toNat : Int) ≤ 122) := by
  unfold Co.numC
  simp only [Bool.or_eq_true, Bool.and_eq_true, decide_eq_true_eq]
  have a := u8ge c 97 (by decide); have b := u8le c 122 (by decide); have d := u8ge c 48 (by decide); have e := u8le c 57 (by decide)
  simp only [UInt8.reduceOfNat] at a b d e
  rw [a, b, d, e]; omega

theorem nameFrom_end (s : List UInt8) : ∀ j, Co.nameFrom j (s.drop s.length) = true := by intro j; rw [List.drop_length]; rfl
theorem nameFrom_at (s : List UInt8) (k : Nat) (h : k < s.length) : Co.nameFrom k (s.drop k) = ((Co.letter (s.getD k 0) || (k != 0 && Co.digU (s.getD k 0))) && Co.nameFrom (k + 1) (s.drop (k + 1))) := by
  rw [List.drop_eq_getElem_cons h]
  simp [Co.nameFrom, List.getD, List.getElem?_eq_getElem h]

set_option maxRecDepth 100000 in
set_option maxHeartbeats 4000000 in
theorem isName_any (s : List UInt8) (w : World) (hl : s.length ≤ 140737488355328) :
    Calls Tryz.prog 153 #[.string ⟨s.toArray⟩] w fun e w' => e = .returned (.bool (Co.nameL s)) ∧ w' = w := by
  obtain ⟨b, hb⟩ : ∃ b, Hid (Co.nameL s = b) := ⟨_, rfl⟩
  rw [hb.out]
  go_enter Tryz.func153, Tryz.ntmps153
  go_wp2_with fail
  go_loopw [9] (fun i wr => ∃ k : Nat, k ≤ s.length ∧ i = .int .i64 k ∧ Hid (Co.nameFrom 0 s = Co.nameFrom k (s.drop k)) ∧ wr = w) (fun i _ => s.length - (intOf i).toNat)
  case atStart => exact ⟨0, by omega, rfl, rfl, rfl⟩
  case round =>
    obtain ⟨k, hk, rfl, hn, rfl⟩ := hrel
    by_cases hkl : k < s.length
    · have hbk : (⟨s.toArray⟩ : ByteArray)[k]'(by show k < s.length; omega) = s.getD k 0 := by
        simp [List.getD, List.getElem?_eq_getElem hkl]; rfl
      have hat := nameFrom_at s k hkl
      have h1 := letter_iff (s.getD k 0)
      have h2 := digU_iff (s.getD k 0)
      rw [← hn.out] at hat
      have HA := Lib.hid hat
      clear hat hn
      rw [← hbk] at h1 h2 HA
      have H1 := Lib.hid h1
      have H2 := Lib.hid h2
      clear h1 h2 hbk
      have hr : ((((⟨s.toArray⟩ : ByteArray)[k]'(by show k < s.length; omega)).toNat : Int) < 48) ∨ (48 ≤ (((⟨s.toArray⟩ : ByteArray)[k]'(by show k < s.length; omega)).toNat : Int) ∧ (((⟨s.toArray⟩ : ByteArray)[k]'(by show k < s.length; omega)).toNat : Int) ≤ 57) ∨ (58 ≤ (((⟨s.toArray⟩ : ByteArray)[k]'(by show k < s.length; omega)).toNat : Int) ∧ (((⟨s.toArray⟩ : ByteArray)[k]'(by show k < s.length; omega)).toNat : Int) ≤ 64) ∨ (65 ≤ (((⟨s.toArray⟩ : ByteArray)[k]'(by show k < s.length; omega)).toNat : Int) ∧ (((⟨s.toArray⟩ : ByteArray)[k]'(by show k < s.length; omega)).toNat : Int) ≤ 90) ∨ (91 ≤ (((⟨s.toArray⟩ : ByteArray)[k]'(by show k < s.length; omega)).toNat : Int) ∧ (((⟨s.toArray⟩ : ByteArray)[k]'(by show k < s.length; omega)).toNat : Int) ≤ 94) ∨ ((((⟨s.toArray⟩ : ByteArray)[k]'(by show k < s.length; omega)).toNat : Int) = 95) ∨ ((((⟨s.toArray⟩ : ByteArray)[k]'(by show k < s.length; omega)).toNat : Int) = 96) ∨ (97 ≤ (((⟨s.toArray⟩ : ByteArray)[k]'(by show k < s.length; omega)).toNat : Int) ∧ (((⟨s.toArray⟩ : ByteArray)[k]'(by show k < s.length; omega)).toNat : Int) ≤ 122) ∨ (122 < (((⟨s.toArray⟩ : ByteArray)[k]'(by show k < s.length; omega)).toNat : Int)) := by omega
      rcases hr with hr | hr | hr | hr | hr | hr | hr | hr | hr
      · -- C < 48
        have d0 : decide (97 ≤ (((⟨s.toArray⟩ : ByteArray)[k]'(by show k < s.length; omega)).toNat : Int)) = false := by rw [decide_eq_false_iff_not]; omega
        have d1 : decide ((((⟨s.toArray⟩ : ByteArray)[k]'(by show k < s.length; omega)).toNat : Int) ≤ 122) = true := by rw [decide_eq_true_eq]; omega
        have d2 : decide (65 ≤ (((⟨s.toArray⟩ : ByteArray)[k]'(by show k < s.length; omega)).toNat : Int)) = false := by rw [decide_eq_false_iff_not]; omega
        have d3 : decide ((((⟨s.toArray⟩ : ByteArray)[k]'(by show k < s.length; omega)).toNat : Int) ≤ 90) = true := by rw [decide_eq_true_eq]; omega
        have d4 : decide (48 ≤ (((⟨s.toArray⟩ : ByteArray)[k]'(by show k < s.length; omega)).toNat : Int)) = false := by rw [decide_eq_false_iff_not]; omega
        have d5 : decide ((((⟨s.toArray⟩ : ByteArray)[k]'(by show k < s.length; omega)).toNat : Int) ≤ 57) = true := by rw [decide_eq_true_eq]; omega
        have d6 : ((((⟨s.toArray⟩ : ByteArray)[k]'(by show k < s.length; omega)).toNat : Int) == 95) = false := by rw [beq_eq_false_iff_ne]; omega
        have hL : Co.letter ((⟨s.toArray⟩ : ByteArray)[k]'(by show k < s.length; omega)) = false := by rw [← Bool.not_eq_true, H1.out]; omega
        have hD : Co.digU ((⟨s.toArray⟩ : ByteArray)[k]'(by show k < s.length; omega)) = false := by rw [← Bool.not_eq_true, H2.out]; omega
        rcases Nat.eq_zero_or_pos k with k0 | k0
        · have kb : (k != 0) = false := by rw [k0]; rfl
          have ke : ((k : Int) == 0) = true := by rw [k0]; rfl
          clear k0
          have HN : Hid (b = false) := by unfold Hid; rw [← hb.out]; unfold Co.nameL; rw [HA.out, hL, hD, kb]; simp
          clear HA hL hD hr
          go_wp2_with fail
          go_ret
          exact ⟨by rw [HN.out]; rfl, rfl⟩
        · have kb : (k != 0) = true := by simp; omega
          have ke : ((k : Int) == 0) = false := by rw [beq_eq_false_iff_ne]; omega
          clear k0
          have HN : Hid (b = false) := by unfold Hid; rw [← hb.out]; unfold Co.nameL; rw [HA.out, hL, hD, kb]; simp
          clear HA hL hD hr
          go_wp2_with fail
          go_ret
          exact ⟨by rw [HN.out]; rfl, rfl⟩
      · -- 48 ≤ C ∧ C ≤ 57
        have d0 : decide (97 ≤ (((⟨s.toArray⟩ : ByteArray)[k]'(by show k < s.length; omega)).toNat : Int)) = false := by rw [decide_eq_false_iff_not]; omega
        have d1 : decide ((((⟨s.toArray⟩ : ByteArray)[k]'(by show k < s.length; omega)).toNat : Int) ≤ 122) = true := by rw [decide_eq_true_eq]; omega
        have d2 : decide (65 ≤ (((⟨s.toArray⟩ : ByteArray)[k]'(by show k < s.length; omega)).toNat : Int)) = false := by rw [decide_eq_false_iff_not]; omega
        have d3 : decide ((((⟨s.toArray⟩ : ByteArray)[k]'(by show k < s.length; omega)).toNat : Int) ≤ 90) = true := by rw [decide_eq_true_eq]; omega
        have d4 : decide (48 ≤ (((⟨s.toArray⟩ : ByteArray)[k]'(by show k < s.length; omega)).toNat : Int)) = true := by rw [decide_eq_true_eq]; omega
        have d5 : decide ((((⟨s.toArray⟩ : ByteArray)[k]'(by show k < s.length; omega)).toNat : Int) ≤ 57) = true := by rw [decide_eq_true_eq]; omega
        have d6 : ((((⟨s.toArray⟩ : ByteArray)[k]'(by show k < s.length; omega)).toNat : Int) == 95) = false := by rw [beq_eq_false_iff_ne]; omega
        have hL : Co.letter ((⟨s.toArray⟩ : ByteArray)[k]'(by show k < s.length; omega)) = false := by rw [← Bool.not_eq_true, H1.out]; omega
        have hD : Co.digU ((⟨s.toArray⟩ : ByteArray)[k]'(by show k < s.length; omega)) = true := by rw [H2.out]; omega
        rcases Nat.eq_zero_or_pos k with k0 | k0
        · have kb : (k != 0) = false := by rw [k0]; rfl
          have ke : ((k : Int) == 0) = true := by rw [k0]; rfl
          clear k0
          have HN : Hid (b = false) := by unfold Hid; rw [← hb.out]; unfold Co.nameL; rw [HA.out, hL, hD, kb]; simp
          clear HA hL hD hr
          go_wp2_with fail
          go_ret
          exact ⟨by rw [HN.out]; rfl, rfl⟩
        · have kb : (k != 0) = true := by simp; omega
          have ke : ((k : Int) == 0) = false := by rw [beq_eq_false_iff_ne]; omega
          clear k0
          have HN : Hid (Co.nameFrom 0 s = Co.nameFrom (k + 1) (s.drop (k + 1))) := by unfold Hid; rw [HA.out, hL, hD, kb]; simp
          clear HA hL hD hr
          go_wp2_with fail
          go_roundw
          case rel => exact ⟨k + 1, by omega, by go_num, HN, trivial⟩
          case measure => simp [intOf]; omega
      · -- 58 ≤ C ∧ C ≤ 64
        have d0 : decide (97 ≤ (((⟨s.toArray⟩ : ByteArray)[k]'(by show k < s.length; omega)).toNat : Int)) = false := by rw [decide_eq_false_iff_not]; omega
        have d1 : decide ((((⟨s.toArray⟩ : ByteArray)[k]'(by show k < s.length; omega)).toNat : Int) ≤ 122) = true := by rw [decide_eq_true_eq]; omega
        have d2 : decide (65 ≤ (((⟨s.toArray⟩ : ByteArray)[k]'(by show k < s.length; omega)).toNat : Int)) = false := by rw [decide_eq_false_iff_not]; omega
        have d3 : decide ((((⟨s.toArray⟩ : ByteArray)[k]'(by show k < s.length; omega)).toNat : Int) ≤ 90) = true := by rw [decide_eq_true_eq]; omega
        have d4 : decide (48 ≤ (((⟨s.toArray⟩ : ByteArray)[k]'(by show k < s.length; omega)).toNat : Int)) = true := by rw [decide_eq_true_eq]; omega
        have d5 : decide ((((⟨s.toArray⟩ : ByteArray)[k]'(by show k < s.length; omega)).toNat : Int) ≤ 57) = false := by rw [decide_eq_false_iff_not]; omega
        have d6 : ((((⟨s.toArray⟩ : ByteArray)[k]'(by show k < s.length; omega)).toNat : Int) == 95) = false := by rw [beq_eq_false_iff_ne]; omega
        have hL : Co.letter ((⟨s.toArray⟩ : ByteArray)[k]'(by show k < s.length; omega)) = false := by rw [← Bool.not_eq_true, H1.out]; omega
        have hD : Co.digU ((⟨s.toArray⟩ : ByteArray)[k]'(by show k < s.length; omega)) = false := by rw [← Bool.not_eq_true, H2.out]; omega
        rcases Nat.eq_zero_or_pos k with k0 | k0
        · have kb : (k != 0) = false := by rw [k0]; rfl
          have ke : ((k : Int) == 0) = true := by rw [k0]; rfl
          clear k0
          have HN : Hid (b = false) := by unfold Hid; rw [← hb.out]; unfold Co.nameL; rw [HA.out, hL, hD, kb]; simp
          clear HA hL hD hr
          go_wp2_with fail
          go_ret
          exact ⟨by rw [HN.out]; rfl, rfl⟩
        · have kb : (k != 0) = true := by simp; omega
          have ke : ((k : Int) == 0) = false := by rw [beq_eq_false_iff_ne]; omega
          clear k0
          have HN : Hid (b = false) := by unfold Hid; rw [← hb.out]; unfold Co.nameL; rw [HA.out, hL, hD, kb]; simp
          clear HA hL hD hr
          go_wp2_with fail
          go_ret
          exact ⟨by rw [HN.out]; rfl, rfl⟩
      · -- 65 ≤ C ∧ C ≤ 90
        have d0 : decide (97 ≤ (((⟨s.toArray⟩ : ByteArray)[k]'(by show k < s.length; omega)).toNat : Int)) = false := by rw [decide_eq_false_iff_not]; omega
        have d1 : decide ((((⟨s.toArray⟩ : ByteArray)[k]'(by show k < s.length; omega)).toNat : Int) ≤ 122) = true := by rw [decide_eq_true_eq]; omega
        have d2 : decide (65 ≤ (((⟨s.toArray⟩ : ByteArray)[k]'(by show k < s.length; omega)).toNat : Int)) = true := by rw [decide_eq_true_eq]; omega
        have d3 : decide ((((⟨s.toArray⟩ : ByteArray)[k]'(by show k < s.length; omega)).toNat : Int) ≤ 90) = true := by rw [decide_eq_true_eq]; omega
        have d4 : decide (48 ≤ (((⟨s.toArray⟩ : ByteArray)[k]'(by show k < s.length; omega)).toNat : Int)) = true := by rw [decide_eq_true_eq]; omega
        have d5 : decide ((((⟨s.toArray⟩ : ByteArray)[k]'(by show k < s.length; omega)).toNat : Int) ≤ 57) = false := by rw [decide_eq_false_iff_not]; omega
        have d6 : ((((⟨s.toArray⟩ : ByteArray)[k]'(by show k < s.length; omega)).toNat : Int) == 95) = false := by rw [beq_eq_false_iff_ne]; omega
        have hL : Co.letter ((⟨s.toArray⟩ : ByteArray)[k]'(by show k < s.length; omega)) = true := by rw [H1.out]; omega
        have hD : Co.digU ((⟨s.toArray⟩ : ByteArray)[k]'(by show k < s.length; omega)) = false := by rw [← Bool.not_eq_true, H2.out]; omega
        have HN : Hid (Co.nameFrom 0 s = Co.nameFrom (k + 1) (s.drop (k + 1))) := by unfold Hid; rw [HA.out, hL, hD]; simp
        clear HA hL hD hr
        go_wp2_with fail
        go_roundw
        case rel => exact ⟨k + 1, by omega, by go_num, HN, trivial⟩
        case measure => simp [intOf]; omega
      · -- 91 ≤ C ∧ C ≤ 94
        have d0 : decide (97 ≤ (((⟨s.toArray⟩ : ByteArray)[k]'(by show k < s.length; omega)).toNat : Int)) = false := by rw [decide_eq_false_iff_not]; omega
        have d1 : decide ((((⟨s.toArray⟩ : ByteArray)[k]'(by show k < s.length; omega)).toNat : Int) ≤ 122) = true := by rw [decide_eq_true_eq]; omega
        have d2 : decide (65 ≤ (((⟨s.toArray⟩ : ByteArray)[k]'(by show k < s.length; omega)).toNat : Int)) = true := by rw [decide_eq_true_eq]; omega
        have d3 : decide ((((⟨s.toArray⟩ : ByteArray)[k]'(by show k < s.length; omega)).toNat : Int) ≤ 90) = false := by rw [decide_eq_false_iff_not]; omega
        have d4 : decide (48 ≤ (((⟨s.toArray⟩ : ByteArray)[k]'(by show k < s.length; omega)).toNat : Int)) = true := by rw [decide_eq_true_eq]; omega
        have d5 : decide ((((⟨s.toArray⟩ : ByteArray)[k]'(by show k < s.length; omega)).toNat : Int) ≤ 57) = false := by rw [decide_eq_false_iff_not]; omega
        have d6 : ((((⟨s.toArray⟩ : ByteArray)[k]'(by show k < s.length; omega)).toNat : Int) == 95) = false := by rw [beq_eq_false_iff_ne]; omega
        have hL : Co.letter ((⟨s.toArray⟩ : ByteArray)[k]'(by show k < s.length; omega)) = false := by rw [← Bool.not_eq_true, H1.out]; omega
        have hD : Co.digU ((⟨s.toArray⟩ : ByteArray)[k]'(by show k < s.length; omega)) = false := by rw [← Bool.not_eq_true, H2.out]; omega
        rcases Nat.eq_zero_or_pos k with k0 | k0
        · have kb : (k != 0) = false := by rw [k0]; rfl
          have ke : ((k : Int) == 0) = true := by rw [k0]; rfl
          clear k0
          have HN : Hid (b = false) := by unfold Hid; rw [← hb.out]; unfold Co.nameL; rw [HA.out, hL, hD, kb]; simp
          clear HA hL hD hr
          go_wp2_with fail
          go_ret
          exact ⟨by rw [HN.out]; rfl, rfl⟩
        · have kb : (k != 0) = true := by simp; omega
          have ke : ((k : Int) == 0) = false := by rw [beq_eq_false_iff_ne]; omega
          clear k0
          have HN : Hid (b = false) := by unfold Hid; rw [← hb.out]; unfold Co.nameL; rw [HA.out, hL, hD, kb]; simp
          clear HA hL hD hr
          go_wp2_with fail
          go_ret
          exact ⟨by rw [HN.out]; rfl, rfl⟩
      · -- C = 95
        have d0 : decide (97 ≤ (((⟨s.toArray⟩ : ByteArray)[k]'(by show k < s.length; omega)).toNat : Int)) = false := by rw [decide_eq_false_iff_not]; omega
        have d1 : decide ((((⟨s.toArray⟩ : ByteArray)[k]'(by show k < s.length; omega)).toNat : Int) ≤ 122) = true := by rw [decide_eq_true_eq]; omega
        have d2 : decide (65 ≤ (((⟨s.toArray⟩ : ByteArray)[k]'(by show k < s.length; omega)).toNat : Int)) = true := by rw [decide_eq_true_eq]; omega
        have d3 : decide ((((⟨s.toArray⟩ : ByteArray)[k]'(by show k < s.length; omega)).toNat : Int) ≤ 90) = false := by rw [decide_eq_false_iff_not]; omega
        have d4 : decide (48 ≤ (((⟨s.toArray⟩ : ByteArray)[k]'(by show k < s.length; omega)).toNat : Int)) = true := by rw [decide_eq_true_eq]; omega
        have d5 : decide ((((⟨s.toArray⟩ : ByteArray)[k]'(by show k < s.length; omega)).toNat : Int) ≤ 57) = false := by rw [decide_eq_false_iff_not]; omega
        have d6 : ((((⟨s.toArray⟩ : ByteArray)[k]'(by show k < s.length; omega)).toNat : Int) == 95) = true := by rw [beq_iff_eq]; omega
        have hL : Co.letter ((⟨s.toArray⟩ : ByteArray)[k]'(by show k < s.length; omega)) = false := by rw [← Bool.not_eq_true, H1.out]; omega
        have hD : Co.digU ((⟨s.toArray⟩ : ByteArray)[k]'(by show k < s.length; omega)) = true := by rw [H2.out]; omega
        rcases Nat.eq_zero_or_pos k with k0 | k0
        · have kb : (k != 0) = false := by rw [k0]; rfl
          have ke : ((k : Int) == 0) = true := by rw [k0]; rfl
          clear k0
          have HN : Hid (b = false) := by unfold Hid; rw [← hb.out]; unfold Co.nameL; rw [HA.out, hL, hD, kb]; simp
          clear HA hL hD hr
          go_wp2_with fail
          go_ret
          exact ⟨by rw [HN.out]; rfl, rfl⟩
        · have kb : (k != 0) = true := by simp; omega
          have ke : ((k : Int) == 0) = false := by rw [beq_eq_false_iff_ne]; omega
          clear k0
          have HN : Hid (Co.nameFrom 0 s = Co.nameFrom (k + 1) (s.drop (k + 1))) := by unfold Hid; rw [HA.out, hL, hD, kb]; simp
          clear HA hL hD hr
          go_wp2_with fail
          go_roundw
          case rel => exact ⟨k + 1, by omega, by go_num, HN, trivial⟩
          case measure => simp [intOf]; omega
      · -- C = 96
        have d0 : decide (97 ≤ (((⟨s.toArray⟩ : ByteArray)[k]'(by show k < s.length; omega)).toNat : Int)) = false := by rw [decide_eq_false_iff_not]; omega
        have d1 : decide ((((⟨s.toArray⟩ : ByteArray)[k]'(by show k < s.length; omega)).toNat : Int) ≤ 122) = true := by rw [decide_eq_true_eq]; omega
        have d2 : decide (65 ≤ (((⟨s.toArray⟩ : ByteArray)[k]'(by show k < s.length; omega)).toNat : Int)) = true := by rw [decide_eq_true_eq]; omega
        have d3 : decide ((((⟨s.toArray⟩ : ByteArray)[k]'(by show k < s.length; omega)).toNat : Int) ≤ 90) = false := by rw [decide_eq_false_iff_not]; omega
        have d4 : decide (48 ≤ (((⟨s.toArray⟩ : ByteArray)[k]'(by show k < s.length; omega)).toNat : Int)) = true := by rw [decide_eq_true_eq]; omega
        have d5 : decide ((((⟨s.toArray⟩ : ByteArray)[k]'(by show k < s.length; omega)).toNat : Int) ≤ 57) = false := by rw [decide_eq_false_iff_not]; omega
        have d6 : ((((⟨s.toArray⟩ : ByteArray)[k]'(by show k < s.length; omega)).toNat : Int) == 95) = false := by rw [beq_eq_false_iff_ne]; omega
        have hL : Co.letter ((⟨s.toArray⟩ : ByteArray)[k]'(by show k < s.length; omega)) = false := by rw [← Bool.not_eq_true, H1.out]; omega
        have hD : Co.digU ((⟨s.toArray⟩ : ByteArray)[k]'(by show k < s.length; omega)) = false := by rw [← Bool.not_eq_true, H2.out]; omega
        rcases Nat.eq_zero_or_pos k with k0 | k0
        · have kb : (k != 0) = false := by rw [k0]; rfl
          have ke : ((k : Int) == 0) = true := by rw [k0]; rfl
          clear k0
          have HN : Hid (b = false) := by unfold Hid; rw [← hb.out]; unfold Co.nameL; rw [HA.out, hL, hD, kb]; simp
          clear HA hL hD hr
          go_wp2_with fail
          go_ret
          exact ⟨by rw [HN.out]; rfl, rfl⟩
        · have kb : (k != 0) = true := by simp; omega
          have ke : ((k : Int) == 0) = false := by rw [beq_eq_false_iff_ne]; omega
          clear k0
          have HN : Hid (b = false) := by unfold Hid; rw [← hb.out]; unfold Co.nameL; rw [HA.out, hL, hD, kb]; simp
          clear HA hL hD hr
          go_wp2_with fail
          go_ret
          exact ⟨by rw [HN.out]; rfl, rfl⟩
      · -- 97 ≤ C ∧ C ≤ 122
        have d0 : decide (97 ≤ (((⟨s.toArray⟩ : ByteArray)[k]'(by show k < s.length; omega)).toNat : Int)) = true := by rw [decide_eq_true_eq]; omega
        have d1 : decide ((((⟨s.toArray⟩ : ByteArray)[k]'(by show k < s.length; omega)).toNat : Int) ≤ 122) = true := by rw [decide_eq_true_eq]; omega
        have d2 : decide (65 ≤ (((⟨s.toArray⟩ : ByteArray)[k]'(by show k < s.length; omega)).toNat : Int)) = true := by rw [decide_eq_true_eq]; omega
        have d3 : decide ((((⟨s.toArray⟩ : ByteArray)[k]'(by show k < s.length; omega)).toNat : Int) ≤ 90) = false := by rw [decide_eq_false_iff_not]; omega
        have d4 : decide (48 ≤ (((⟨s.toArray⟩ : ByteArray)[k]'(by show k < s.length; omega)).toNat : Int)) = true := by rw [decide_eq_true_eq]; omega
        have d5 : decide ((((⟨s.toArray⟩ : ByteArray)[k]'(by show k < s.length; omega)).toNat : Int) ≤ 57) = false := by rw [decide_eq_false_iff_not]; omega
        have d6 : ((((⟨s.toArray⟩ : ByteArray)[k]'(by show k < s.length; omega)).toNat : Int) == 95) = false := by rw [beq_eq_false_iff_ne]; omega
        have hL : Co.letter ((⟨s.toArray⟩ : ByteArray)[k]'(by show k < s.length; omega)) = true := by rw [H1.out]; omega
        have hD : Co.digU ((⟨s.toArray⟩ : ByteArray)[k]'(by show k < s.length; omega)) = false := by rw [← Bool.not_eq_true, H2.out]; omega
        have HN : Hid (Co.nameFrom 0 s = Co.nameFrom (k + 1) (s.drop (k + 1))) := by unfold Hid; rw [HA.out, hL, hD]; simp
        clear HA hL hD hr
        go_wp2_with fail
        go_roundw
        case rel => exact ⟨k + 1, by omega, by go_num, HN, trivial⟩
        case measure => simp [intOf]; omega
      · -- 122 < C
        have d0 : decide (97 ≤ (((⟨s.toArray⟩ : ByteArray)[k]'(by show k < s.length; omega)).toNat : Int)) = true := by rw [decide_eq_true_eq]; omega
        have d1 : decide ((((⟨s.toArray⟩ : ByteArray)[k]'(by show k < s.length; omega)).toNat : Int) ≤ 122) = false := by rw [decide_eq_false_iff_not]; omega
        have d2 : decide (65 ≤ (((⟨s.toArray⟩ : ByteArray)[k]'(by show k < s.length; omega)).toNat : Int)) = true := by rw [decide_eq_true_eq]; omega
        have d3 : decide ((((⟨s.toArray⟩ : ByteArray)[k]'(by show k < s.length; omega)).toNat : Int) ≤ 90) = false := by rw [decide_eq_false_iff_not]; omega
        have d4 : decide (48 ≤ (((⟨s.toArray⟩ : ByteArray)[k]'(by show k < s.length; omega)).toNat : Int)) = true := by rw [decide_eq_true_eq]; omega
        have d5 : decide ((((⟨s.toArray⟩ : ByteArray)[k]'(by show k < s.length; omega)).toNat : Int) ≤ 57) = false := by rw [decide_eq_false_iff_not]; omega
        have d6 : ((((⟨s.toArray⟩ : ByteArray)[k]'(by show k < s.length; omega)).toNat : Int) == 95) = false := by rw [beq_eq_false_iff_ne]; omega
        have hL : Co.letter ((⟨s.toArray⟩ : ByteArray)[k]'(by show k < s.length; omega)) = false := by rw [← Bool.not_eq_true, H1.out]; omega
        have hD : Co.digU ((⟨s.toArray⟩ : ByteArray)[k]'(by show k < s.length; omega)) = false := by rw [← Bool.not_eq_true, H2.out]; omega
        rcases Nat.eq_zero_or_pos k with k0 | k0
        · have kb : (k != 0) = false := by rw [k0]; rfl
          have ke : ((k : Int) == 0) = true := by rw [k0]; rfl
          clear k0
          have HN : Hid (b = false) := by unfold Hid; rw [← hb.out]; unfold Co.nameL; rw [HA.out, hL, hD, kb]; simp
          clear HA hL hD hr
          go_wp2_with fail
          go_ret
          exact ⟨by rw [HN.out]; rfl, rfl⟩
        · have kb : (k != 0) = true := by simp; omega
          have ke : ((k : Int) == 0) = false := by rw [beq_eq_false_iff_ne]; omega
          clear k0
          have HN : Hid (b = false) := by unfold Hid; rw [← hb.out]; unfold Co.nameL; rw [HA.out, hL, hD, kb]; simp
          clear HA hL hD hr
          go_wp2_with fail
          go_ret
          exact ⟨by rw [HN.out]; rfl, rfl⟩
    · obtain rfl : k = s.length := by omega
      have he : Hid (Co.nameFrom 0 s = true) := by unfold Hid; rw [hn.out]; exact nameFrom_end s _
      clear hn
      have HE : Hid (Co.nameL s = (!s.isEmpty && decide (s.length ≤ 24))) := by unfold Hid Co.nameL; rw [he.out]; rfl
      rw [hb.out] at HE
      have e1 : ((⟨s.toArray⟩ : ByteArray) != ⟨#[]⟩) = !s.isEmpty := by cases s <;> rfl
      have hz : decide ((s.length : Int) ≤ 24) = decide (s.length ≤ 24) := by rw [decide_eq_decide]; omega
      have HZ := Lib.hid hz
      clear hz he
      go_wp2_with fail
      · rename_i h
        have hx : b = false := by rw [HE.out, h]; rfl
        go_ret
        exact ⟨by rw [hx]; rfl, rfl⟩
      · rename_i h
        go_ret
        refine ⟨?_, rfl⟩
        rw [HE.out, ← HZ.out]
        rfl

def pN (x : Nat) : Bool := !(decide (48 ≤ x) && decide (x ≤ 57) || decide (97 ≤ x) && decide (x ≤ 122))

theorem predN (w : World) : PredAt Tryz.prog 152 #[] encR pN w := fun W r _ => by
  unfold FnGives
  have hr : r < 48 ∨ (48 ≤ r ∧ r ≤ 57) ∨ (57 < r ∧ r < 97) ∨ (97 ≤ r ∧ r ≤ 122) ∨ 122 < r := by omega
  obtain ⟨b, hb⟩ : ∃ b, Hid (pN r = b) := ⟨_, rfl⟩
  rw [hb.out]
  rcases hr with hr | hr | hr | hr | hr
  · have d0 : decide (48 ≤ (r : Int)) = false := by rw [decide_eq_false_iff_not]; omega
    have d1 : decide ((r : Int) ≤ 57) = true := by rw [decide_eq_true_eq]; omega
    have d2 : decide (97 ≤ (r : Int)) = false := by rw [decide_eq_false_iff_not]; omega
    have d3 : decide ((r : Int) ≤ 122) = true := by rw [decide_eq_true_eq]; omega
    have hx : b = true := by rw [← hb.out]; unfold pN; simp; omega
    clear hr hb
    go_enter Tryz.func152, Tryz.ntmps152
    go_wp2_with fail
    go_ret
    exact ⟨by rw [hx]; rfl, 0, rfl⟩
  · have d0 : decide (48 ≤ (r : Int)) = true := by rw [decide_eq_true_eq]; omega
    have d1 : decide ((r : Int) ≤ 57) = true := by rw [decide_eq_true_eq]; omega
    have d2 : decide (97 ≤ (r : Int)) = false := by rw [decide_eq_false_iff_not]; omega
    have d3 : decide ((r : Int) ≤ 122) = true := by rw [decide_eq_true_eq]; omega
    have hx : b = false := by rw [← hb.out]; unfold pN; simp; omega
    clear hr hb
    go_enter Tryz.func152, Tryz.ntmps152
    go_wp2_with fail
    go_ret
    exact ⟨by rw [hx]; rfl, 0, rfl⟩
  · have d0 : decide (48 ≤ (r : Int)) = true := by rw [decide_eq_true_eq]; omega
    have d1 : decide ((r : Int) ≤ 57) = false := by rw [decide_eq_false_iff_not]; omega
    have d2 : decide (97 ≤ (r : Int)) = false := by rw [decide_eq_false_iff_not]; omega
    have d3 : decide ((r : Int) ≤ 122) = true := by rw [decide_eq_true_eq]; omega
    have hx : b = true := by rw [← hb.out]; unfold pN; simp; omega
    clear hr hb
    go_enter Tryz.func152, Tryz.ntmps152
    go_wp2_with fail
    go_ret
    exact ⟨by rw [hx]; rfl, 0, rfl⟩
  · have d0 : decide (48 ≤ (r : Int)) = true := by rw [decide_eq_true_eq]; omega
    have d1 : decide ((r : Int) ≤ 57) = false := by rw [decide_eq_false_iff_not]; omega
    have d2 : decide (97 ≤ (r : Int)) = true := by rw [decide_eq_true_eq]; omega
    have d3 : decide ((r : Int) ≤ 122) = true := by rw [decide_eq_true_eq]; omega
    have hx : b = false := by rw [← hb.out]; unfold pN; simp; omega
    clear hr hb
    go_enter Tryz.func152, Tryz.ntmps152
    go_wp2_with fail
    go_ret
    exact ⟨by rw [hx]; rfl, 0, rfl⟩
  · have d0 : decide (48 ≤ (r : Int)) = true := by rw [decide_eq_true_eq]; omega
    have d1 : decide ((r : Int) ≤ 57) = false := by rw [decide_eq_false_iff_not]; omega
    have d2 : decide (97 ≤ (r : Int)) = true := by rw [decide_eq_true_eq]; omega
    have d3 : decide ((r : Int) ≤ 122) = false := by rw [decide_eq_false_iff_not]; omega
    have hx : b = true := by rw [← hb.out]; unfold pN; simp; omega
    clear hr hb
    go_enter Tryz.func152, Tryz.ntmps152
    go_wp2_with fail
    go_ret
    exact ⟨by rw [hx]; rfl, 0, rfl⟩

theorem decode_big (n b0 b1 b2 b3 : Nat) (h : 128 ≤ b0) : 128 ≤ (Lib.decodeN n b0 b1 b2 b3).1 := by
  unfold Lib.decodeN
  repeat' split
  all_goals first | omega | (simp; omega) | simp
theorem decode_small (n b0 b1 b2 b3 : Nat) (h : b0 < 128) : Lib.decodeN n b0 b1 b2 b3 = (b0, 1) := by
  unfold Lib.decodeN; rw [if_pos h]
theorem pN_num (c : UInt8) (h : c.toNat < 128) : pN c.toNat = !Co.numC c := by
  have h2 := numC_iff c
  unfold pN
  cases hn : Co.numC c
  · have h3 : ¬ ((48 ≤ (c.toNat : Int) ∧ (c.toNat : Int) ≤ 57) ∨ (97 ≤ (c.toNat : Int) ∧ (c.toNat : Int) ≤ 122)) := by rw [← h2, hn]; simp
    simp; omega
  · have h3 := h2.mp hn
    simp; omega
theorem get_at (s : List UInt8) (i : Nat) (h : i < s.length) : (⟨s.toArray⟩ : ByteArray).get! i = s[i] := by
  show s.toArray[i]! = s[i]
  simp [h]
theorem idx_num (s : List UInt8) : ∀ f pos, pos ≤ s.length → s.length - pos ≤ f → (decide (0 ≤ Lib.idxFuncFrom pN true ⟨s.toArray⟩ f pos) = !((s.drop pos).all Co.numC)) := by
  intro f
  induction f with
  | zero =>
    intro pos h1 h2
    obtain rfl : pos = s.length := by omega
    rw [List.drop_length]; rfl
  | succ f ih =>
    intro pos h1 h2
    unfold Lib.idxFuncFrom
    by_cases hp : pos < s.length
    · have hsz : pos < (⟨s.toArray⟩ : ByteArray).size := hp
      rw [if_pos hsz, Lib.decode_at, get_at s pos hp, List.drop_eq_getElem_cons hp, List.all_cons]
      by_cases hc : s[pos].toNat < 128
      · rw [decode_small _ _ _ _ _ hc, pN_num _ hc]
        cases hn : Co.numC s[pos]
        · simp
        · have := ih (pos + 1) (by omega) (by omega)
          simp only [Bool.not_true, Bool.false_eq_true, if_false, Bool.true_and]
          exact this
      · have hv := decode_big ((⟨s.toArray⟩ : ByteArray).size - pos) s[pos].toNat ((⟨s.toArray⟩ : ByteArray).get! (pos + 1)).toNat ((⟨s.toArray⟩ : ByteArray).get! (pos + 2)).toNat ((⟨s.toArray⟩ : ByteArray).get! (pos + 3)).toNat (by omega)
        have hpn : pN (Lib.decodeN ((⟨s.toArray⟩ : ByteArray).size - pos) s[pos].toNat ((⟨s.toArray⟩ : ByteArray).get! (pos + 1)).toNat ((⟨s.toArray⟩ : ByteArray).get! (pos + 2)).toNat ((⟨s.toArray⟩ : ByteArray).get! (pos + 3)).toNat).1 = true := by
          unfold pN; simp; omega
        have hnc : Co.numC s[pos] = false := by rw [← Bool.not_eq_true, numC_iff]; omega
        rw [if_pos hpn, hnc]
        simp
    · obtain rfl : pos = s.length := by omega
      have hsz : ¬ s.length < (⟨s.toArray⟩ : ByteArray).size := hp
      rw [if_neg hsz, List.drop_length]; rfl

theorem cf_any (s : List UInt8) (nb : Bool) (hn : Hid (s.all Co.numC = nb)) (w : World) :
    Calls Tryz.prog 151 #[.string ⟨s.toArray⟩, .func (.func 152) #[] #[]] w fun e w' => e = .returned (.bool (!nb)) ∧ Below w.heap.size w w' := by
  have h := Tryz.strings_ContainsFunc 152 #[] (enters_of Tryz.func152 (by kernel_rfl) rfl) pN ⟨s.toArray⟩ w (predN w)
  have e := idx_num s s.length 0 (by omega) (by omega)
  rw [List.drop_zero, hn.out] at e
  unfold Lib.idxFunc at h
  rw [show (⟨s.toArray⟩ : ByteArray).size = s.length from rfl, e] at h
  exact h

/-- An item as the cells of a struct. -/
def itV (x : Co.It) : Value := .agg #[.int .i64 x.kind, .string ⟨x.id.toArray⟩, .string ⟨x.parent.toArray⟩, .string ⟨x.number.toArray⟩, .string ⟨x.north.toArray⟩, .string ⟨x.south.toArray⟩, .bool x.gone]
/-- The cells of an item at an address. -/
def ItAt (w : World) (b off : Nat) (x : Co.It) : Prop :=
  w.cell? ⟨b, off, none⟩ = some (.int .i64 x.kind) ∧ w.cell? ⟨b, off + 1, none⟩ = some (.string ⟨x.id.toArray⟩) ∧ w.cell? ⟨b, off + 2, none⟩ = some (.string ⟨x.parent.toArray⟩) ∧ w.cell? ⟨b, off + 3, none⟩ = some (.string ⟨x.number.toArray⟩) ∧
  w.cell? ⟨b, off + 4, none⟩ = some (.string ⟨x.north.toArray⟩) ∧ w.cell? ⟨b, off + 5, none⟩ = some (.string ⟨x.south.toArray⟩) ∧ w.cell? ⟨b, off + 6, none⟩ = some (.bool x.gone)
theorem ItAt.below {w w' : World} {b off : Nat} {x : Co.It} (h : ItAt w b off x) {B : Nat} (hb : Below B w w') (hB : b < B) : ItAt w' b off x := by
  obtain ⟨h0, h1, h2, h3, h4, h5, h6⟩ := h
  exact ⟨(hb.cell (p := ⟨b, off, none⟩) hB).trans h0, (hb.cell (p := ⟨b, off + 1, none⟩) hB).trans h1, (hb.cell (p := ⟨b, off + 2, none⟩) hB).trans h2, (hb.cell (p := ⟨b, off + 3, none⟩) hB).trans h3,
    (hb.cell (p := ⟨b, off + 4, none⟩) hB).trans h4, (hb.cell (p := ⟨b, off + 5, none⟩) hB).trans h5, (hb.cell (p := ⟨b, off + 6, none⟩) hB).trans h6⟩
theorem itAt_new (w : World) (x : Co.It) (t : TypeId) : ItAt (w.alloc (.cells #[.int .i64 x.kind, .string ⟨x.id.toArray⟩, .string ⟨x.parent.toArray⟩, .string ⟨x.number.toArray⟩, .string ⟨x.north.toArray⟩, .string ⟨x.south.toArray⟩, .bool x.gone] t)) w.heap.size 0 x :=
  ⟨World.cell?_alloc_at _ _ _ _ rfl, World.cell?_alloc_at _ _ _ _ rfl, World.cell?_alloc_at _ _ _ _ rfl, World.cell?_alloc_at _ _ _ _ rfl, World.cell?_alloc_at _ _ _ _ rfl, World.cell?_alloc_at _ _ _ _ rfl, World.cell?_alloc_at _ _ _ _ rfl⟩
theorem itAt_kept (w : World) (x : Co.It) (t : TypeId) (w1 : World) (c : Below (w.alloc (.cells #[.int .i64 x.kind, .string ⟨x.id.toArray⟩, .string ⟨x.parent.toArray⟩, .string ⟨x.number.toArray⟩, .string ⟨x.north.toArray⟩, .string ⟨x.south.toArray⟩, .bool x.gone] t)).heap.size (w.alloc (.cells #[.int .i64 x.kind, .string ⟨x.id.toArray⟩, .string ⟨x.parent.toArray⟩, .string ⟨x.number.toArray⟩, .string ⟨x.north.toArray⟩, .string ⟨x.south.toArray⟩, .bool x.gone] t)) w1) : ItAt w1 w.heap.size 0 x :=
  (itAt_new w x t).below c (by rw [size_alloc]; omega)
def ItOk (x : Co.It) : Prop := x.id.length ≤ 140737488355328 ∧ x.number.length ≤ 140737488355328

set_option maxRecDepth 100000 in
set_option maxHeartbeats 4000000 in
theorem coProper_any (x : Co.It) (b : Bool) (hb : Hid (Co.properL x = b)) (hx : ItOk x) (w : World) : Calls Tryz.prog 110 #[itV x] w fun e w' => e = .returned (.bool b) ∧ Below w.heap.size w w' := by
  obtain ⟨kind, id, parent, number, north, south, gone⟩ := x
  obtain ⟨h1, h2⟩ := hx
  simp only at h1 h2
  unfold itV
  simp only
  unfold Co.properL Co.numL at hb
  simp only at hb
  obtain ⟨nb, hnb⟩ : ∃ nb, Hid (number.all Co.numC = nb) := ⟨_, rfl⟩
  obtain ⟨ib, hib⟩ : ∃ ib, Hid (Co.nameL id = ib) := ⟨_, rfl⟩
  rw [hnb.out, hib.out] at hb
  have C1 := Lib.hid (fun W => cf_any number nb hnb W)
  have C2 := Lib.hid (fun W => isName_any id W h1)
  rw [hib.out] at C2
  clear hnb hib h1
  have B1 : ∀ o, Below w.heap.size w (w.alloc o) := fun o => (Below.refl _ _).alloc (Nat.le_refl _) _
  by_cases h8 : number.length ≤ 8
  · have d8 : decide ((number.length : Int) ≤ 8) = true := by rw [decide_eq_true_eq]; omega
    simp only [h8, decide_true, Bool.true_and] at hb
    have HB := Lib.hid hb.out
    clear h8 h2 hb
    go_enter Tryz.func110, Tryz.ntmps110
    go_wp2_with (first | (go_at_call 153; refine (C2.out _).mono ?_; rintro e w2 ⟨rfl, rfl⟩) | (go_at_call 151; refine (C1.out _).mono ?_; rintro e w1 ⟨rfl, c1⟩; have HF := itAt_kept w ⟨kind, id, parent, number, north, south, gone⟩ _ w1 c1; simp only [ItAt, Nat.zero_add] at HF; obtain ⟨f0, f1, f2, f3, f4, f5, f6⟩ := HF; have bb := below_next (B1 _) c1))
    all_goals (go_ret; refine ⟨?_, bb⟩; refine congrArg (fun x => Ending.returned (Value.bool x)) (?_ : _ = b); rw [← HB.out]; clear HB f0 f1 f2 f3 f4 f5 f6 C1 C2 bb c1 B1)
    all_goals
      have c1 : ∀ n : Nat, ((n : Int) ≤ 400) = (n ≤ 400) := fun n => by rw [eq_iff_iff]; omega
      have c2 : ∀ n : Nat, (400 < (n : Int)) = (400 < n) := fun n => by rw [eq_iff_iff]; omega
      simp only [c1, c2] at *
      clear c1 c2
      simp only [← beq_iff_eq (a := kind)]
      first
        | (rw [show decide (north.length ≤ 400) = false by simp; omega]; simp [*])
        | simp [*]
  · have d8 : decide ((number.length : Int) ≤ 8) = false := by rw [decide_eq_false_iff_not]; omega
    simp only [h8, decide_false, Bool.false_and] at hb
    have HB : Hid (b = false) := by unfold Hid; rw [← hb.out]; split <;> (try split) <;> rfl
    clear h8 h2 hb
    go_enter Tryz.func110, Tryz.ntmps110
    go_wp2_with fail
    all_goals (go_ret; exact ⟨by rw [HB.out]; rfl, (Below.refl _ _).alloc (Nat.le_refl _) _⟩)
end Go.Proofs.YteoclpjbeadkpaaGreatDoor
/- The map of the names that have been seen (code.walk), and items in memory. -/
namespace Go.Proofs.YteoclpjbeadkpaaGreatDoor
open Go.RowKit Go.Shelf Go.Maps

def SeenD (ss : List (List UInt8)) : DataW Unit := ss.foldl (fun D s => D.put (.string s) (.lit (.bool true))) (.map [])
theorem SeenD_snoc (ss : List (List UInt8)) (s : List UInt8) : SeenD (ss ++ [s]) = (SeenD ss).put (.string s) (.lit (.bool true)) := by unfold SeenD; rw [List.foldl_append]; rfl
theorem SeenD_map (ss : List (List UInt8)) : IsMap (SeenD ss) := by
  unfold SeenD
  suffices h : ∀ D : DataW Unit, IsMap D → IsMap (ss.foldl (fun D s => D.put (.string s) (.lit (.bool true))) D) from h _ isMap_empty
  induction ss with
  | nil => intro D h; exact h
  | cons s r ih => intro D h; exact ih _ (h.put _ _)
theorem SeenD_go (s : List UInt8) (z : DataW Unit) : ∀ (ss : List (List UInt8)) (D : DataW Unit), IsMap D → (ss.foldl (fun D s => D.put (.string s) (.lit (.bool true))) D).atKey (.string s) z = if ss.contains s then .lit (.bool true) else D.atKey (.string s) z := by
  intro ss
  induction ss with
  | nil => intro D h; rfl
  | cons x r ih =>
    intro D h
    rw [List.foldl_cons, ih _ (h.put _ _)]
    by_cases e : s = x
    · subst e
      rw [atKey_put_same h (show WideAt.IsKeyLit (.string s) from trivial)]
      simp
    · rw [atKey_put_other (by intro e2; cases e2; exact e rfl)]
      simp [e]
theorem SeenD_at (ss : List (List UInt8)) (s : List UInt8) : (SeenD ss).atKey (.string s) (.lit (.bool false)) = .lit (.bool (ss.contains s)) := by
  unfold SeenD
  rw [SeenD_go s _ ss _ isMap_empty]
  cases ss.contains s <;> rfl

def SeenAt (w : World) (m : Nat) (ss : List (List UInt8)) : Prop := w.ownsMap Tryz.prog 9 (plainElem (H := Unit) Tryz.prog 4) m ss.length (SeenD ss)
theorem seen_new (w : World) : SeenAt (w.alloc (.map #[] 0)) w.heap.size [] := World.ownsMap_made w _ _ _
theorem SeenAt.kept {w w' : World} {row : Option Nat} {m : Nat} {ss : List (List UInt8)} (h : SeenAt w m ss) (hg : w.grownBy w' row) (hne : some m ≠ row) : SeenAt w' m ss := World.ownsMap.kept h hg hne
theorem plainElem_bool_inv {P : Program} {e : TypeId} (he : P.underlying e = some .bool) {v : Value} {d : DataW Unit} {ps : List MemPlace} (h : plainElem P e v = some (d, ps)) : ∃ b, v = .bool b ∧ d = .lit (.bool b) := by
  unfold plainElem at h
  rw [he] at h
  cases v <;> simp at h
  exact ⟨_, rfl, h.1.symm⟩
theorem key_str (s : List UInt8) (hs : s.length ≤ maxLen) : keyOf Tryz.prog 9 (.string ⟨s.toArray⟩) = some (.string s) := WideMaps.keyOf_string_mk Tryz.underlying9 (s := ⟨s.toArray⟩) hs

theorem seen_look {w : World} {m : Nat} {ss : List (List UInt8)} (h : SeenAt w m ss) (s : List UInt8) (hs : s.length ≤ maxLen) :
    (Instr.lookup 143 (.map (some m)) (.string ⟨s.toArray⟩) false).run Tryz.prog w = .ok (.bool (ss.contains s)) w := by
  obtain ⟨v, ps, hrun, hv⟩ := World.ownsMap.lookup h (string_keyed Tryz.underlying9) Tryz.underlying143 (Tryz.zeroValue4 w) (plainElem_bool Tryz.underlying4 false) (key_str s hs)
  obtain ⟨b, rfl, hb⟩ := plainElem_bool_inv Tryz.underlying4 hv
  rw [SeenD_at] at hb
  simp only [DataW.lit.injEq, Lit.bool.injEq] at hb
  rw [hb]
  exact hrun
theorem seen_put {w : World} {m : Nat} {ss : List (List UInt8)} (h : SeenAt w m ss) (s : List UInt8) (hs : s.length ≤ maxLen) (hn : ss.length < maxLen) :
    ∃ w', (Instr.mapUpdate 143 (.map (some m)) (.string ⟨s.toArray⟩) (.bool true)).run Tryz.prog w = .ok () w' ∧ SeenAt w' m (ss ++ [s]) ∧ w.grownBy w' (some m) := by
  obtain ⟨w', hrun, h2, h3⟩ := World.ownsMap.update h (string_keyed Tryz.underlying9) Tryz.underlying143 hn (key_str s hs) (plainElem_bool Tryz.underlying4 true)
  refine ⟨w', hrun, ?_, h3⟩
  unfold SeenAt
  rw [List.length_append, SeenD_snoc]
  exact h2

/-- A slice of items in memory. -/
def HasIts (w : World) (v : Value) (l : List Co.It) : Prop :=
  (l = [] ∧ ∃ a c, v = .slice a 0 c) ∨ (0 < l.length ∧ ∃ b off c, v = .slice (some ⟨b, off, none⟩) l.length c ∧ b < w.heap.size ∧ ∀ (j : Nat) (h : j < l.length), ItAt w b (off + j * 7) l[j])
theorem HasIts.below {w w' : World} {v : Value} {l : List Co.It} (h : HasIts w v l) {B : Nat} (hb : Below B w w') (hB : w.heap.size ≤ B) : HasIts w' v l := by
  rcases h with h | ⟨h0, b, off, c, rfl, hlt, hc⟩
  · exact Or.inl h
  · exact Or.inr ⟨h0, b, off, c, rfl, Nat.lt_of_lt_of_le hlt hb.size, fun j hj => (hc j hj).below hb (by omega)⟩
theorem HasIts.shape {w : World} {v : Value} {l : List Co.It} (h : HasIts w v l) : ∃ a c, v = .slice a l.length c := by
  rcases h with ⟨rfl, a, c, rfl⟩ | ⟨_, b, off, c, rfl, _⟩
  · exact ⟨a, c, rfl⟩
  · exact ⟨_, c, rfl⟩
end Go.Proofs.YteoclpjbeadkpaaGreatDoor
/- The open items of code.walk in memory; who visits. -/
namespace Go.Proofs.YteoclpjbeadkpaaGreatDoor
open Go.RowKit Go.Shelf Go.Maps

theorem cell_same {w w' : World} {g : Nat} (h : w'.heap[g]? = w.heap[g]?) (j : Nat) : w'.cell? ⟨g, j, none⟩ = w.cell? ⟨g, j, none⟩ := by
  simp [World.cell?, h]

/-- W' is W but for blocks from n₁ on; block G is as it was. -/
def Same (n₁ : Nat) (G : Option Nat) (W W' : World) : Prop := W'.os = W.os ∧ W'.tape = W.tape ∧ W'.output = W.output ∧ W.heap.size ≤ W'.heap.size ∧ ∀ j, (j < n₁ ∨ some j = G) → W'.heap[j]? = W.heap[j]?
/-- W' is W but for the blocks B and G. -/
def Foot (B G : Option Nat) (W W' : World) : Prop := W.heap.size ≤ W'.heap.size ∧ ∀ j, j < W.heap.size → some j ≠ B → some j ≠ G → W'.heap[j]? = W.heap[j]?
theorem Same.refl (n₁ : Nat) (G : Option Nat) (W : World) : Same n₁ G W W := ⟨rfl, rfl, rfl, Nat.le_refl _, fun _ _ => rfl⟩
theorem Same.trans {n₁ : Nat} {G : Option Nat} {A B C : World} (h : Same n₁ G A B) (k : Same n₁ G B C) : Same n₁ G A C :=
  ⟨k.1.trans h.1, k.2.1.trans h.2.1, k.2.2.1.trans h.2.2.1, Nat.le_trans h.2.2.2.1 k.2.2.2.1, fun j hj => (k.2.2.2.2 j hj).trans (h.2.2.2.2 j hj)⟩
theorem Same.of_below {n₁ : Nat} {G : Option Nat} {A B : World} (h : Below A.heap.size A B) (hn : n₁ ≤ A.heap.size) (hG : ∀ g, G = some g → g < A.heap.size) : Same n₁ G A B :=
  ⟨h.os, h.tape, h.output, h.size, fun j hj => by
    rcases hj with hj | hj
    · exact h.block j (by omega)
    · exact h.block j (hG j hj.symm)⟩
theorem Same.of_grown {n₁ : Nat} {G : Option Nat} {A B : World} {m : Nat} (h : A.grownBy B (some m)) (hm : n₁ ≤ m) (hmG : some m ≠ G) (hn : n₁ ≤ A.heap.size) (hG : ∀ g, G = some g → g < A.heap.size) : Same n₁ G A B :=
  ⟨h.os, h.tape, h.output, h.size, fun j hj => by
    rcases hj with hj | hj
    · exact h.block j (by omega) (by intro e; cases e; omega)
    · exact h.block j (hG j hj.symm) (by rw [hj]; exact hmG.symm)⟩

/-- What code.walk asks of the function that it calls for each item. -/
structure Visit (vf : Nat) (lb : Array Value) (n n₀ n₁ : Nat) (pk : Nat → Prop) (B : Option Nat) (J : Nat → Option Nat → World → Prop) : Prop where
  same : ∀ k G W W', J k G W → Same n₁ G W W' → J k G W'
  lt : ∀ k G W, J k G W → ∀ g, G = some g → g < W.heap.size
  box : ∀ b, B = some b → b < n₁
  call : ∀ (k : Nat) (G : Option Nat) (W : World) (v : Value), k < n → pk k → J k G W → n₁ ≤ W.heap.size → Calls Tryz.prog vf (#[.int .i64 (k : Int), v] ++ lb) W fun e W' =>
    e = .returned (.tuple #[]) ∧ ∃ G', J (k + 1) G' W' ∧ Foot B G W W' ∧ Below n₀ W W' ∧ (G' = G ∨ ∃ g, G' = some g ∧ W.heap.size ≤ g)

/-- A slice that holds the names of the open items, in a block of its own (from n₂ on, other than G). -/
def OpenAt (n₂ : Nat) (G : Option Nat) (w : World) (v : Value) (o : List (List UInt8)) : Prop :=
  ∃ ao c, v = .slice ao o.length c ∧ o.length ≤ c ∧ c ≤ maxLen ∧ (ao = none → o.length = 0 ∧ c = 0) ∧
    ∀ a, ao = some a → ∃ g, a = ⟨g, 0, none⟩ ∧ n₂ ≤ g ∧ g < w.heap.size ∧ some g ≠ G ∧ ∀ j, j < o.length → w.cell? ⟨g, j, none⟩ = some (.string ⟨(o.getD j []).toArray⟩)
theorem OpenAt.nil (n₂ : Nat) (G : Option Nat) (w : World) : OpenAt n₂ G w (.slice none 0 0) [] := ⟨none, 0, rfl, Nat.le_refl _, by unfold maxLen; omega, fun _ => ⟨rfl, rfl⟩, fun a h => by cases h⟩
theorem OpenAt.kept {n₂ : Nat} {G G' : Option Nat} {w w' : World} {v : Value} {o : List (List UInt8)} (h : OpenAt n₂ G w v o) (hs : w.heap.size ≤ w'.heap.size)
    (hk : ∀ g, n₂ ≤ g → g < w.heap.size → some g ≠ G → w'.heap[g]? = w.heap[g]? ∧ some g ≠ G') : OpenAt n₂ G' w' v o := by
  obtain ⟨ao, c, h1, h2, h3, h4, h5⟩ := h
  refine ⟨ao, c, h1, h2, h3, h4, fun a ha => ?_⟩
  obtain ⟨g, q1, q2, q3, q4, q5⟩ := h5 a ha
  obtain ⟨e1, e2⟩ := hk g q2 q3 q4
  exact ⟨g, q1, q2, by omega, e2, fun j hj => (cell_same e1 j).trans (q5 j hj)⟩
theorem OpenAt.below {n₂ : Nat} {G : Option Nat} {w w' : World} {v : Value} {o : List (List UInt8)} (h : OpenAt n₂ G w v o) (b : Below w.heap.size w w') : OpenAt n₂ G w' v o :=
  h.kept b.size fun g _ h2 h3 => ⟨b.block g h2, h3⟩
theorem OpenAt.grown {n₂ m : Nat} {G : Option Nat} {w w' : World} {v : Value} {o : List (List UInt8)} (h : OpenAt n₂ G w v o) (b : w.grownBy w' (some m)) (hm : m < n₂) : OpenAt n₂ G w' v o :=
  h.kept b.size fun g h1 h2 h3 => ⟨b.block g h2 (by intro e; cases e; omega), h3⟩
theorem OpenAt.foot {n₂ : Nat} {B G G' : Option Nat} {w w' : World} {v : Value} {o : List (List UInt8)} (h : OpenAt n₂ G w v o) (b : Foot B G w w') (hB : ∀ x, B = some x → x < n₂) (hG : G' = G ∨ ∃ g, G' = some g ∧ w.heap.size ≤ g) : OpenAt n₂ G' w' v o :=
  h.kept b.1 fun g h1 h2 h3 => ⟨b.2 g h2 (by intro e; have := hB g e.symm; omega) h3, by
    rcases hG with rfl | ⟨y, rfl, hy⟩
    · exact h3
    · intro e; cases e; omega⟩

/-- 'open[:k:k]' -/
theorem slc_max {n₂ : Nat} {G : Option Nat} {w : World} {v : Value} {o : List (List UInt8)} (h : OpenAt n₂ G w v o) (k : Nat) (hk : k ≤ o.length) :
    ∃ u, (∀ W, (Instr.slice 27 v none (some (.int .i64 (k : Int))) (some (.int .i64 (k : Int)))).run Tryz.prog W = .ok u W) ∧ OpenAt n₂ G w u (o.take k) ∧ ∃ a, u = .slice a k k := by
  obtain ⟨ao, c, rfl, h2, h3, h4, h5⟩ := h
  have hl : (o.take k).length = k := by rw [List.length_take]; omega
  refine ⟨.slice ao k k, fun W => ?_, ⟨ao, k, by rw [hl], by omega, by omega, fun e => ?_, fun a ha => ?_⟩, ao, rfl⟩
  · cases ao with
    | none =>
      obtain ⟨e1, e2⟩ := h4 rfl
      obtain rfl : k = 0 := by omega
      subst e2
      rw [e1]
      simp [go_sem, sliced]
    | some a =>
      obtain ⟨g, rfl, _⟩ := h5 a rfl
      simp [go_sem, sliced, (by omega : (0 : Int) ≤ k), (by omega : (k : Int) ≤ c)]
  · obtain ⟨e1, e2⟩ := h4 e
    exact ⟨by omega, by omega⟩
  · obtain ⟨g, q1, q2, q3, q4, q5⟩ := h5 a ha
    refine ⟨g, q1, q2, q3, q4, fun j hj => ?_⟩
    rw [hl] at hj
    rw [q5 j (by omega)]
    simp [List.getD, hj]

theorem idxFrom_eq (p : List UInt8) : ∀ (o : List (List UInt8)) (i : Nat), Lib.idxFromS (o.map fun s => (⟨s.toArray⟩ : ByteArray)) ⟨p.toArray⟩ i = if Co.idxL o p < o.length then ((i + Co.idxL o p : Nat) : Int) else -1 := by
  intro o
  induction o with
  | nil => intro i; simp [Lib.idxFromS, Co.idxL]
  | cons x r ih =>
    intro i
    rw [List.map_cons]
    unfold Lib.idxFromS Co.idxL
    rw [List.findIdx_cons]
    by_cases h : x = p
    · subst h
      simp
    · have h2 : (⟨x.toArray⟩ : ByteArray) ≠ ⟨p.toArray⟩ := fun e => h (by have := congrArg (fun z => z.data.toList) e; simpa using this)
      have h3 : (x == p) = false := by rw [beq_eq_false_iff_ne]; exact h
      rw [if_neg h2, ih (i + 1), h3]
      unfold Co.idxL
      simp only [cond_false, List.length_cons]
      by_cases q : List.findIdx (fun x => x == p) r < r.length
      · rw [if_pos q, if_pos (by omega)]; omega
      · rw [if_neg q, if_neg (by omega)]

theorem openIndex {n₂ : Nat} {G : Option Nat} {w : World} {v : Value} {o : List (List UInt8)} (h : OpenAt n₂ G w v o) (p : List UInt8) (hl : o.length ≤ 9223372036854775807) :
    Calls Tryz.prog 111 #[v, .string ⟨p.toArray⟩] w fun e w' => e = .returned (.int .i64 (if Co.idxL o p < o.length then (Co.idxL o p : Int) else -1)) ∧ w' = w := by
  obtain ⟨ao, c, rfl, h2, h3, h4, h5⟩ := h
  have e := idxFrom_eq p o 0
  rw [Nat.zero_add] at e
  by_cases h0 : o.length = 0
  · have ho : o = [] := List.length_eq_zero_iff.mp h0
    subst ho
    exact Tryz.slices_Index_string_empty ao c ⟨p.toArray⟩ w
  · cases ao with
    | none => exact absurd (h4 rfl).1 h0
    | some a =>
      obtain ⟨g, rfl, q2, q3, q4, q5⟩ := h5 a rfl
      have h := Tryz.slices_Index_string g 0 o.length c (o.map fun s => (⟨s.toArray⟩ : ByteArray)) ⟨p.toArray⟩ w (by simp) (by omega) (fun j hj => by
        rw [List.length_map] at hj
        rw [Nat.zero_add, q5 j hj]
        simp [List.getD, List.getElem?_eq_getElem hj])
      rw [List.take_of_length_le (by simp)] at h
      unfold Lib.idxOfS at h
      rw [e] at h
      exact h
end Go.Proofs.YteoclpjbeadkpaaGreatDoor
/- WALK: code.walk, for whoever visits. -/
namespace Go.Proofs.YteoclpjbeadkpaaGreatDoor
open Go.RowKit Go.Shelf Go.Maps

theorem ids_snoc (l : List Co.It) (k : Nat) (h : k < l.length) : (l.take (k + 1)).map (·.id) = (l.take k).map (·.id) ++ [(l[k]).id] := by
  rw [List.take_succ_eq_append_getElem h, List.map_append]; rfl

theorem seen_same {w w' : World} {m : Nat} {ss : List (List UInt8)} (h : SeenAt w m ss) (e : w'.heap[m]? = w.heap[m]?) : SeenAt w' m ss := by
  obtain ⟨es, clock, hb, r⟩ := h
  exact ⟨es, clock, e.trans hb, r⟩
theorem itAt_same {w w' : World} {b off : Nat} {x : Co.It} (h : ItAt w b off x) (e : w'.heap[b]? = w.heap[b]?) : ItAt w' b off x := by
  obtain ⟨h0, h1, h2, h3, h4, h5, h6⟩ := h
  exact ⟨(cell_same e _).trans h0, (cell_same e _).trans h1, (cell_same e _).trans h2, (cell_same e _).trans h3, (cell_same e _).trans h4, (cell_same e _).trans h5, (cell_same e _).trans h6⟩
theorem walk_step {s o : List (List UInt8)} {x : Co.It} {r : List Co.It} {k : Nat} (h1 : Co.properL x = true) (h2 : s.contains x.id = false) (h3 : Co.placeL o x.parent = some k) :
    Co.walkF s o (x :: r) = Co.walkF (s ++ [x.id]) (Co.openL o k x) r := by
  conv => lhs; unfold Co.walkF
  rw [h1, h2, h3]; rfl
theorem walk_none {s o : List (List UInt8)} {x : Co.It} {r : List Co.It} (h3 : Co.placeL o x.parent = none) : Co.walkF s o (x :: r) = false := by
  unfold Co.walkF
  rw [h3]; simp
/-- A row that an append has made, as a slice of open items. -/
theorem open_row {n₂ base : Nat} {G : Option Nat} {w : World} {v : Value} {o : List (List UInt8)} {m : Nat} (hm : m = o.length) (h0 : 0 < m) (h : w.ownsRow base 9 1 v m (o.map fun s => Value.string ⟨s.toArray⟩)) (hb : n₂ ≤ base) (hG : ∀ g, G = some g → g < base) : OpenAt n₂ G w v o ∧ ∃ a c, v = .slice a m c := by
  subst hm
  rcases h.2 with ⟨_, hz⟩ | ⟨g, cap, cur, rfl, hg, hh, hnc, hcm, hcs, htake⟩
  · omega
  · refine ⟨⟨_, cap, rfl, hnc, hcm, (fun e => by cases e), fun a ha => ⟨g, by cases ha; rfl, by omega, (Array.getElem?_eq_some_iff.1 hh).1, fun e => by have := hG g e.symm; omega, fun j hj => ?_⟩⟩, _, _, rfl⟩
    rw [cell_of_heap hh]
    have e : (cur.toList.take (o.length * 1))[j]? = some (Value.string ⟨(o.getD j []).toArray⟩) := by
      rw [htake]; simp [List.getD, List.getElem?_eq_getElem hj]
    rw [List.getElem?_take_of_lt (by omega)] at e
    simpa using e

/-- What holds at the head of code.walk's loop, k items being visited. -/
structure Mid (w : World) (v : Value) (l : List Co.It) (n₀ : Nat) (J : Nat → Option Nat → World → Prop) (k : Nat) (G : Option Nat) (o : List (List UInt8)) (ov : Value) (wr : World) : Prop where
  le : k ≤ l.length
  walk : Co.walkF [] [] l = Co.walkF ((l.take k).map (·.id)) o (l.drop k)
  open_ : OpenAt (w.heap.size + 2) G wr ov o
  seen : SeenAt wr (w.heap.size + 1) ((l.take k).map (·.id))
  j : J k G wr
  box : wr.cell? ⟨w.heap.size, 0, none⟩ = some v
  its : HasIts wr v l
  size : w.heap.size + 2 ≤ wr.heap.size
  far : ∀ g, G = some g → g < w.heap.size ∨ w.heap.size + 2 ≤ g
  olen : o.length ≤ k

set_option maxRecDepth 100000 in
set_option maxHeartbeats 8000000 in
theorem walk_any (vf : Nat) (lb : Array Value) (l : List Co.It) (v : Value) (n₀ : Nat) (B : Option Nat) (J : Nat → Option Nat → World → Prop) (w : World)
    (hv : HasIts w v l) (hok : ∀ x ∈ l, ItOk x ∧ x.parent.length ≤ maxLen) (hn : l.length ≤ 100000) (hn₀ : n₀ ≤ w.heap.size)
    (hb0 : ∀ b off len c, v = .slice (some ⟨b, off, none⟩) len c → 0 < len → b < n₀)
    (pk : Nat → Prop) (hpk : ∀ (k : Nat) (h : k < l.length), Co.properL l[k] = true → pk k) (V : Visit vf lb l.length n₀ w.heap.size pk B J) (eg : ∀ args w, (callFunc vf args).run Tryz.prog w = .ok (.enter vf args) w) (G₀ : Option Nat) (h0 : J 0 G₀ w) :
    Calls Tryz.prog 63 #[.agg #[v], .func (.func vf) #[] lb] w fun e w' => e = .returned (.bool (Co.validL l)) ∧ ∃ k G, J k G w' ∧ (Co.validL l = true → k = l.length) := by
  have hmm := @run_makeMap Tryz.prog
  obtain ⟨va, vc, rfl⟩ := hv.shape
  obtain ⟨vb, hvb⟩ : ∃ vb, Hid (Co.validL l = vb) := ⟨_, rfl⟩
  rw [hvb.out]
  go_enter Tryz.func63, Tryz.ntmps63
  go_wp2_with fail
  have hbW : Below w.heap.size w ((w.alloc (.cells #[.slice va l.length vc] 24)).alloc (.map #[] 0)) := ((Below.refl _ w).alloc (Nat.le_refl _) _).alloc (by simp) _
  have hseen := seen_new (w.alloc (.cells #[.slice va l.length vc] 24))
  rw [World.size_alloc] at hseen
  have hbox : ((w.alloc (.cells #[.slice va l.length vc] 24)).alloc (.map #[] 0)).cell? ⟨w.heap.size, 0, none⟩ = some (.slice va l.length vc) := cell_of_heap ((heap_alloc_lt _ _ _ (by simp)).trans (heap_alloc_at w _))
  obtain ⟨W0, hW0⟩ : ∃ W0, (w.alloc (.cells #[.slice va l.length vc] 24)).alloc (.map #[] 0) = W0 := ⟨_, rfl⟩
  have hs0 : w.heap.size + 2 ≤ W0.heap.size := by rw [← hW0]; simp
  rw [hW0] at hbW hseen hbox ⊢
  clear hW0 hmm
  have hst : ∃ (k : Nat) (G : Option Nat) (o : List (List UInt8)), Value.int .i64 0 = .int .i64 (k : Int) ∧ Mid w (.slice va l.length vc) l n₀ J k G o (.slice none 0 0) W0 :=
    ⟨0, G₀, [], rfl, { le := Nat.zero_le _, walk := rfl, open_ := OpenAt.nil _ _ _, seen := hseen, j := V.same _ _ _ _ h0 (Same.of_below hbW (Nat.le_refl _) (V.lt _ _ _ h0)), box := hbox, its := hv.below hbW (Nat.le_refl _), size := hs0, far := fun g hg => Or.inl (V.lt _ _ _ h0 g hg), olen := Nat.le_refl _ }⟩
  clear hv hbW hseen hbox hs0 h0
  go_loopw [14, 6] (fun i ov wr => ∃ (k : Nat) (G : Option Nat) (o : List (List UInt8)), i = .int .i64 (k : Int) ∧ Mid w (.slice va l.length vc) l n₀ J k G o ov wr) (fun i _ _ => l.length - (intOf i).toNat)
  case atStart => exact hst
  case round =>
    clear hst
    obtain ⟨k, G, o, rfl, M⟩ := hrel
    obtain ⟨oa, oc, hove⟩ : ∃ a c, _ = Value.slice a o.length c := let ⟨a, c, h, _⟩ := M.open_; ⟨a, c, h⟩
    subst hove
    have hle := M.le
    by_cases hkl : k < l.length
    · rcases M.its with ⟨e, _⟩ | ⟨_, b, off, c, e, hblt, hit⟩
      · rw [e] at hkl; cases hkl
      simp only [Value.slice.injEq, true_and] at e
      obtain ⟨rfl, rfl⟩ := e
      have hx := hit k hkl
      have hin : (0 : Int) ≤ (k : Int) ∧ (k : Int) < (l.length : Int) := by omega
      obtain ⟨x, hxe⟩ : ∃ x, Hid (l[k] = x) := ⟨l[k], (rfl : l[k] = l[k])⟩
      rw [hxe.out] at hx
      simp only [ItAt] at hx
      obtain ⟨f0, f1, f2, f3, f4, f5, f6⟩ := hx
      have hdrop : l.drop k = x :: l.drop (k + 1) := by rw [List.drop_eq_getElem_cons hkl, hxe.out]
      have hids : (l.take (k + 1)).map (·.id) = (l.take k).map (·.id) ++ [x.id] := by rw [ids_snoc l k hkl, hxe.out]
      have hxm : x ∈ l := by rw [← hxe.out]; exact List.getElem_mem hkl
      obtain ⟨hxok, hpar⟩ := hok x hxm
      have hidl : x.id.length ≤ maxLen := Nat.le_trans hxok.1 (by decide)
      have hslen : ((l.take k).map (·.id)).length = k := by rw [List.length_map, List.length_take]; omega
      have hwalk := M.walk
      rw [hdrop] at hwalk
      obtain ⟨pb, hpb⟩ : ∃ pb, Hid (Co.properL x = pb) := ⟨_, rfl⟩
      obtain ⟨sb, hsb⟩ : ∃ sb, Hid (((l.take k).map (·.id)).contains x.id = sb) := ⟨_, rfl⟩
      have hGlt := V.lt _ _ _ M.j
      have hbn₀ : b < n₀ := hb0 b off l.length vc rfl (by omega)
      have HM := Lib.hid M
      have HW := Lib.hid hwalk
      have HI := Lib.hid hids
      have HO := Lib.hid hok
      have HB0 := Lib.hid hb0
      have HVal : Hid (vb = false ∨ Co.walkF [] [] l = true) := by
        unfold Hid
        rw [← hvb.out]
        unfold Co.validL
        cases Co.walkF [] [] l
        · left; rfl
        · right; rfl
      clear M hit hok hb0 hwalk hids hdrop
      go_wp2_with fail
      refine (coProper_any x pb hpb hxok _).mono ?_
      rintro e w1 ⟨rfl, c1⟩
      have F1 := itAt_kept wr x _ w1 c1
      have hx1 := F1
      simp only [ItAt, Nat.zero_add] at hx1
      obtain ⟨g0, g1, g2, g3, g4, g5, g6⟩ := hx1
      have b01 : Below wr.heap.size wr w1 := below_next ((Below.refl _ _).alloc (Nat.le_refl _) _) c1
      have hxb1 : wr.heap.size < w1.heap.size := by have := c1.size; simp at this; omega
      have hJ1 : J k G w1 := V.same _ _ _ _ HM.out.j (Same.of_below b01 (by have := HM.out.size; omega) hGlt)
      clear c1 f0 f1 f2 f3 f4 f5 f6
      cases pb
      · have hvf : Hid (vb = false) := by
          rcases HVal.out with h | h
          · exact h
          · rw [HW.out] at h; unfold Co.walkF at h; rw [hpb.out] at h; simp at h
        have HJ := Lib.hid hJ1
        clear hJ1 b01 F1 g0 g1 g2 g3 g4 g5 g6
        go_wp2_with fail
        go_ret
        exact ⟨by rw [hvf.out]; rfl, k, G, HJ.out, fun h => by rw [hvf.out] at h; cases h⟩
      · have hs1 : SeenAt w1 (w.heap.size + 1) ((l.take k).map (·.id)) := HM.out.seen.kept (row := Option.none) ⟨b01.os, b01.tape, b01.output, b01.size, fun j hj _ => b01.block j hj⟩ (by simp)
        have hlook := seen_look hs1 x.id hidl
        rw [hsb.out] at hlook
        have HPK : Hid (pk k) := hpk k hkl (by rw [hxe.out]; exact hpb.out)
        cases sb
        · obtain ⟨w2, hput, hs2, hg2⟩ := seen_put hs1 x.id hidl (by rw [hslen]; unfold maxLen; omega)
          have hne : ∀ j : Nat, j ≠ w.heap.size + 1 → j < w1.heap.size → w2.heap[j]? = w1.heap[j]? := fun j h1 h2 => hg2.block j h2 (by intro e; cases e; exact h1 rfl)
          have hsz := HM.out.size
          have hbxr := hne wr.heap.size (by omega) hxb1
          -- TAIL BEGIN
          have k0 := (cell_same hbxr 0).trans g0
          have k1 := (cell_same hbxr 1).trans g1
          have k2 := (cell_same hbxr 2).trans g2
          have hJ2 : J k G w2 := V.same _ _ _ _ hJ1 (Same.of_grown hg2 (by omega) (fun e => by have := HM.out.far _ e.symm; omega) (by omega) (fun g e => by have := hGlt g e; omega))
          have hsz2 : w.heap.size ≤ w2.heap.size := by have := hg2.size; omega
          have hsz2' : w.heap.size + 2 ≤ w2.heap.size := by have := hg2.size; omega
          have hxb2 : wr.heap.size < w2.heap.size := Nat.lt_of_lt_of_le hxb1 hg2.size
          have hO2 := (HM.out.open_.below b01).grown hg2 (by omega)
          have hBX2 : w2.cell? ⟨w.heap.size, 0, none⟩ = some (.slice (some ⟨b, off, none⟩) l.length vc) := (cell_same (hne _ (by omega) (by omega)) 0).trans ((b01.cell (p := ⟨w.heap.size, 0, none⟩) (by show w.heap.size < wr.heap.size; omega)).trans HM.out.box)
          have hIT2 : ∀ (j : Nat) (h : j < l.length), ItAt w2 b (off + j * 7) l[j] := fun j h => by
            rcases HM.out.its with ⟨e, _⟩ | ⟨_, b', off', c', e, hl', hit'⟩
            · rw [e] at h; cases h
            · simp only [Value.slice.injEq, Option.some.injEq, Addr.mk.injEq, true_and, and_true] at e
              obtain ⟨⟨rfl, rfl⟩, _⟩ := e
              exact itAt_same ((hit' j h).below b01 hl') (hne _ (by omega) (by omega))
          have HIT := Lib.hid hIT2
          have HBX := Lib.hid hBX2
          have HJ2 := Lib.hid hJ2
          have HS2 := Lib.hid hs2
          have hol := HM.out.olen
          clear hIT2 hBX2 hJ2 hs2 hJ1 hs1 F1 g0 g2 g3 g4 g5 g6 hbxr
          by_cases hp : x.parent = []
          · have hplace : Co.placeL o x.parent = some 0 := by unfold Co.placeL; rw [hp]; rfl
            have hle' : 0 ≤ o.length := Nat.zero_le _
            rw [hp] at k2
            have hKP : 0 ≤ o.length := hle'
            obtain ⟨u, hslc, hopn, ua, rfl⟩ := slc_max hO2 (0) hKP
            have hslc2 := hslc w2
            rw [show (((0 : Nat) : Int)) = 0 from rfl] at hslc2
            have htl : (o.take (0)).length = 0 := by rw [List.length_take]; omega
            have HP := Lib.hid hplace
            have HOP := Lib.hid hopn
            clear hslc hplace hopn
            go_wp2_with fail
            refine (V.call k G w2 _ hkl HPK.out HJ2.out hsz2).mono ?_
            rintro e w3 ⟨rfl, G', hJ3, hF, hbn, hG'⟩
            have hGlt3 := V.lt _ _ _ hJ3
            have neB : ∀ j, w.heap.size ≤ j → some j ≠ B := fun j hj e => by have := V.box j e.symm; omega
            have hx3 : w3.heap[wr.heap.size]? = w2.heap[wr.heap.size]? := hF.2 _ hxb2 (neB _ (by omega)) (fun e => by have := hGlt _ e.symm; omega)
            have hm3 : w3.heap[w.heap.size + 1]? = w2.heap[w.heap.size + 1]? := hF.2 _ (by omega) (neB _ (by omega)) (fun e => by have := HM.out.far _ e.symm; omega)
            have hb3 : w3.heap[w.heap.size]? = w2.heap[w.heap.size]? := hF.2 _ (by omega) (neB _ (by omega)) (fun e => by have := HM.out.far _ e.symm; omega)
            have hO3 := HOP.out.foot hF (fun y e => by have := V.box y e; omega) hG'
            have hs3 := seen_same HS2.out hm3
            have hbc3 : w3.cell? ⟨w.heap.size, 0, none⟩ = some (.slice (some ⟨b, off, none⟩) l.length vc) := (cell_same hb3 0).trans HBX.out
            have hit3 : ∀ (j : Nat) (h : j < l.length), ItAt w3 b (off + j * 7) l[j] := fun j h => itAt_same (HIT.out j h) (hbn.block b hbn₀)
            have far3 : ∀ g, G' = some g → g < w.heap.size ∨ w.heap.size + 2 ≤ g := fun g e => by
              rcases hG' with rfl | ⟨y, rfl, hy⟩
              · exact HM.out.far g e
              · cases e; right; omega
            have k03 := (cell_same hx3 0).trans k0
            have k13 := (cell_same hx3 1).trans k1
            have hwn := walk_step (r := l.drop (k + 1)) hpb.out hsb.out HP.out
            rw [← HI.out] at hwn
            have HWN := Lib.hid (HW.out.trans hwn)
            have hsz3 : w.heap.size + 2 ≤ w3.heap.size := Nat.le_trans hsz2' hF.1
            have hblt3 : b < w3.heap.size := by omega
            rw [← HI.out] at hs3
            have HR := Lib.hid (And.intro hJ3 (And.intro hO3 (And.intro hs3 (And.intro hbc3 (And.intro hit3 (And.intro far3 (And.intro hsz3 hblt3)))))))
            have HG3 := Lib.hid hGlt3
            clear hJ3 hO3 hs3 hbc3 hit3 far3 hsz3 hblt3 hx3 hm3 hb3 hF hbn hG' neB hwn hGlt3 k0 k1 k2 hlook hput hslc2
            by_cases hkd : x.kind = 1
            · have hkb : (x.kind == 1) = true := by rw [beq_iff_eq]; exact hkd
              have hOL : Hid (Co.openL o (0) x = o.take (0) ++ [x.id]) := if_pos hkd
              obtain ⟨i0, hi, hz0, hz1, hz2⟩ := info_parts info_str
              obtain ⟨ao, co, e1, q2, q3, q4, q5⟩ := HR.out.2.1
              simp only [Value.slice.injEq] at e1
              obtain ⟨rfl, e2, e3⟩ := e1
              clear e2 e3
              have HQ5 := Lib.hid q5
              have HQ4 := Lib.hid q4
              clear q2 q3 q4 q5 hkd
              go_wp2_with (at_builtin; refine wpList_append_grows _ rfl (.tmp 52) (.tmp 55) 27 rfl 9 i0 (.string ⟨#[]⟩) 1 16 Tryz.underlying27 hi hz0 hz1 hz2 rfl (by decide) ua (0) (0) ((o.take (0)).map fun s => Value.string ⟨s.toArray⟩) (by rfl) (fun e => by have := HQ4.out e; omega) (by have := htl; simp only [List.length_map]; omega) (fun a ha j y hj => by
                obtain ⟨g, rfl, h2, h3, h4, h5⟩ := HQ5.out a ha
                have hjl : j < (o.take (0)).length := by
                  have := (List.getElem?_eq_some_iff.1 hj).1
                  rwa [List.length_map] at this
                have hc := h5 j hjl
                rw [List.getElem?_map, List.getElem?_eq_getElem hjl] at hj
                simp only [Option.map_some, Option.some.injEq] at hj
                rw [← hj]
                have : (o.take (0)).getD j [] = (o.take (0))[j] := by rw [List.getD_eq_getElem?_getD, List.getElem?_eq_getElem hjl]; rfl
                rw [this] at hc
                show ((w3.alloc _).cell? (Addr.add ⟨g, 0, none⟩ j)) = _
                rw [Addr.add_lit, Nat.zero_add]
                exact (cell_same (heap_alloc_lt _ _ _ h3) j).trans hc) ⟨w3.heap.size, 0, none⟩ 1 1 [.string ⟨x.id.toArray⟩] (by rfl) rfl (by
                  intro j y hj
                  match j, hj with
                  | 0, hj =>
                    simp at hj
                    subst hj
                    rw [Addr.add_lit]
                    exact cell_of_heap (heap_alloc_at _ _)) (by intro y hy; simp at hy; subst hy; rfl) (by omega) (by unfold maxLen; omega) (by omega) ?_; intro v' w4 hown hgrow)
              have bw4 : Below w3.heap.size w3 w4 := ((Below.refl _ w3).alloc (Nat.le_refl _) _).grown hgrow (by simp) (fun _ e => by cases e)
              have hor := open_row (n₂ := w.heap.size + 2) (G := G') (o := o.take (0) ++ [x.id]) (m := 0 + 1) (by have := htl; simp only [List.length_append, List.length_cons, List.length_nil]; omega) (by omega) (by rw [List.map_append]; exact hown) (by simp; have := HR.out.2.2.2.2.2.2.1; omega) (fun g e => by have := HG3.out g e; simp; omega)
              obtain ⟨hO4, va4, ca4, rfl⟩ := hor
              have HO4 := Lib.hid hO4
              clear hO4 hown hgrow k03 k13
              go_wp2_with fail
              go_roundw
              case rel =>
                obtain ⟨r1, r2, r3, r4, r5, r6, r7, r8⟩ := HR.out
                refine ⟨k + 1, G', Co.openL o (0) x, by go_num, { le := hkl, walk := HWN.out, open_ := by rw [hOL.out]; exact HO4.out, seen := seen_same r3 (bw4.block _ (by omega)), j := V.same _ _ _ _ r1 (Same.of_below bw4 (by omega) HG3.out), box := (bw4.cell (p := ⟨w.heap.size, 0, none⟩) (by show w.heap.size < w3.heap.size; omega)).trans r4, its := Or.inr ⟨by omega, b, off, vc, rfl, Nat.lt_of_lt_of_le r8 bw4.size, fun j h => (r5 j h).below bw4 r8⟩, size := Nat.le_trans r7 bw4.size, far := r6, olen := by have := htl; rw [hOL.out]; simp only [List.length_append, List.length_cons, List.length_nil]; omega }⟩
              case measure => simp [intOf]; omega
            · have hkb : (x.kind == 1) = false := by rw [beq_eq_false_iff_ne]; exact hkd
              have hOL : Hid (Co.openL o (0) x = o.take (0)) := if_neg hkd
              clear hkd k13
              go_wp2_with fail
              go_roundw
              case rel =>
                obtain ⟨r1, r2, r3, r4, r5, r6, r7, r8⟩ := HR.out
                refine ⟨k + 1, G', Co.openL o (0) x, by go_num, { le := hkl, walk := HWN.out, open_ := by rw [hOL.out]; exact r2, seen := r3, j := r1, box := r4, its := Or.inr ⟨by omega, b, off, vc, rfl, r8, r5⟩, size := r7, far := r6, olen := by rw [hOL.out, htl]; omega }⟩
              case measure => simp [intOf]; omega
          · have hpe : x.parent.isEmpty = false := by cases hq : x.parent <;> simp_all
            have hbe : ∀ q : List UInt8, ((⟨q.toArray⟩ : ByteArray) != ⟨#[]⟩) = !q.isEmpty := fun q => by cases q <;> rfl
            have hbne : ((⟨x.parent.toArray⟩ : ByteArray) != ⟨#[]⟩) = true := by rw [hbe, hpe]; rfl
            clear hbe
            clear hp
            have hix := openIndex hO2 x.parent (by omega)
            by_cases hq : Co.idxL o x.parent < o.length
            · rw [if_pos hq] at hix
              have HIX := Lib.hid hix
              have hplace : Co.placeL o x.parent = some (Co.idxL o x.parent + 1) := by unfold Co.placeL; rw [hpe, if_pos hq]; rfl
              have hle' : Co.idxL o x.parent + 1 ≤ o.length := hq
              have hsum : IntKind.i64.wrap ((Co.idxL o x.parent : Int) + 1) = (Co.idxL o x.parent : Int) + 1 := by rw [IntKind.wrap_i64]; omega
              have hnz : ((Co.idxL o x.parent : Int) + 1 == 0) = false := by rw [beq_eq_false_iff_ne]; omega
              clear hix
              go_wp2_with fail
              refine HIX.out.mono ?_
              rintro e w2 ⟨rfl, rfl⟩
              have hKP : Co.idxL o x.parent + 1 ≤ o.length := hle'
              obtain ⟨u, hslc, hopn, ua, rfl⟩ := slc_max hO2 (Co.idxL o x.parent + 1) hKP
              have hslc2 := hslc w2
              rw [show (((Co.idxL o x.parent + 1 : Nat)) : Int) = (Co.idxL o x.parent : Int) + 1 by omega] at hslc2
              have htl : (o.take (Co.idxL o x.parent + 1)).length = Co.idxL o x.parent + 1 := by rw [List.length_take]; omega
              have HP := Lib.hid hplace
              have HOP := Lib.hid hopn
              clear hslc hplace hopn
              go_wp2_with fail
              refine (V.call k G w2 _ hkl HPK.out HJ2.out hsz2).mono ?_
              rintro e w3 ⟨rfl, G', hJ3, hF, hbn, hG'⟩
              have hGlt3 := V.lt _ _ _ hJ3
              have neB : ∀ j, w.heap.size ≤ j → some j ≠ B := fun j hj e => by have := V.box j e.symm; omega
              have hx3 : w3.heap[wr.heap.size]? = w2.heap[wr.heap.size]? := hF.2 _ hxb2 (neB _ (by omega)) (fun e => by have := hGlt _ e.symm; omega)
              have hm3 : w3.heap[w.heap.size + 1]? = w2.heap[w.heap.size + 1]? := hF.2 _ (by omega) (neB _ (by omega)) (fun e => by have := HM.out.far _ e.symm; omega)
              have hb3 : w3.heap[w.heap.size]? = w2.heap[w.heap.size]? := hF.2 _ (by omega) (neB _ (by omega)) (fun e => by have := HM.out.far _ e.symm; omega)
              have hO3 := HOP.out.foot hF (fun y e => by have := V.box y e; omega) hG'
              have hs3 := seen_same HS2.out hm3
              have hbc3 : w3.cell? ⟨w.heap.size, 0, none⟩ = some (.slice (some ⟨b, off, none⟩) l.length vc) := (cell_same hb3 0).trans HBX.out
              have hit3 : ∀ (j : Nat) (h : j < l.length), ItAt w3 b (off + j * 7) l[j] := fun j h => itAt_same (HIT.out j h) (hbn.block b hbn₀)
              have far3 : ∀ g, G' = some g → g < w.heap.size ∨ w.heap.size + 2 ≤ g := fun g e => by
                rcases hG' with rfl | ⟨y, rfl, hy⟩
                · exact HM.out.far g e
                · cases e; right; omega
              have k03 := (cell_same hx3 0).trans k0
              have k13 := (cell_same hx3 1).trans k1
              have hwn := walk_step (r := l.drop (k + 1)) hpb.out hsb.out HP.out
              rw [← HI.out] at hwn
              have HWN := Lib.hid (HW.out.trans hwn)
              have hsz3 : w.heap.size + 2 ≤ w3.heap.size := Nat.le_trans hsz2' hF.1
              have hblt3 : b < w3.heap.size := by omega
              rw [← HI.out] at hs3
              have HR := Lib.hid (And.intro hJ3 (And.intro hO3 (And.intro hs3 (And.intro hbc3 (And.intro hit3 (And.intro far3 (And.intro hsz3 hblt3)))))))
              have HG3 := Lib.hid hGlt3
              clear hJ3 hO3 hs3 hbc3 hit3 far3 hsz3 hblt3 hx3 hm3 hb3 hF hbn hG' neB hwn hGlt3 k0 k1 k2 hlook hput hslc2
              by_cases hkd : x.kind = 1
              · have hkb : (x.kind == 1) = true := by rw [beq_iff_eq]; exact hkd
                have hOL : Hid (Co.openL o (Co.idxL o x.parent + 1) x = o.take (Co.idxL o x.parent + 1) ++ [x.id]) := if_pos hkd
                obtain ⟨i0, hi, hz0, hz1, hz2⟩ := info_parts info_str
                obtain ⟨ao, co, e1, q2, q3, q4, q5⟩ := HR.out.2.1
                simp only [Value.slice.injEq] at e1
                obtain ⟨rfl, e2, e3⟩ := e1
                clear e2 e3
                have HQ5 := Lib.hid q5
                have HQ4 := Lib.hid q4
                clear q2 q3 q4 q5 hkd
                go_wp2_with (at_builtin; refine wpList_append_grows _ rfl (.tmp 52) (.tmp 55) 27 rfl 9 i0 (.string ⟨#[]⟩) 1 16 Tryz.underlying27 hi hz0 hz1 hz2 rfl (by decide) ua (Co.idxL o x.parent + 1) (Co.idxL o x.parent + 1) ((o.take (Co.idxL o x.parent + 1)).map fun s => Value.string ⟨s.toArray⟩) (by rfl) (fun e => by have := HQ4.out e; omega) (by have := htl; simp only [List.length_map]; omega) (fun a ha j y hj => by
                  obtain ⟨g, rfl, h2, h3, h4, h5⟩ := HQ5.out a ha
                  have hjl : j < (o.take (Co.idxL o x.parent + 1)).length := by
                    have := (List.getElem?_eq_some_iff.1 hj).1
                    rwa [List.length_map] at this
                  have hc := h5 j hjl
                  rw [List.getElem?_map, List.getElem?_eq_getElem hjl] at hj
                  simp only [Option.map_some, Option.some.injEq] at hj
                  rw [← hj]
                  have : (o.take (Co.idxL o x.parent + 1)).getD j [] = (o.take (Co.idxL o x.parent + 1))[j] := by rw [List.getD_eq_getElem?_getD, List.getElem?_eq_getElem hjl]; rfl
                  rw [this] at hc
                  show ((w3.alloc _).cell? (Addr.add ⟨g, 0, none⟩ j)) = _
                  rw [Addr.add_lit, Nat.zero_add]
                  exact (cell_same (heap_alloc_lt _ _ _ h3) j).trans hc) ⟨w3.heap.size, 0, none⟩ 1 1 [.string ⟨x.id.toArray⟩] (by rfl) rfl (by
                    intro j y hj
                    match j, hj with
                    | 0, hj =>
                      simp at hj
                      subst hj
                      rw [Addr.add_lit]
                      exact cell_of_heap (heap_alloc_at _ _)) (by intro y hy; simp at hy; subst hy; rfl) (by omega) (by unfold maxLen; omega) (by omega) ?_; intro v' w4 hown hgrow)
                have bw4 : Below w3.heap.size w3 w4 := ((Below.refl _ w3).alloc (Nat.le_refl _) _).grown hgrow (by simp) (fun _ e => by cases e)
                have hor := open_row (n₂ := w.heap.size + 2) (G := G') (o := o.take (Co.idxL o x.parent + 1) ++ [x.id]) (m := Co.idxL o x.parent + 1 + 1) (by have := htl; simp only [List.length_append, List.length_cons, List.length_nil]; omega) (by omega) (by rw [List.map_append]; exact hown) (by simp; have := HR.out.2.2.2.2.2.2.1; omega) (fun g e => by have := HG3.out g e; simp; omega)
                obtain ⟨hO4, va4, ca4, rfl⟩ := hor
                have HO4 := Lib.hid hO4
                clear hO4 hown hgrow k03 k13
                go_wp2_with fail
                go_roundw
                case rel =>
                  obtain ⟨r1, r2, r3, r4, r5, r6, r7, r8⟩ := HR.out
                  refine ⟨k + 1, G', Co.openL o (Co.idxL o x.parent + 1) x, by go_num, { le := hkl, walk := HWN.out, open_ := by rw [hOL.out]; exact HO4.out, seen := seen_same r3 (bw4.block _ (by omega)), j := V.same _ _ _ _ r1 (Same.of_below bw4 (by omega) HG3.out), box := (bw4.cell (p := ⟨w.heap.size, 0, none⟩) (by show w.heap.size < w3.heap.size; omega)).trans r4, its := Or.inr ⟨by omega, b, off, vc, rfl, Nat.lt_of_lt_of_le r8 bw4.size, fun j h => (r5 j h).below bw4 r8⟩, size := Nat.le_trans r7 bw4.size, far := r6, olen := by have := htl; rw [hOL.out]; simp only [List.length_append, List.length_cons, List.length_nil]; omega }⟩
                case measure => simp [intOf]; omega
              · have hkb : (x.kind == 1) = false := by rw [beq_eq_false_iff_ne]; exact hkd
                have hOL : Hid (Co.openL o (Co.idxL o x.parent + 1) x = o.take (Co.idxL o x.parent + 1)) := if_neg hkd
                clear hkd k13
                go_wp2_with fail
                go_roundw
                case rel =>
                  obtain ⟨r1, r2, r3, r4, r5, r6, r7, r8⟩ := HR.out
                  refine ⟨k + 1, G', Co.openL o (Co.idxL o x.parent + 1) x, by go_num, { le := hkl, walk := HWN.out, open_ := by rw [hOL.out]; exact r2, seen := r3, j := r1, box := r4, its := Or.inr ⟨by omega, b, off, vc, rfl, r8, r5⟩, size := r7, far := r6, olen := by rw [hOL.out, htl]; omega }⟩
                case measure => simp [intOf]; omega
            · rw [if_neg hq] at hix
              have HIX := Lib.hid hix
              have hplace : Co.placeL o x.parent = none := by unfold Co.placeL; rw [hpe, if_neg hq]; rfl
              have hvf : Hid (vb = false) := by
                rcases HVal.out with h | h
                · exact h
                · rw [HW.out, walk_none hplace] at h; cases h
              clear hix hplace
              go_wp2_with fail
              refine HIX.out.mono ?_
              rintro e w2 ⟨rfl, rfl⟩
              go_wp2_with fail
              go_ret
              exact ⟨by rw [hvf.out]; rfl, k, G, HJ2.out, fun h => by rw [hvf.out] at h; cases h⟩
        · have hvf : Hid (vb = false) := by
            rcases HVal.out with h | h
            · exact h
            · rw [HW.out] at h; unfold Co.walkF at h; rw [hpb.out, hsb.out] at h; simp at h
          have HJ := Lib.hid hJ1
          clear hJ1 b01 F1 g0 g2 g3 g4 g5 g6 hs1
          go_wp2_with fail
          go_ret
          exact ⟨by rw [hvf.out]; rfl, k, G, HJ.out, fun h => by rw [hvf.out] at h; cases h⟩
    · obtain rfl : k = l.length := by omega
      have hbx := M.box
      have hve : Hid (Co.validL l = decide (l.length ≤ 2000)) := by
        unfold Hid Co.validL
        rw [M.walk, List.drop_length]; simp [Co.walkF]
      have hz : decide ((l.length : Int) ≤ 2000) = decide (l.length ≤ 2000) := by rw [decide_eq_decide]; omega
      have HZ := Lib.hid hz
      clear hz
      rw [hvb.out] at hve
      have HJ := Lib.hid M.j
      clear M hvb
      go_wp2_with fail
      go_ret
      refine ⟨?_, l.length, G, HJ.out, fun _ => rfl⟩
      rw [hve.out, ← HZ.out]
      rfl
end Go.Proofs.YteoclpjbeadkpaaGreatDoor
/- WALKS: code.joined; the map of the kinds' letters; code.Valid. -/
namespace Go.Proofs.YteoclpjbeadkpaaGreatDoor
open Go.RowKit Go.Shelf Go.Maps

set_option maxHeartbeats 1000000 in
set_option maxRecDepth 100000 in
theorem joined_any (ss : List (List UInt8)) (v : Value) (x : List UInt8) (w : World) (ht : Tab w) (hv : HasStrs w v ss) (hJ : (Dg.joinL ss).length ≤ 140737488355328) (hx : Hid (Dg.joinL ss = x)) :
    Calls Tryz.prog 66 #[v] w fun e w' => e = .returned (.string ⟨x.toArray⟩) ∧ Below w.heap.size w w' := by
  rcases hv with ⟨rfl, a, c, rfl⟩ | ⟨h0, b, off, c, rfl, hlt, hc⟩
  · go_enter Tryz.func66, Tryz.ntmps66
    go_wp2_with fail
    refine wp_loop_rounds 1 ?_
    rw [rounds_succ]
    go_wp2_with fail
    go_ret
    exact ⟨by rw [← hx.out]; rfl, Below.refl _ _⟩
  · have hss : ss.length ≤ 140737488355328 := Nat.le_trans (joinL_count ss) hJ
    go_enter Tryz.func66, Tryz.ntmps66
    go_wp2_with fail
    go_loopw [3, 8] (fun o c wr => ∃ k : Nat, k ≤ ss.length ∧ c = .int .i64 k ∧ o = .string ⟨(Dg.joinL (ss.take k)).toArray⟩ ∧ Below w.heap.size w wr) (fun _ c _ => ss.length - (intOf c).toNat)
    case atStart => exact ⟨0, by omega, rfl, rfl, Below.refl _ _⟩
    case round =>
      obtain ⟨k, hk, rfl, rfl, hb⟩ := hrel
      have hsz := hb.size
      by_cases hkl : k < ss.length
      · have hck := (hb.cell (p := ⟨b, off + k, none⟩) hlt).trans (hc k hkl)
        have hj := joinL_take ss k hkl
        have hle := joinL_take_le ss (k + 1)
        generalize ss.getD k [] = s at hck hj
        rw [hj, List.length_append] at hle
        have hil := Dg.item_length s
        have HJ := Lib.hid hj; clear hj hc
        have htr := ht.below hb (Nat.le_refl _)
        obtain ⟨q, hq⟩ : ∃ q, Dg.joinL (ss.take k) = q := ⟨_, rfl⟩
        rw [hq] at HJ hle ⊢
        go_wp2_with fail
        refine (itoa_any s.length (by omega) _ htr).mono ?_
        rintro e w1 ⟨rfl, hb1⟩
        have hb2 := hb.trans (hb1.mono hsz)
        clear hb hb1 htr hck hq
        have hcat : (⟨q.toArray⟩ ++ (⟨(Dg.decN s.length).toArray⟩ ++ ⟨#[58]⟩ ++ ⟨s.toArray⟩) : ByteArray) = ⟨(q ++ Dg.item s).toArray⟩ := by
          rw [mk_append, mk_append, mk_append]; simp [Dg.item]
        have HC := Lib.hid hcat; clear hcat
        have hdl := Dg.decN_length s.length
        generalize Dg.decN s.length = d at hdl HC ⊢
        go_wp2_with fail
        go_roundw
        case rel => exact ⟨k + 1, by omega, by go_num, by rw [HJ.out, ← HC.out], hb2⟩
        case measure => simp [intOf]; omega
      · obtain rfl : k = ss.length := by omega
        rw [List.take_length, hx.out]
        clear hc
        go_wp2_with fail
        go_ret
        exact ⟨rfl, hb⟩

theorem plainElem_string_inv {P : Program} {e : TypeId} (he : P.underlying e = some .string) {v : Value} {d : DataW Unit} {ps : List MemPlace} (h : plainElem P e v = some (d, ps)) : ∃ s : ByteArray, v = .string s ∧ d = .lit (.string s.data.toList) := by
  unfold plainElem at h
  rw [he] at h
  cases v <;> simp at h
  exact ⟨_, rfl, h.2.1.symm⟩
theorem kind_map (W : World) : ∃ W2 W3, (Instr.mapUpdate 104 (.map (some W.heap.size)) (.int .i64 1) (.string ⟨#[100]⟩)).run Tryz.prog (W.alloc (.map #[] 0)) = .ok () W2 ∧
    (Instr.mapUpdate 104 (.map (some W.heap.size)) (.int .i64 2) (.string ⟨#[97]⟩)).run Tryz.prog W2 = .ok () W3 ∧
    (∀ k : Int, k = 1 ∨ k = 2 → (Instr.lookup 104 (.map (some W.heap.size)) (.int .i64 k) false).run Tryz.prog W3 = .ok (.string ⟨(Co.kindL k).toArray⟩) W3) ∧ Below W.heap.size W W3 := by
  have h0 := World.ownsMap_made W Tryz.prog 3 (plainElem (H := Unit) Tryz.prog 9)
  have K := int_keyed (P := Tryz.prog) Tryz.underlying3
  obtain ⟨W2, r2, h2, g2⟩ := h0.update K Tryz.underlying104 (by unfold maxLen; omega) (keyOf_int_mk Tryz.underlying3 (a := 1) (by decide)) (plainElem_string Tryz.underlying9 (s := ⟨#[100]⟩) (by decide))
  obtain ⟨W3, r3, h3, g3⟩ := h2.update K Tryz.underlying104 (by unfold maxLen; omega) (keyOf_int_mk Tryz.underlying3 (a := 2) (by decide)) (plainElem_string Tryz.underlying9 (s := ⟨#[97]⟩) (by decide))
  refine ⟨W2, W3, r2, r3, ?_, ?_⟩
  · intro k hk
    obtain ⟨v, ps, hrun, hv⟩ := h3.lookup K Tryz.underlying104 (Tryz.zeroValue9 W3) (plainElem_string Tryz.underlying9 (s := ⟨#[]⟩) (by decide)) (keyOf_int_mk Tryz.underlying3 (a := k) (by rcases hk with rfl | rfl <;> decide))
    obtain ⟨s, rfl, hs⟩ := plainElem_string_inv Tryz.underlying9 hv
    have hD : ∀ z : DataW Unit, (((DataW.map [] : DataW Unit).put (.int .i64 1) (.lit (.string [100]))).put (.int .i64 2) (.lit (.string [97]))).atKey (.int .i64 k) z = .lit (.string (Co.kindL k)) := by
      intro z
      rcases hk with rfl | rfl
      · rw [atKey_put_other (by intro e; cases e), atKey_put_same isMap_empty (show WideAt.IsKeyLit (.int .i64 1) from trivial)]; rfl
      · rw [atKey_put_same (isMap_empty.put _ _) (show WideAt.IsKeyLit (.int .i64 2) from trivial)]; rfl
    have e := (hD _).symm.trans hs
    simp only [DataW.lit.injEq, Lit.string.injEq] at e
    have e2 : s = ⟨(Co.kindL k).toArray⟩ := by
      rw [e]
    rw [← e2]
    exact hrun
  · exact (((Below.refl _ W).alloc (Nat.le_refl _) _).grown g2 (by simp) (fun k e => by cases e; exact Nat.le_refl _)).grown g3 (by have := g2.size; simp at this; omega) (fun k e => by cases e; exact Nat.le_refl _)

theorem valid1_any (k : Nat) (v : Value) (w : World) : Calls Tryz.prog 64 #[.int .i64 (k : Int), v] w fun e w' => e = .returned (.tuple #[]) ∧ w' = w := by
  go_enter Tryz.func64, Tryz.ntmps64
  go_wp2_with fail
  go_end0
  exact ⟨rfl, rfl⟩

def CodeOk (l : List Co.It) : Prop := (∀ x ∈ l, ItOk x ∧ x.parent.length ≤ maxLen) ∧ l.length ≤ 100000

set_option maxHeartbeats 1000000 in
theorem valid_any (l : List Co.It) (v : Value) (w : World) (hv : HasIts w v l) (hok : CodeOk l) (b : Bool) (hb : Hid (Co.validL l = b)) : Calls Tryz.prog 31 #[.agg #[v]] w fun e w' => e = .returned (.bool b) ∧ Below w.heap.size w w' := by
  have hlt : ∀ b off len c, v = .slice (some ⟨b, off, none⟩) len c → 0 < len → b < w.heap.size := fun b off len c e h => by
    rcases hv with ⟨rfl, a, c', e2⟩ | ⟨_, b', off', c', e2, hb', _⟩
    · rw [e] at e2
      simp only [Value.slice.injEq] at e2
      omega
    · rw [e] at e2
      simp only [Value.slice.injEq, Option.some.injEq, Addr.mk.injEq] at e2
      obtain ⟨⟨rfl, _⟩, _⟩ := e2
      exact hb'
  have C : Hid (∀ W, Below w.heap.size w W → Calls Tryz.prog 63 #[.agg #[v], .func (.func 64) #[] #[]] W fun e w' => e = .returned (.bool b) ∧ Below w.heap.size w w') := fun W hW => by
    have V : Visit 64 #[] l.length w.heap.size W.heap.size (fun _ => True) none (fun _ G A => G = none ∧ Below w.heap.size w A) :=
      { same := fun k G A B h hs => ⟨h.1, h.2.trans ⟨hs.1, hs.2.1, hs.2.2.1, hs.2.2.2.1, fun j hj => hs.2.2.2.2 j (Or.inl (by have := hW.size; omega))⟩⟩
        lt := fun k G A h g e => by rw [h.1] at e; cases e
        box := fun b e => by cases e
        call := fun k G A u hk _ h _ => (valid1_any k u A).mono fun e A' ⟨h1, h2⟩ => by
          subst h2
          exact ⟨h1, G, h, ⟨Nat.le_refl _, fun _ _ _ _ => rfl⟩, Below.refl _ _, Or.inl rfl⟩ }
    refine (walk_any 64 #[] l v w.heap.size none _ W (hv.below hW (Nat.le_refl _)) hok.1 hok.2 hW.size hlt (fun _ => True) (fun _ _ _ => trivial) V (enters_of Tryz.func64 (by kernel_rfl) rfl) none ⟨rfl, hW⟩).mono ?_
    rintro e W' ⟨h1, k, G, h2, _⟩
    rw [hb.out] at h1
    exact ⟨h1, h2.2⟩
  obtain ⟨a, c, rfl⟩ := hv.shape
  clear hv hlt
  go_enter Tryz.func31, Tryz.ntmps31
  go_wp2_with fail
  refine (C.out _ ((Below.refl _ _).alloc (Nat.le_refl _) _)).mono ?_
  rintro e w1 ⟨rfl, c1⟩
  go_wp2_with fail
  go_ret
  exact ⟨rfl, c1⟩
end Go.Proofs.YteoclpjbeadkpaaGreatDoor
/- WALKS: code.Leaves and its closure. -/
namespace Go.Proofs.YteoclpjbeadkpaaGreatDoor
open Go.RowKit Go.Shelf Go.Maps

/-- The texts of the items that are not gone, of the first k. -/
def liveK (l : List Co.It) (k : Nat) : List (List UInt8) := (Co.liveL (l.take k)).map Co.leafL
theorem liveK_gone (l : List Co.It) (k : Nat) (h : k < l.length) (hg : (l[k]).gone = true) : liveK l (k + 1) = liveK l k := by
  unfold liveK Co.liveL
  rw [List.take_succ_eq_append_getElem h, List.filter_append]
  simp [hg]
theorem liveK_live (l : List Co.It) (k : Nat) (h : k < l.length) (hg : (l[k]).gone = false) : liveK l (k + 1) = liveK l k ++ [Co.leafL l[k]] := by
  unfold liveK Co.liveL
  rw [List.take_succ_eq_append_getElem h, List.filter_append, List.map_append]
  simp [hg]
theorem liveK_all (l : List Co.It) : liveK l l.length = (Co.liveL l).map Co.leafL := by unfold liveK; rw [List.take_length]
theorem liveK_length (l : List Co.It) (k : Nat) : (liveK l k).length ≤ l.length := by
  unfold liveK Co.liveL
  rw [List.length_map]
  exact Nat.le_trans (List.length_filter_le _ _) (by rw [List.length_take]; omega)

theorem row_not {n₀ B : Nat} {W : World} {v : Value} {ss : List (List UInt8)} {cs : Array Value} {t : TypeId} (ht : t ≠ 9) (h : W.heap[B]? = some (.cells cs t (0, 0))) (hr : OwnS n₀ W v ss) : some B ≠ v.ownBlock := by
  rcases hr.2 with ⟨rfl, _⟩ | ⟨g, cap, cur, rfl, _, hgb, _⟩
  · simp [Value.ownBlock]
  · intro e
    obtain rfl : B = g := by simpa [Value.ownBlock] using e
    rw [hgb] at h
    simp only [Option.some.injEq, Obj.cells.injEq] at h
    exact ht h.2.1.symm
theorem app_runG {n₀ B : Nat} {W : World} {v : Value} {ss : List (List UInt8)} (y : List UInt8) (hv : Boxed W B 27 v) (hown : OwnS n₀ W v ss) (hn₀ : n₀ ≤ W.heap.size) (hn : ss.length ≤ 8796093022206) :
    ∃ g cap w2, (AppS #[v, .slice (some ⟨W.heap.size, 0, none⟩) 1 1]).run Tryz.prog (W.alloc (.cells #[.string ⟨y.toArray⟩] 9)) = .ok (.slice (some ⟨g, 0, none⟩) (ss.length + 1) cap) w2 ∧
      Boxed w2 B 27 v ∧ Boxed (w2.setCell ⟨B, 0, none⟩ (.slice (some ⟨g, 0, none⟩) (ss.length + 1) cap)) B 27 (.slice (some ⟨g, 0, none⟩) (ss.length + 1) cap) ∧
      OwnS n₀ (w2.setCell ⟨B, 0, none⟩ (.slice (some ⟨g, 0, none⟩) (ss.length + 1) cap)) (.slice (some ⟨g, 0, none⟩) (ss.length + 1) cap) (ss ++ [y]) ∧
      (W.alloc (.cells #[.string ⟨y.toArray⟩] 9)).grownBy w2 v.ownBlock ∧ (some g = v.ownBlock ∨ W.heap.size ≤ g) := by
  obtain ⟨i0, hi, hz0, hz1, hz2⟩ := info_parts info_str
  obtain ⟨v', w', hrun, hown', hgrow, hnil, hat⟩ := run_append_own_at (P := Tryz.prog) (W.alloc (.cells #[.string ⟨y.toArray⟩] 9)) n₀ 27 27 9 i0 (.string ⟨#[]⟩) 1 16 Tryz.underlying27 hi hz0 hz1 hz2 rfl (by decide) v ss.length _ (hown.alloc _) ⟨W.heap.size, 0, none⟩ 1 1 [.string ⟨y.toArray⟩] rfl (by
      intro j u hj
      match j, hj with
      | 0, hj => simp at hj; subst hj; simp [Addr.add]) (by intro u hu; simp at hu; subst hu; rfl) (by unfold maxLen; omega) (by omega) (by simp; omega)
  obtain ⟨g, cap, rfl⟩ := ownsRow_succ hown'
  have hown2 : OwnS n₀ w' (.slice (some ⟨g, 0, none⟩) (ss.length + 1) cap) (ss ++ [y]) := by
    unfold OwnS
    rw [List.map_append, List.length_append]
    exact hown'
  have hv1 : Boxed w' B 27 v := (hv.alloc _).kept hgrow (hv.not_row (by decide) hown)
  refine ⟨g, cap, w', hrun, hv1, hv1.set _, World.ownsRow.kept hown2 (grownBy_setCell' w' B _) (.inr (hv1.not_row (by decide) hown2).symm), hgrow, ?_⟩
  simp only [Value.ownBlock, World.size_alloc, Option.some.injEq] at hat
  rcases hat with h | h
  · exact Or.inl (by first | exact h | simpa [Value.ownBlock] using h)
  · right; omega

theorem ownBlock_len (a : Option Addr) (n m c : Nat) : (Value.slice a n c).ownBlock = (Value.slice a m c).ownBlock := by cases a <;> rfl
/-- W' is W but for block ob and block G. -/
def FrameO (ob : Nat) (G : Option Nat) (W W' : World) : Prop := W'.os = W.os ∧ W'.tape = W.tape ∧ W'.output = W.output ∧ W.heap.size ≤ W'.heap.size ∧ ∀ j, j < W.heap.size → j ≠ ob → some j ≠ G → W'.heap[j]? = W.heap[j]?
theorem frame_below {ob : Nat} {G : Option Nat} {W W' : World} (h : Below W.heap.size W W') : FrameO ob G W W' := ⟨h.os, h.tape, h.output, h.size, fun j hj _ _ => h.block j hj⟩
theorem leaf_frame {W W3 w4 w5 : World} {ob : Nat} {G : Option Nat} {u : Value} {o : Obj} (h1 : Below W.heap.size W W3) (h2 : Below W3.drew.heap.size W3.drew w4) (h3 : (w4.alloc o).grownBy w5 G) : FrameO ob G W (w5.setCell ⟨ob, 0, none⟩ u) := by
  have hs2 : W3.heap.size ≤ w4.heap.size := h2.size
  have hs3 := h3.size
  rw [World.size_alloc] at hs3
  have hs1 := h1.size
  refine ⟨(h3.os.trans (h2.os.trans h1.os) : w5.os = W.os), (h3.tape.trans (h2.tape.trans h1.tape) : w5.tape = W.tape), (h3.output.trans (h2.output.trans h1.output) : w5.output = W.output), ?_, fun j hj hne hG => ?_⟩
  · have := (KeepsWalks.setCell w5 ⟨ob, 0, none⟩ u).size
    omega
  · have e1 := Below.heap_setCell w5 ⟨ob, 0, none⟩ u j hne
    have e2 := h3.block j (by rw [World.size_alloc]; omega) hG
    have e3 := heap_alloc_lt w4 o j (by omega)
    have e4 : w4.heap[j]? = W3.heap[j]? := h2.block j (show j < W3.heap.size by omega)
    exact e1.trans (e2.trans (e3.trans (e4.trans (h1.block j hj))))

def TxtOk (x : Co.It) : Prop := x.id.length ≤ 1000000 ∧ x.parent.length ≤ 1000000 ∧ x.north.length ≤ 1000000 ∧ x.south.length ≤ 1000000
theorem leaf_small (x : Co.It) (h : TxtOk x) : (Dg.joinL [Co.kindL x.kind, x.id, x.parent, x.north, x.south]).length ≤ 140737488355328 := by
  have := (Dg.item_length (Co.kindL x.kind)).2; have := (Dg.item_length x.id).2; have := (Dg.item_length x.parent).2; have := (Dg.item_length x.north).2; have := (Dg.item_length x.south).2
  have e : (Co.kindL x.kind).length = 1 := by unfold Co.kindL; split <;> rfl
  obtain ⟨h1, h2, h3, h4⟩ := h
  simp only [Dg.joinL, List.length_append, List.length_nil]; omega

set_option maxRecDepth 100000 in
set_option maxHeartbeats 8000000 in
/-- The closure: one item is visited. -/
theorem leaves1_any (l : List Co.It) (k : Nat) (hkl : k < l.length) (cb ob n₁ : Nat) (b off vc : Nat) (u : Value) (W : World) (ht : Tab W) (hok : TxtOk l[k]) (hkind : (l[k]).kind = 1 ∨ (l[k]).kind = 2)
    (hc : W.cell? ⟨cb, 0, none⟩ = some (.slice (some ⟨b, off, none⟩) l.length vc)) (hit : ItAt W b (off + k * 7) l[k]) (hcb : cb < W.heap.size)
    (ov : Value) (hbx : Boxed W ob 27 ov) (hown : OwnS n₁ W ov (liveK l k)) (hn₁ : n₁ ≤ W.heap.size) (hob : n₁ ≤ ob) (hlen : l.length ≤ 100000) :
    Calls Tryz.prog 65 #[.int .i64 (k : Int), u, .pointer (some ⟨cb, 0, none⟩), .pointer (some ⟨ob, 0, none⟩)] W fun e W' =>
      e = .returned (.tuple #[]) ∧ ∃ ov', Boxed W' ob 27 ov' ∧ OwnS n₁ W' ov' (liveK l (k + 1)) ∧ FrameO ob ov.ownBlock W W' ∧ (ov'.ownBlock = ov.ownBlock ∨ ∃ g, ov'.ownBlock = some g ∧ W.heap.size ≤ g) := by
  have hmm := @run_makeMap Tryz.prog
  obtain ⟨x, hxe⟩ : ∃ x, Hid (l[k] = x) := ⟨l[k], (rfl : l[k] = l[k])⟩
  rw [hxe.out] at hit hok hkind
  have hx := hit
  simp only [ItAt] at hx
  obtain ⟨f0, f1, f2, f3, f4, f5, f6⟩ := hx
  have hin : (0 : Int) ≤ (k : Int) ∧ (k : Int) < (l.length : Int) := by omega
  obtain ⟨W2, W3, r2, r3, hlk, bk⟩ := kind_map (W.alloc (.cells #[.int .i64 x.kind, .string ⟨x.id.toArray⟩, .string ⟨x.parent.toArray⟩, .string ⟨x.number.toArray⟩, .string ⟨x.north.toArray⟩, .string ⟨x.south.toArray⟩, .bool x.gone] 26))
  rw [World.size_alloc] at r2 r3 hlk
  have hlook := hlk x.kind hkind
  have F3 := itAt_kept W x _ W3 (bk.mono (Nat.le_refl _))
  have hb3 : W3.heap[W.heap.size]? = some (.cells #[.int .i64 x.kind, .string ⟨x.id.toArray⟩, .string ⟨x.parent.toArray⟩, .string ⟨x.number.toArray⟩, .string ⟨x.north.toArray⟩, .string ⟨x.south.toArray⟩, .bool x.gone] 26 (0, 0)) := (bk.block _ (by rw [World.size_alloc]; omega)).trans (heap_alloc_at W _)
  have bW3 : Below W.heap.size W W3 := below_next ((Below.refl _ W).alloc (Nat.le_refl _) _) bk
  have g6 : W3.cell? ⟨W.heap.size, 6, none⟩ = some (.bool x.gone) := cell_of_heap hb3
  have g0 : W3.cell? ⟨W.heap.size, 0, none⟩ = some (.int .i64 x.kind) := cell_of_heap hb3
  have hbx3 := boxed_below hbx bW3
  have hown3 := hown.below bW3
  have HBX := Lib.hid hbx3
  have HOW := Lib.hid hown3
  have HB3 := Lib.hid hb3
  have hobW := hbx.lt
  have hsz3 := bW3.size
  have hlt3 : W.heap.size < W3.heap.size := (Array.getElem?_eq_some_iff.1 hb3).1
  have HT := Lib.hid (ht.below bW3 (Nat.le_refl _))
  have HBW := Lib.hid bW3
  clear F3 hlk bk hbx3 hown3 hb3
  cases hgn : x.gone
  · have hk1 := liveK_live l k hkl (by rw [hxe.out]; exact hgn)
    rw [hxe.out] at hk1
    have HK := Lib.hid hk1
    rw [hgn] at g6 f6 r2 HB3
    clear hk1
    obtain ⟨oa, oc, rfl⟩ := hown.shape
    have hov := HBX.out.cell
    obtain ⟨y, hy⟩ : ∃ y, Hid (Co.leafL x = y) := ⟨_, rfl⟩
    rw [hy.out] at HK
    have hsm := leaf_small x hok
    have hmx : Tryz.prog.follows .mixedOrders = true := by kernel_rfl
    have hll := liveK_length l k
    obtain ⟨os, hos⟩ : ∃ os, Hid (liveK l k = os) := ⟨_, rfl⟩
    rw [hos.out] at hll hov HBX HOW HK
    have CJ : Hid (∀ A, Below W3.drew.heap.size W3.drew A → Calls Tryz.prog 66 #[.slice (some ⟨A.heap.size, 0, none⟩) 5 5] (A.alloc (.cells #[.string ⟨(Co.kindL x.kind).toArray⟩, .string ⟨x.id.toArray⟩, .string ⟨x.parent.toArray⟩, .string ⟨x.north.toArray⟩, .string ⟨x.south.toArray⟩] 9)) fun e w' => e = .returned (.string ⟨y.toArray⟩) ∧ Below (A.alloc (.cells #[.string ⟨(Co.kindL x.kind).toArray⟩, .string ⟨x.id.toArray⟩, .string ⟨x.parent.toArray⟩, .string ⟨x.north.toArray⟩, .string ⟨x.south.toArray⟩] 9)).heap.size (A.alloc (.cells #[.string ⟨(Co.kindL x.kind).toArray⟩, .string ⟨x.id.toArray⟩, .string ⟨x.parent.toArray⟩, .string ⟨x.north.toArray⟩, .string ⟨x.south.toArray⟩] 9)) w') :=
      fun A hA => joined_any [Co.kindL x.kind, x.id, x.parent, x.north, x.south] _ y _ (HT.out.below (below_next (below_next (Below.refl _ _).drew hA) ((Below.refl _ _).alloc (Nat.le_refl _) _)) (Nat.le_refl _)) (hasStrs_alloc A [Co.kindL x.kind, x.id, x.parent, x.north, x.south] 5 (by simp)) hsm hy
    have AP := Lib.hid (fun w4 (c4 : Below W3.drew.heap.size W3.drew w4) => app_runG y (boxed_below HBX.out (below_next (Below.refl _ _).drew c4)) (HOW.out.below (below_next (Below.refl _ _).drew c4)) (show n₁ ≤ w4.heap.size from Nat.le_trans hn₁ (Nat.le_trans hsz3 c4.size)) (by omega))
    have SK := Lib.hid (fun w4 (c4 : Below W3.drew.heap.size W3.drew w4) => (c4.block W.heap.size hlt3).trans HB3.out)
    have RN := Lib.hid (fun w4 (c4 : Below W3.drew.heap.size W3.drew w4) => row_not (B := W.heap.size) (by decide) ((c4.block W.heap.size hlt3).trans HB3.out) (HOW.out.below (below_next (Below.refl _ _).drew c4)))
    have hS0 : W3.drew.heap[W.heap.size]? = some (.cells #[.int .i64 x.kind, .string ⟨x.id.toArray⟩, .string ⟨x.parent.toArray⟩, .string ⟨x.number.toArray⟩, .string ⟨x.north.toArray⟩, .string ⟨x.south.toArray⟩, .bool false] 26 (0, 0)) := HB3.out
    have hod : W3.drew.cell? ⟨ob, 0, none⟩ = some (.slice oa os.length oc) := hov
    have hobl : ob < W3.heap.size := by omega
    clear hsm hll hos hbx hown ht hit
    go_enter Tryz.func65, Tryz.ntmps65
    go_wp2_with fail
    refine wp_region_any hmx (wpAny_of_held (S := fun Y => Y.heap[W.heap.size]? = some (.cells #[.int .i64 x.kind, .string ⟨x.id.toArray⟩, .string ⟨x.parent.toArray⟩, .string ⟨x.number.toArray⟩, .string ⟨x.north.toArray⟩, .string ⟨x.south.toArray⟩, .bool false] 26 (0, 0))) _ _ _ _ ?_)
    show wpAnyH _ _ _ _ _ _ _ _ W3.drew
    refine wpAnyH_take (i := 1) (v := .string ⟨(Co.kindL x.kind).toArray⟩) rfl (by kernel_rfl) (by kernel_rfl) (by kernel_rfl) (fun _ _ _ h => h) (Or.inl ⟨by rfl, fun w' hS => by go_simp⟩) hS0 ?_
    simp only [Act.put, List.setIfInBounds_toArray, List.set_cons_zero, List.set_cons_succ]
    refine wpAnyH_take (i := 2) (v := .pointer (some ⟨W.heap.size, 1, none⟩)) rfl (by kernel_rfl) (by kernel_rfl) (by kernel_rfl) (fun _ _ _ h => h) (Or.inl ⟨by rfl, fun w' hS => by go_simp⟩) hS0 ?_
    simp only [Act.put, List.setIfInBounds_toArray, List.set_cons_zero, List.set_cons_succ]
    refine wpAnyH_take (i := 3) (v := .string ⟨x.id.toArray⟩) rfl (by kernel_rfl) (by kernel_rfl) (by kernel_rfl) (fun _ _ _ h => h) (Or.inl ⟨by rfl, fun w' hS => by have s1 : w'.cell? ⟨W.heap.size, 1, none⟩ = some (.string ⟨x.id.toArray⟩) := cell_of_heap hS; go_simp⟩) hS0 ?_
    simp only [Act.put, List.setIfInBounds_toArray, List.set_cons_zero, List.set_cons_succ]
    refine wpAnyH_take (i := 4) (v := .pointer (some ⟨W.heap.size, 2, none⟩)) rfl (by kernel_rfl) (by kernel_rfl) (by kernel_rfl) (fun _ _ _ h => h) (Or.inl ⟨by rfl, fun w' hS => by go_simp⟩) hS0 ?_
    simp only [Act.put, List.setIfInBounds_toArray, List.set_cons_zero, List.set_cons_succ]
    refine wpAnyH_take (i := 5) (v := .string ⟨x.parent.toArray⟩) rfl (by kernel_rfl) (by kernel_rfl) (by kernel_rfl) (fun _ _ _ h => h) (Or.inl ⟨by rfl, fun w' hS => by have s1 : w'.cell? ⟨W.heap.size, 2, none⟩ = some (.string ⟨x.parent.toArray⟩) := cell_of_heap hS; go_simp⟩) hS0 ?_
    simp only [Act.put, List.setIfInBounds_toArray, List.set_cons_zero, List.set_cons_succ]
    refine wpAnyH_take (i := 6) (v := .pointer (some ⟨W.heap.size, 4, none⟩)) rfl (by kernel_rfl) (by kernel_rfl) (by kernel_rfl) (fun _ _ _ h => h) (Or.inl ⟨by rfl, fun w' hS => by go_simp⟩) hS0 ?_
    simp only [Act.put, List.setIfInBounds_toArray, List.set_cons_zero, List.set_cons_succ]
    refine wpAnyH_take (i := 7) (v := .string ⟨x.north.toArray⟩) rfl (by kernel_rfl) (by kernel_rfl) (by kernel_rfl) (fun _ _ _ h => h) (Or.inl ⟨by rfl, fun w' hS => by have s1 : w'.cell? ⟨W.heap.size, 4, none⟩ = some (.string ⟨x.north.toArray⟩) := cell_of_heap hS; go_simp⟩) hS0 ?_
    simp only [Act.put, List.setIfInBounds_toArray, List.set_cons_zero, List.set_cons_succ]
    refine wpAnyH_take (i := 8) (v := .pointer (some ⟨W.heap.size, 5, none⟩)) rfl (by kernel_rfl) (by kernel_rfl) (by kernel_rfl) (fun _ _ _ h => h) (Or.inl ⟨by rfl, fun w' hS => by go_simp⟩) hS0 ?_
    simp only [Act.put, List.setIfInBounds_toArray, List.set_cons_zero, List.set_cons_succ]
    refine wpAnyH_take (i := 9) (v := .string ⟨x.south.toArray⟩) rfl (by kernel_rfl) (by kernel_rfl) (by kernel_rfl) (fun _ _ _ h => h) (Or.inl ⟨by rfl, fun w' hS => by have s1 : w'.cell? ⟨W.heap.size, 5, none⟩ = some (.string ⟨x.south.toArray⟩) := cell_of_heap hS; go_simp⟩) hS0 ?_
    simp only [Act.put, List.setIfInBounds_toArray, List.set_cons_zero, List.set_cons_succ]
    refine wpAnyH_ready (rs := [0, 10]) (by kernel_rfl) (by simp) ?_
    refine AllReadyH.cons rfl (fun K hK => ?_) (AllReadyH.cons rfl (fun K hK => ?_) AllReadyH.nil)
    · skip
      go_simp
      refine hK.out _ _ hS0 (fun _ => ?_)
      clear hK K
      refine wpAnyH_ready (rs := [10]) (by kernel_rfl) (by simp) ?_
      refine AllReadyH.cons rfl (fun K hK => ?_) AllReadyH.nil
      go_simp
      have d1 : Below W3.drew.heap.size W3.drew (W3.drew.alloc (.cells #[.string ⟨(Co.kindL x.kind).toArray⟩, .string ⟨x.id.toArray⟩, .string ⟨x.parent.toArray⟩, .string ⟨x.north.toArray⟩, .string ⟨x.south.toArray⟩] 9)) := (Below.refl _ _).alloc (Nat.le_refl _) _
      have hS1 := SK.out _ d1
      have ho1 := (d1.cell (p := ⟨ob, 0, none⟩) hobl).trans hod
      refine hK.out _ _ hS1 (fun _ => ?_)
      clear hK K
      refine wpAnyH_ready (rs := [11]) (by kernel_rfl) (by simp) ?_
      refine AllReadyH.cons rfl (fun K hK => ?_) AllReadyH.nil
      go_simp
      go_wp2_with (go_at_call 66; refine (CJ.out _ (Below.refl _ _)).mono ?_; rintro e w4 ⟨rfl, c4⟩)
      have d2 := d1.trans (c4.mono d1.size)
      have hS2 := SK.out _ d2
      have ho2 := (d2.cell (p := ⟨ob, 0, none⟩) hobl).trans hod
      obtain ⟨g, cp, w5, hrun, hbx5, hbx6, hown6, hg5, hgi⟩ := AP.out w4 d2
      have d3 : Below w4.heap.size w4 (w4.alloc (.cells #[.string ⟨y.toArray⟩] 9)) := (Below.refl _ _).alloc (Nat.le_refl _) _
      have d4 := d2.trans (d3.mono d2.size)
      have hS3 := SK.out _ d4
      have ho3 := (d4.cell (p := ⟨ob, 0, none⟩) hobl).trans hod
      have hS4 := (hg5.block W.heap.size (Nat.lt_of_lt_of_le hlt3 d4.size) (RN.out w4 d2)).trans hS3
      have hS5 := (Below.heap_setCell w5 ⟨ob, 0, none⟩ (.slice (some ⟨g, 0, none⟩) (os.length + 1) cp) W.heap.size (show W.heap.size ≠ ob by omega)).trans hS4
      have hc5 := hbx5.cell
      have hf5 := hbx5.frozen
      refine hK.out _ _ hS2 (fun _ => ?_)
      clear hK K
      refine wpAnyH_ready (rs := [12]) (by kernel_rfl) (by simp) ?_
      refine AllReadyH.cons rfl (fun K hK => ?_) AllReadyH.nil
      go_simp
      refine hK.out _ _ hS3 (fun _ => ?_)
      clear hK K
      refine wpAnyH_ready (rs := [13]) (by kernel_rfl) (by simp) ?_
      refine AllReadyH.cons rfl (fun K hK => ?_) AllReadyH.nil
      rw [if_pos (by rfl)]
      refine wp_appS (by rfl) (by rfl) (by rfl) (by rfl) hrun ?_
      simp only [Act.put, List.setIfInBounds_toArray, List.set_cons_zero, List.set_cons_succ]
      refine hK.out _ _ hS4 (fun _ => ?_)
      clear hK K
      refine wpAnyH_ready (rs := [14]) (by kernel_rfl) (by simp) ?_
      refine AllReadyH.cons rfl (fun K hK => ?_) AllReadyH.nil
      go_simp
      refine hK.out _ _ hS5 (fun _ => ?_)
      clear hK K
      refine wpAnyH_done (by kernel_rfl) ?_ _
      go_wp2_with fail
      go_end0
      exact ⟨rfl, _, hbx6, by rw [HK.out]; exact hown6, by rw [ownBlock_len oa _ os.length oc]; exact leaf_frame HBW.out d2 hg5, hgi.elim (fun h => Or.inl (h.trans (ownBlock_len _ _ _ _))) (fun h => Or.inr ⟨g, rfl, Nat.le_trans (Nat.le_trans hsz3 d2.size) h⟩)⟩
    · skip
      go_simp
      have d1 : Below W3.drew.heap.size W3.drew (W3.drew.alloc (.cells #[.string ⟨(Co.kindL x.kind).toArray⟩, .string ⟨x.id.toArray⟩, .string ⟨x.parent.toArray⟩, .string ⟨x.north.toArray⟩, .string ⟨x.south.toArray⟩] 9)) := (Below.refl _ _).alloc (Nat.le_refl _) _
      have hS1 := SK.out _ d1
      have ho1 := (d1.cell (p := ⟨ob, 0, none⟩) hobl).trans hod
      refine hK.out _ _ hS1 (fun _ => ?_)
      clear hK K
      refine wpAnyH_ready (rs := [0, 11]) (by kernel_rfl) (by simp) ?_
      refine AllReadyH.cons rfl (fun K hK => ?_) (AllReadyH.cons rfl (fun K hK => ?_) AllReadyH.nil)
      · skip
        go_simp
        refine hK.out _ _ hS1 (fun _ => ?_)
        clear hK K
        refine wpAnyH_ready (rs := [11]) (by kernel_rfl) (by simp) ?_
        refine AllReadyH.cons rfl (fun K hK => ?_) AllReadyH.nil
        go_simp
        go_wp2_with (go_at_call 66; refine (CJ.out _ (Below.refl _ _)).mono ?_; rintro e w4 ⟨rfl, c4⟩)
        have d2 := d1.trans (c4.mono d1.size)
        have hS2 := SK.out _ d2
        have ho2 := (d2.cell (p := ⟨ob, 0, none⟩) hobl).trans hod
        obtain ⟨g, cp, w5, hrun, hbx5, hbx6, hown6, hg5, hgi⟩ := AP.out w4 d2
        have d3 : Below w4.heap.size w4 (w4.alloc (.cells #[.string ⟨y.toArray⟩] 9)) := (Below.refl _ _).alloc (Nat.le_refl _) _
        have d4 := d2.trans (d3.mono d2.size)
        have hS3 := SK.out _ d4
        have ho3 := (d4.cell (p := ⟨ob, 0, none⟩) hobl).trans hod
        have hS4 := (hg5.block W.heap.size (Nat.lt_of_lt_of_le hlt3 d4.size) (RN.out w4 d2)).trans hS3
        have hS5 := (Below.heap_setCell w5 ⟨ob, 0, none⟩ (.slice (some ⟨g, 0, none⟩) (os.length + 1) cp) W.heap.size (show W.heap.size ≠ ob by omega)).trans hS4
        have hc5 := hbx5.cell
        have hf5 := hbx5.frozen
        refine hK.out _ _ hS2 (fun _ => ?_)
        clear hK K
        refine wpAnyH_ready (rs := [12]) (by kernel_rfl) (by simp) ?_
        refine AllReadyH.cons rfl (fun K hK => ?_) AllReadyH.nil
        go_simp
        refine hK.out _ _ hS3 (fun _ => ?_)
        clear hK K
        refine wpAnyH_ready (rs := [13]) (by kernel_rfl) (by simp) ?_
        refine AllReadyH.cons rfl (fun K hK => ?_) AllReadyH.nil
        rw [if_pos (by rfl)]
        refine wp_appS (by rfl) (by rfl) (by rfl) (by rfl) hrun ?_
        simp only [Act.put, List.setIfInBounds_toArray, List.set_cons_zero, List.set_cons_succ]
        refine hK.out _ _ hS4 (fun _ => ?_)
        clear hK K
        refine wpAnyH_ready (rs := [14]) (by kernel_rfl) (by simp) ?_
        refine AllReadyH.cons rfl (fun K hK => ?_) AllReadyH.nil
        go_simp
        refine hK.out _ _ hS5 (fun _ => ?_)
        clear hK K
        refine wpAnyH_done (by kernel_rfl) ?_ _
        go_wp2_with fail
        go_end0
        exact ⟨rfl, _, hbx6, by rw [HK.out]; exact hown6, by rw [ownBlock_len oa _ os.length oc]; exact leaf_frame HBW.out d2 hg5, hgi.elim (fun h => Or.inl (h.trans (ownBlock_len _ _ _ _))) (fun h => Or.inr ⟨g, rfl, Nat.le_trans (Nat.le_trans hsz3 d2.size) h⟩)⟩
      · skip
        go_simp
        go_wp2_with (go_at_call 66; refine (CJ.out _ (Below.refl _ _)).mono ?_; rintro e w4 ⟨rfl, c4⟩)
        have d2 := d1.trans (c4.mono d1.size)
        have hS2 := SK.out _ d2
        have ho2 := (d2.cell (p := ⟨ob, 0, none⟩) hobl).trans hod
        obtain ⟨g, cp, w5, hrun, hbx5, hbx6, hown6, hg5, hgi⟩ := AP.out w4 d2
        have d3 : Below w4.heap.size w4 (w4.alloc (.cells #[.string ⟨y.toArray⟩] 9)) := (Below.refl _ _).alloc (Nat.le_refl _) _
        have d4 := d2.trans (d3.mono d2.size)
        have hS3 := SK.out _ d4
        have ho3 := (d4.cell (p := ⟨ob, 0, none⟩) hobl).trans hod
        have hS4 := (hg5.block W.heap.size (Nat.lt_of_lt_of_le hlt3 d4.size) (RN.out w4 d2)).trans hS3
        have hS5 := (Below.heap_setCell w5 ⟨ob, 0, none⟩ (.slice (some ⟨g, 0, none⟩) (os.length + 1) cp) W.heap.size (show W.heap.size ≠ ob by omega)).trans hS4
        have hc5 := hbx5.cell
        have hf5 := hbx5.frozen
        refine hK.out _ _ hS2 (fun _ => ?_)
        clear hK K
        refine wpAnyH_ready (rs := [0, 12]) (by kernel_rfl) (by simp) ?_
        refine AllReadyH.cons rfl (fun K hK => ?_) (AllReadyH.cons rfl (fun K hK => ?_) AllReadyH.nil)
        · skip
          go_simp
          refine hK.out _ _ hS2 (fun _ => ?_)
          clear hK K
          refine wpAnyH_ready (rs := [12]) (by kernel_rfl) (by simp) ?_
          refine AllReadyH.cons rfl (fun K hK => ?_) AllReadyH.nil
          go_simp
          refine hK.out _ _ hS3 (fun _ => ?_)
          clear hK K
          refine wpAnyH_ready (rs := [13]) (by kernel_rfl) (by simp) ?_
          refine AllReadyH.cons rfl (fun K hK => ?_) AllReadyH.nil
          rw [if_pos (by rfl)]
          refine wp_appS (by rfl) (by rfl) (by rfl) (by rfl) hrun ?_
          simp only [Act.put, List.setIfInBounds_toArray, List.set_cons_zero, List.set_cons_succ]
          refine hK.out _ _ hS4 (fun _ => ?_)
          clear hK K
          refine wpAnyH_ready (rs := [14]) (by kernel_rfl) (by simp) ?_
          refine AllReadyH.cons rfl (fun K hK => ?_) AllReadyH.nil
          go_simp
          refine hK.out _ _ hS5 (fun _ => ?_)
          clear hK K
          refine wpAnyH_done (by kernel_rfl) ?_ _
          go_wp2_with fail
          go_end0
          exact ⟨rfl, _, hbx6, by rw [HK.out]; exact hown6, by rw [ownBlock_len oa _ os.length oc]; exact leaf_frame HBW.out d2 hg5, hgi.elim (fun h => Or.inl (h.trans (ownBlock_len _ _ _ _))) (fun h => Or.inr ⟨g, rfl, Nat.le_trans (Nat.le_trans hsz3 d2.size) h⟩)⟩
        · skip
          go_simp
          refine hK.out _ _ hS3 (fun _ => ?_)
          clear hK K
          refine wpAnyH_ready (rs := [0]) (by kernel_rfl) (by simp) ?_
          refine AllReadyH.cons rfl (fun K hK => ?_) AllReadyH.nil
          go_simp
          refine hK.out _ _ hS3 (fun _ => ?_)
          clear hK K
          refine wpAnyH_ready (rs := [13]) (by kernel_rfl) (by simp) ?_
          refine AllReadyH.cons rfl (fun K hK => ?_) AllReadyH.nil
          rw [if_pos (by rfl)]
          refine wp_appS (by rfl) (by rfl) (by rfl) (by rfl) hrun ?_
          simp only [Act.put, List.setIfInBounds_toArray, List.set_cons_zero, List.set_cons_succ]
          refine hK.out _ _ hS4 (fun _ => ?_)
          clear hK K
          refine wpAnyH_ready (rs := [14]) (by kernel_rfl) (by simp) ?_
          refine AllReadyH.cons rfl (fun K hK => ?_) AllReadyH.nil
          go_simp
          refine hK.out _ _ hS5 (fun _ => ?_)
          clear hK K
          refine wpAnyH_done (by kernel_rfl) ?_ _
          go_wp2_with fail
          go_end0
          exact ⟨rfl, _, hbx6, by rw [HK.out]; exact hown6, by rw [ownBlock_len oa _ os.length oc]; exact leaf_frame HBW.out d2 hg5, hgi.elim (fun h => Or.inl (h.trans (ownBlock_len _ _ _ _))) (fun h => Or.inr ⟨g, rfl, Nat.le_trans (Nat.le_trans hsz3 d2.size) h⟩)⟩
  · have hk1 := liveK_gone l k hkl (by rw [hxe.out]; exact hgn)
    rw [hgn] at g6 f6 r2 HB3
    rw [hk1]
    clear hk1 ht hit hown hbx
    go_enter Tryz.func65, Tryz.ntmps65
    go_wp2_with fail
    go_end0
    exact ⟨rfl, ov, HBX.out, HOW.out, frame_below HBW.out, Or.inl rfl⟩

theorem ownS_same {n₀ : Nat} {A B : World} {v : Value} {ss : List (List UInt8)} (h : OwnS n₀ A v ss) (e : ∀ g, v.ownBlock = some g → B.heap[g]? = A.heap[g]?) : OwnS n₀ B v ss := by
  refine ⟨h.1, ?_⟩
  rcases h.2 with h0 | ⟨g, cap, cur, rfl, hb, hg, r⟩
  · exact Or.inl h0
  · exact Or.inr ⟨g, cap, cur, rfl, hb, (e g rfl).trans hg, r⟩
theorem ownS_lt {n₀ : Nat} {A : World} {v : Value} {ss : List (List UInt8)} (h : OwnS n₀ A v ss) (g : Nat) (e : v.ownBlock = some g) : n₀ ≤ g ∧ g < A.heap.size := by
  rcases h.2 with ⟨rfl, _⟩ | ⟨g', cap, cur, rfl, hb, hg, r⟩
  · cases e
  · simp only [Value.ownBlock, Option.some.injEq] at e
    subst e
    exact ⟨hb, (Array.getElem?_eq_some_iff.1 hg).1⟩
theorem proper_kind (x : Co.It) (h : Co.properL x = true) : x.kind = 1 ∨ x.kind = 2 := by
  unfold Co.properL at h
  by_cases h1 : x.kind = 1
  · exact Or.inl h1
  · by_cases h2 : x.kind = 2
    · exact Or.inr h2
    · rw [if_neg h1, if_neg h2] at h; cases h
def CodeOk2 (l : List Co.It) : Prop := CodeOk l ∧ ∀ x ∈ l, TxtOk x

set_option maxHeartbeats 2000000 in
theorem leaves_any (l : List Co.It) (v : Value) (w : World) (ht : Tab w) (hv : HasIts w v l) (hok : CodeOk2 l) : Calls Tryz.prog 32 #[.agg #[v]] w fun e w' => ∃ u, e = .returned u ∧ OwnS w.heap.size w' u (Co.leavesL l) ∧ Below w.heap.size w w' := by
  have hlt : ∀ b off len c, v = .slice (some ⟨b, off, none⟩) len c → 0 < len → b < w.heap.size := fun b off len c e h => by
    rcases hv with ⟨rfl, a, c', e2⟩ | ⟨_, b', off', c', e2, hb', _⟩
    · rw [e] at e2
      simp only [Value.slice.injEq] at e2
      omega
    · rw [e] at e2
      simp only [Value.slice.injEq, Option.some.injEq, Addr.mk.injEq] at e2
      obtain ⟨⟨rfl, _⟩, _⟩ := e2
      exact hb'
  obtain ⟨vb, hvb⟩ : ∃ vb, Hid (Co.validL l = vb) := ⟨_, rfl⟩
  obtain ⟨J, hJ⟩ : ∃ J : Nat → Option Nat → World → Prop, J = fun k G A => Below w.heap.size w A ∧ Boxed A w.heap.size 24 v ∧ ∃ ov, Boxed A (w.heap.size + 1) 27 ov ∧ OwnS w.heap.size A ov (liveK l k) ∧ ov.ownBlock = G := ⟨_, rfl⟩
  obtain ⟨w2, hw2⟩ : ∃ w2, (w.alloc (.cells #[v] 24)).alloc (.cells #[.slice none 0 0] 27) = w2 := ⟨_, rfl⟩
  have hs2 : w2.heap.size = w.heap.size + 1 + 1 := by rw [← hw2]; simp
  have b2 : Below w.heap.size w w2 := by rw [← hw2]; exact ((Below.refl _ w).alloc (Nat.le_refl _) _).alloc (by simp) _
  have j0 : J 0 none w2 := by
    rw [hJ]
    refine ⟨b2, ?_, .slice none 0 0, ?_, OwnS.nil _ _, rfl⟩
    · rw [← hw2]; exact (Boxed.new w _ _).alloc _
    · have := Boxed.new (w.alloc (.cells #[v] 24)) 27 (.slice none 0 0)
      rw [World.size_alloc, hw2] at this
      exact this
  have V : Visit 65 #[.pointer (some ⟨w.heap.size, 0, none⟩), .pointer (some ⟨w.heap.size + 1, 0, none⟩)] l.length w.heap.size w2.heap.size (fun k => ∀ h : k < l.length, (l[k]).kind = 1 ∨ (l[k]).kind = 2) (some (w.heap.size + 1)) J :=
    { same := fun k G A B h hs => by
        rw [hJ] at h ⊢
        obtain ⟨h1, h2, ov, h3, h4, h5⟩ := h
        refine ⟨h1.trans ⟨hs.1, hs.2.1, hs.2.2.1, hs.2.2.2.1, fun j hj => hs.2.2.2.2 j (Or.inl (by omega))⟩, (hs.2.2.2.2 _ (Or.inl (by omega))).trans h2, ov, (hs.2.2.2.2 _ (Or.inl (by omega))).trans h3, ownS_same h4 (fun g e => hs.2.2.2.2 g (Or.inr (by rw [← h5, e]))), h5⟩
      lt := fun k G A h g e => by
        rw [hJ] at h
        obtain ⟨h1, h2, ov, h3, h4, h5⟩ := h
        exact (ownS_lt h4 g (h5.trans e)).2
      box := fun b e => by cases e; omega
      call := fun k G A u hk hp h hA => by
        rw [hJ] at h
        obtain ⟨h1, h2, ov, h3, h4, h5⟩ := h
        rcases hv.below h1 (Nat.le_refl _) with ⟨rfl, _⟩ | ⟨_, b, off, c, e, hb, hit⟩
        · cases hk
        have hcell := h2.cell
        rw [e] at hcell
        refine (leaves1_any l k hk w.heap.size (w.heap.size + 1) w.heap.size b off c u A (ht.below h1 (Nat.le_refl _)) (hok.2 _ (List.getElem_mem hk)) (hp hk) hcell (hit k hk) (by omega) ov h3 h4 (by omega) (by omega) hok.1.2).mono ?_
        rintro e' A' ⟨r1, ov', r2, r3, r4, r5⟩
        have hfar : ∀ j, j ≤ w.heap.size → j < A.heap.size → A'.heap[j]? = A.heap[j]? := fun j hj hj2 => r4.2.2.2.2 j hj2 (by omega) (by
          rcases Nat.lt_or_eq_of_le hj with h | h
          · intro e2; have := (ownS_lt h4 j e2.symm).1; omega
          · rw [h]; exact row_not (by decide) h2 h4)
        have hbel : Below w.heap.size A A' := ⟨r4.1, r4.2.1, r4.2.2.1, r4.2.2.2.1, fun j hj => hfar j (by omega) (by omega)⟩
        refine ⟨r1, ov'.ownBlock, ?_, ⟨r4.2.2.2.1, fun j hj hB hG => r4.2.2.2.2 j hj (fun e2 => hB (by rw [e2])) (by rw [h5]; exact hG)⟩, hbel, ?_⟩
        · rw [hJ]
          exact ⟨h1.trans hbel, (hfar _ (Nat.le_refl _) (by omega)).trans h2, ov', r2, r3, rfl⟩
        · rw [← h5]; exact r5 }
  have C := Lib.hid (walk_any 65 #[.pointer (some ⟨w.heap.size, 0, none⟩), .pointer (some ⟨w.heap.size + 1, 0, none⟩)] l v w.heap.size (some (w.heap.size + 1)) J w2 (hv.below b2 (Nat.le_refl _)) hok.1.1 hok.1.2 b2.size hlt (fun k => ∀ h : k < l.length, (l[k]).kind = 1 ∨ (l[k]).kind = 2) (fun k h hp _ => proper_kind _ hp) V (enters_of Tryz.func65 (by kernel_rfl) rfl) none j0)
  rw [hvb.out] at C
  have HL : Hid (Co.leavesL l = if vb then (Co.liveL l).map Co.leafL else []) := by unfold Hid Co.leavesL; rw [hvb.out]
  rw [HL.out, ← liveK_all]
  obtain ⟨a, c, hve⟩ := hv.shape
  clear hv hlt V j0 hok HL hvb b2
  rw [hve] at hw2 C hJ ⊢
  have HW2 := Lib.hid hw2
  have HJJ := Lib.hid hJ
  clear hw2 hJ
  go_enter Tryz.func32, Tryz.ntmps32
  go_wp2_with fail
  rw [HW2.out]
  refine C.out.mono ?_
  rintro e w3 ⟨rfl, k, G, hj, hk⟩
  rw [HJJ.out] at hj
  obtain ⟨b3, _, ov, hb, ho, _⟩ := hj
  cases vb
  · go_wp2_with fail
    go_ret
    exact ⟨_, rfl, OwnS.nil _ _, b3⟩
  · obtain rfl := hk rfl
    have hc := hb.cell
    obtain ⟨oa, oc, rfl⟩ := ho.shape
    have HO := Lib.hid ho
    clear ho
    go_wp2_with fail
    go_ret
    exact ⟨_, rfl, HO.out, b3⟩
end Go.Proofs.YteoclpjbeadkpaaGreatDoor
