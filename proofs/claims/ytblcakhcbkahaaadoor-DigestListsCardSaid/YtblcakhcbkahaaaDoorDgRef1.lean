/- WALKS: the reference mix and Sum of layer 1 return what the plain functions say. -/
import Derived.Test.YtblcakhcbkahaaaDoorDgWalk3
namespace Go.Proofs.YtblcakhcbkahaaaDoor
open Go.RowKit

theorem wrapMul (x c : Nat) : IntKind.u64.wrap ((x : Int) * (c : Int)) = ((mulN x c : Nat) : Int) := by
  rw [← Int.natCast_mul, IntKind.wrap_u64]
  unfold mulN
  omega

set_option maxHeartbeats 400000 in
theorem rmix_any (x : Nat) (w : World) :
    Calls Tryd.prog 25 #[.int .u64 (x : Int)] w fun e w' => e = .returned (.int .u64 ((Dg.mixN x : Nat) : Int)) ∧ w = w' := by
  rw [mix_eq]
  go_enter Tryd.func25, Tryd.ntmps25
  go_wp2_with fail
  have e0 := wrapMul x 6364136223846793005
  rw [show ((6364136223846793005 : Nat) : Int) = 6364136223846793005 from rfl] at e0
  rw [e0]
  have b1 := mulN_lt x 6364136223846793005
  have b2 := xsN_lt 2147483648 b1
  rw [xs_eq31 _ b1]
  have e := wrapMul (xsN (mulN x 6364136223846793005) 2147483648) 3202034522624059733
  rw [show ((3202034522624059733 : Nat) : Int) = 3202034522624059733 from rfl] at e
  rw [e, xs_eq30 _ (mulN_lt _ _)]
  go_ret
  exact ⟨rfl, rfl⟩

theorem byte_add (b : Nat) (x : UInt8) (hs : b < 72057594037927936) : IntKind.u64.wrap ((b : Int) * 256 + IntKind.u64.wrap (x.toNat : Int)) = ((b * 256 + x.toNat : Nat) : Int) := by
  have := Dg.byte_lt x
  rw [IntKind.wrap_u64, IntKind.wrap_u64]; omega
theorem getD_drop (l : List UInt8) (a k : Nat) : (l.drop a).getD k 0 = l.getD (a + k) 0 := by simp [List.getD, List.getElem?_drop]
theorem byte_at (l : List UInt8) (i : Nat) (h : i < l.length) : ((⟨l.toArray⟩ : ByteArray)[i]'(by show i < l.length; exact h)) = l.getD i 0 := by
  simp [List.getD, List.getElem?_eq_getElem h]; rfl
theorem getD_end (l : List UInt8) (i : Nat) (h : ¬ i < l.length) : l.getD i 0 = 0 := by simp [List.getD, List.getElem?_eq_none (show l.length ≤ i by omega)]
theorem blk_take (l : List UInt8) : Dg.blk (l.take 8) = Dg.blk l := by
  unfold Dg.blk
  simp only [List.getD, List.getElem?_take, show (0 : Nat) < 8 by decide, show (1 : Nat) < 8 by decide, show (2 : Nat) < 8 by decide, show (3 : Nat) < 8 by decide, show (4 : Nat) < 8 by decide, show (5 : Nat) < 8 by decide, show (6 : Nat) < 8 by decide, show (7 : Nat) < 8 by decide, if_true]
theorem hex_drop (n k : Nat) (hk : k < 16) : (Dg.hex16 n).drop (16 - (k + 1)) = Dg.hexD (n / 16 ^ k % 16) :: (Dg.hex16 n).drop (16 - k) := by
  have h : 16 - (k + 1) < (Dg.hex16 n).length := by rw [Dg.hex16_length]; omega
  rw [List.drop_eq_getElem_cons h, show 16 - (k + 1) + 1 = 16 - k by omega]
  congr 1
  simp only [Dg.hex16, List.getElem_map, List.getElem_range]
  rw [show 15 - (16 - (k + 1)) = k by omega]
theorem hex_extract : ∀ m : Fin 16, (⟨#[48, 49, 50, 51, 52, 53, 54, 55, 56, 57, 97, 98, 99, 100, 101, 102]⟩ : ByteArray).extract m.val (m.val + 1) = ⟨#[Dg.hexD m.val]⟩ := by decide +kernel
theorem hex_slice (q : Nat) : ∀ W : World, (Instr.slice 9 (.string ⟨#[48, 49, 50, 51, 52, 53, 54, 55, 56, 57, 97, 98, 99, 100, 101, 102]⟩) (some (.int .u64 ((q : Int) % 16))) (some (.int .u64 ((q : Int) % 16 + 1))) none).run Tryd.prog W = .ok (.string ⟨#[Dg.hexD (q % 16)]⟩) W := by
  intro W
  have e : ((q : Int) % 16) = ((q % 16 : Nat) : Int) := by omega
  have h := hex_extract ⟨q % 16, Nat.mod_lt _ (by decide)⟩
  have h3 : ((q % 16 : Nat) : Int) + 1 ≤ ((⟨#[48, 49, 50, 51, 52, 53, 54, 55, 56, 57, 97, 98, 99, 100, 101, 102]⟩ : ByteArray).size : Int) := by
    show ((q % 16 : Nat) : Int) + 1 ≤ 16
    omega
  rw [e, run_slice_string W 9 _ .u64 .u64 _ _ Tryd.underlying9 (by omega) (by omega) h3, ← h]
  rfl
theorem rsum_next (l : List UInt8) (n j st0 : Nat) (h : 8 * j ≤ l.length) (ha : Dg.absorb n (l.drop (8 * j)) = Dg.absorb st0 l) :
    (8 * (j + 1) ≤ l.length ∧ Dg.absorb (Dg.mixN (n ^^^ Dg.blk (l.drop (8 * j)))) (l.drop (8 * (j + 1))) = Dg.absorb st0 l) ∨ (l.length < 8 * (j + 1) ∧ 8 * (j + 1) ≤ l.length + 8 ∧ Dg.mixN (n ^^^ Dg.blk (l.drop (8 * j))) = Dg.absorb st0 l) := by
  by_cases h8 : 8 * (j + 1) ≤ l.length
  · refine Or.inl ⟨h8, ?_⟩
    have e : l.drop (8 * j) = (l.drop (8 * j)).take 8 ++ l.drop (8 * (j + 1)) := by
      rw [show 8 * (j + 1) = 8 * j + 8 by omega, ← List.drop_drop, List.take_append_drop]
    rw [e, Dg.absorb_cons8 _ (by simp; omega)] at ha
    rw [blk_take] at ha
    exact ha
  · refine Or.inr ⟨by omega, by omega, ?_⟩
    rw [Dg.absorb_short _ (by simp; omega)] at ha
    exact ha

set_option maxHeartbeats 400000 in
set_option maxRecDepth 100000 in
theorem rsum_any (l : List UInt8) (w : World) (hl : l.length ≤ 140737488355328) :
    Calls Tryd.prog 13 #[.string ⟨l.toArray⟩] w fun e w' => e = .returned (.string ⟨(Dg.sumL l).toArray⟩) ∧ w = w' := by
  have hx := len_xor l.length (by omega)
  have hst0 := Dg.start_lt (n := l.length) (by omega)
  generalize hst : 1442695040888963407 ^^^ l.length = st0 at hx hst0
  have HST := Lib.hid hst; clear hst
  have HX := Lib.hid hx; clear hx
  go_enter Tryd.func13, Tryd.ntmps13
  go_wp2_with fail
  rw [HX.out]
  go_loop [3, 4, 5, 6] (fun st f _ _ => ∃ (j n : Nat), f = .int .i64 (8 * j : Nat) ∧ st = .int .u64 (n : Int) ∧ n < 18446744073709551616 ∧
      ((8 * j ≤ l.length ∧ Dg.absorb n (l.drop (8 * j)) = Dg.absorb st0 l) ∨ (l.length < 8 * j ∧ 8 * j ≤ l.length + 8 ∧ n = Dg.absorb st0 l)))
    (fun _ f _ _ => l.length + 16 - (intOf f).toNat)
  case atStart => exact ⟨0, st0, rfl, rfl, hst0, Or.inl ⟨by omega, rfl⟩⟩
  case round =>
    obtain ⟨j, n, rfl, rfl, hn, hrel⟩ := hrel
    by_cases h8 : 8 * j ≤ l.length
    · go_wp2_with fail
      go_loop [5, 6] (fun b i => ∃ k : Nat, k ≤ 8 ∧ i = .int .i64 ((8 * j + k : Nat) : Int) ∧ b = .int .u64 ((blkTo (l.drop (8 * j)) k : Nat) : Int)) (fun _ i => 8 * j + 8 - (intOf i).toNat)
      case atStart => exact ⟨0, by omega, by simp, rfl⟩
      case round =>
        obtain ⟨k, hk, rfl, rfl⟩ := hrel
        by_cases hk8 : k < 8
        · have hs := blkTo_small (l.drop (8 * j)) k hk8
          generalize hb : blkTo (l.drop (8 * j)) k = b at hs ⊢
          have HB := Lib.hid hb; clear hb
          by_cases hin : 8 * j + k < l.length
          · go_wp2_with fail
            go_round
            case rel => exact ⟨k + 1, by omega, by go_num, by rw [blkTo, HB.out, byte_add b _ hs, getD_drop, byte_at l (8 * j + k) hin]⟩
            case measure => simp [intOf]; omega
          · go_wp2_with fail
            go_round
            case rel => exact ⟨k + 1, by omega, by go_num, by rw [blkTo, HB.out, getD_drop, getD_end l _ hin]; rfl⟩
            case measure => simp [intOf]; omega
        · obtain rfl : k = 8 := by omega
          rw [blkTo_eight]
          have hb := Dg.blk_lt (l.drop (8 * j))
          have hx := u64_xor_nat n (Dg.blk (l.drop (8 * j))) hn hb
          have HX := Lib.hid hx; clear hx
          rcases hrel with ⟨h1, h2⟩ | h2
          · have HN := Lib.hid (rsum_next l n j st0 h1 h2); clear h2
            generalize hbb : Dg.blk (l.drop (8 * j)) = b at HX HN hb ⊢
            clear hbb
            go_wp2_with fail
            rw [HX.out]
            refine (rmix_any (n ^^^ b) _).mono ?_
            rintro e w' ⟨rfl, rfl⟩
            go_wp2_with fail
            go_round
            case rel => exact ⟨j + 1, Dg.mixN (n ^^^ b), by go_num, rfl, Dg.mixN_lt _, HN.out⟩
            case measure => simp [intOf]; omega
          · omega
    · rcases hrel with h2 | ⟨_, hj, rfl⟩
      · omega
      · have hfl := Dg.absorb_lt l st0
        have hfin : Dg.hex16 (Dg.absorb st0 l) = Dg.sumL l := by unfold Dg.sumL; rw [HST.out]
        generalize hf : Dg.absorb st0 l = fin at hfl hfin ⊢
        have HFIN := Lib.hid hfin; clear hfin hf HST HX
        go_wp2_with fail
        go_loop [3, 7, 8] (fun st s i => ∃ k : Nat, k ≤ 16 ∧ i = .int .i64 (k : Int) ∧ st = .int .u64 ((fin / 16 ^ k : Nat) : Int) ∧ s = .string ⟨((Dg.hex16 fin).drop (16 - k)).toArray⟩) (fun _ _ i => 16 - (intOf i).toNat)
        case atStart => exact ⟨0, by omega, rfl, by simp, by simp [Dg.hex16]⟩
        case round =>
          obtain ⟨k, hk, rfl, rfl, rfl⟩ := hrel
          by_cases hk16 : k < 16
          · have hq : fin / 16 ^ k < 18446744073709551616 := Nat.lt_of_le_of_lt (Nat.div_le_self _ _) hfl
            have hq2 : fin / 16 ^ (k + 1) = fin / 16 ^ k / 16 := by rw [Nat.pow_succ, Nat.div_div_eq_div_mul]
            have hd := hex_drop fin k hk16
            generalize fin / 16 ^ k = q at hq hq2 hd ⊢
            have htl : ((Dg.hex16 fin).drop (16 - k)).length ≤ 16 := by rw [List.length_drop, Dg.hex16_length]; omega
            generalize (Dg.hex16 fin).drop (16 - k) = t at hd htl ⊢
            have HQ := Lib.hid hq2; clear hq2
            have hsl := hex_slice q
            generalize Dg.hexD (q % 16) = c at hd hsl
            have HD := Lib.hid hd; clear hd
            have HC := Lib.hid (mk_append [c] t)
            go_wp2_with fail
            go_round
            case rel => exact ⟨k + 1, by omega, by go_num, by rw [HQ.out]; rfl, by rw [HD.out]; exact congrArg Value.string HC.out⟩
            case measure => simp [intOf]; omega
          · obtain rfl : k = 16 := by omega
            go_wp2_with fail
            go_ret
            exact ⟨by rw [← HFIN.out]; rfl, rfl⟩
end Go.Proofs.YtblcakhcbkahaaaDoor
