/- WALK: digest.Sum returns the digest. -/
import Derived.Test.YtblcakhcbkahaaaDoorDgWalk1
namespace Go.Proofs.YtblcakhcbkahaaaDoor
open Go.RowKit

def outC (n k : Nat) : Array Value := ((List.range 16).map fun i => Value.int .u8 (if i < k then ((Dg.hexD (n / 16 ^ (15 - i) % 16)).toNat : Int) else 0)).toArray
theorem outC_at (n k i : Nat) (h : i < 16) : (outC n k)[i]? = some (.int .u8 (if i < k then ((Dg.hexD (n / 16 ^ (15 - i) % 16)).toNat : Int) else 0)) := by simp [outC, h]

theorem outC_step (n k : Nat) (hk : k < 16) : (outC n k).setIfInBounds k (.int .u8 ((Dg.hexD (n / 16 ^ (15 - k) % 16)).toNat : Int)) = outC n (k + 1) := by
  apply Array.ext_getElem?
  intro i
  by_cases hi : i < 16
  · rw [outC_at _ _ _ hi, Array.getElem?_setIfInBounds]
    by_cases e : k = i
    · subst e; rw [if_pos rfl, if_pos (by simpa [outC] using hk), if_pos (by omega)]
    · rw [if_neg e, outC_at _ _ _ hi]
      by_cases h1 : i < k
      · rw [if_pos h1, if_pos (by omega)]
      · rw [if_neg h1, if_neg (by omega)]
  · rw [Array.getElem?_eq_none (by simp [outC]; omega), Array.getElem?_eq_none (by simp [outC]; omega)]
theorem nibble (n k : Nat) (hn : n < 18446744073709551616) (hk : k < 16) : ∃ j : Nat, j = n / 16 ^ (15 - k) % 16 ∧ j < 16 ∧ bits .and .u64 ((n : Int) / 2 ^ (60 - 4 * k)) 15 = (j : Int) := by
  refine ⟨_, rfl, Nat.mod_lt _ (by decide), ?_⟩
  have e : (2 : Nat) ^ (60 - 4 * k) = 16 ^ (15 - k) := by
    rw [show (16 : Nat) = 2 ^ 4 from rfl, ← Nat.pow_mul]; congr 1; omega
  have h1 : ((n : Int) / 2 ^ (60 - 4 * k)) = ((n / 16 ^ (15 - k) : Nat) : Int) := by rw [← e, Int.natCast_ediv, Int.natCast_pow]; rfl
  rw [h1]
  have h2 := u64_and_nat (n / 16 ^ (15 - k)) 15 (Nat.lt_of_le_of_lt (Nat.div_le_self _ _) hn) (by decide)
  rw [Nat.and_two_pow_sub_one_eq_mod _ 4] at h2
  exact h2

theorem hex_cells (fin : Nat) (w2 : World) (d : Array Value) (i : Nat) (h : i < 16) :
    ((w2.alloc (.cells d 43)).alloc (.cells (outC fin 16) 43)).cell? ⟨w2.heap.size + 1, 0 + i, none⟩ = some (.int .u8 (((Dg.hex16 fin).map fun c => ((c.toNat : Nat) : Int)).getD i 0)) := by
  rw [World.cell?_alloc_at _ _ _ _ (by simp), Nat.zero_add, outC_at _ _ _ h, if_pos h]
  simp [Dg.hex16, h]
theorem strOfNums_bytes (l : List UInt8) : strOfNums (l.map fun c => ((c.toNat : Nat) : Int)) = ⟨l.toArray⟩ := by
  unfold strOfNums
  congr 2
  rw [List.map_map]
  conv => rhs; rw [← List.map_id l]
  congr 1
  funext c
  simp

def strOf : Value → ByteArray | .string s => s | _ => ByteArray.empty

theorem len_xor (n : Nat) (h : n < 18446744073709551616) : bits .xor .u64 1442695040888963407 (n : Int) = ((1442695040888963407 ^^^ n : Nat) : Int) :=
  u64_xor_nat 1442695040888963407 n (by decide) h

theorem absorb_next (st : Nat) (s : ByteArray) (h : 8 ≤ s.size) : Dg.absorb st s.data.toList = Dg.absorb (Dg.mixN (st ^^^ Dg.blk (s.extract 0 8).data.toList)) (s.extract 8 s.size).data.toList := by
  rw [Lib.extract_to_end, Lib.extract_data]
  have e : s.data.toList = s.data.toList.take 8 ++ s.data.toList.drop 8 := (List.take_append_drop 8 _).symm
  rw [show (s.data.toList.drop 0).take (8 - 0) = s.data.toList.take 8 from rfl]
  conv => lhs; rw [e]
  rw [Dg.absorb_cons8 _ (by rw [List.length_take, ← Lib.size_eq]; omega)]

set_option maxHeartbeats 400000 in
set_option maxRecDepth 100000 in
theorem sum_any (s : ByteArray) (w : World) (hs : s.size ≤ 140737488355328) :
    Calls Tryd.prog 12 #[.string s] w fun e w' => e = .returned (.string ⟨(Dg.sumL s.data.toList).toArray⟩) ∧ Below w.heap.size w w' := by
  have hx := len_xor s.size (by omega)
  have hst0 := Dg.start_lt (n := s.size) (by omega)
  generalize hst : 1442695040888963407 ^^^ s.size = st0 at hx hst0
  have HST := Lib.hid hst; clear hst
  have HX := Lib.hid hx; clear hx
  go_enter Tryd.func12, Tryd.ntmps12
  go_wp2_with fail
  rw [HX.out]
  go_loopw [0] (fun t wr => ∃ (p : ByteArray) (st : Nat), t = .string p ∧ p.size ≤ s.size ∧ st < 18446744073709551616 ∧ wr.heap[w.heap.size]? = some (.cells #[.int .u64 (st : Int)] 37 (0, 0)) ∧ Below w.heap.size w wr ∧ Dg.absorb st p.data.toList = Dg.absorb st0 s.data.toList) (fun t _ => (strOf t).size)
  case atStart => exact ⟨s, st0, rfl, Nat.le_refl _, hst0, heap_alloc_new w _, (Below.refl _ w).alloc (Nat.le_refl _) _, rfl⟩
  case round =>
    obtain ⟨p, st, rfl, hp, hst, hv, hb, ha⟩ := hrel
    by_cases h8 : 8 ≤ p.size
    · have HA := Lib.hid ha; clear ha
      have HN := Lib.hid (absorb_next st p h8)
      have HV := Lib.hid hv; clear hv
      go_wp2_with fail
      refine (sum1_any w.heap.size st (p.extract 0 8) _ hst (by simp; omega) HV.out).mono ?_
      rintro e w1 ⟨rfl, hv1, hb1⟩
      have HV1 := Lib.hid hv1; clear hv1
      go_wp2_with fail
      go_roundw
      case rel => exact ⟨p.extract 8 p.size, _, rfl, by simp; omega, Dg.mixN_lt _, HV1.out, hb.trans hb1, by rw [← HN.out]; exact HA.out⟩
      case measure => simp [strOf]; omega
    · have HA := Lib.hid ha; clear ha
      have HV := Lib.hid hv; clear hv
      go_wp2_with fail
      refine (sum1_any w.heap.size st p _ hst (by omega) HV.out).mono ?_
      rintro e w1 ⟨rfl, hv1, hb1⟩
      have hb2 := hb.trans hb1
      clear hb1 hb
      have ha := HA.out
      rw [Dg.absorb_short _ (by rw [← Lib.size_eq]; omega)] at ha
      rw [ha] at hv1
      have hfl := Dg.absorb_lt s.data.toList st0
      have hfin : Dg.hex16 (Dg.absorb st0 s.data.toList) = Dg.sumL s.data.toList := by unfold Dg.sumL; rw [← Lib.size_eq, HST.out]
      generalize hf : Dg.absorb st0 s.data.toList = fin at hv1 hfl hfin
      have HFIN := Lib.hid hfin; clear hfin hf ha HA HST HX HV
      have hz : w.heap.size < w1.heap.size := lt_of_block hv1
      go_wp2_with fail
      refine (digits_any w1).mono ?_
      rintro e w2 ⟨rfl, hb3⟩
      have hv2 : w2.heap[w.heap.size]? = some (.cells #[.int .u64 (fin : Int)] 37 (0, 0)) := by rw [hb3.block _ hz]; exact hv1
      have hz2 := hb3.size
      have hb4 := hb2.trans (hb3.mono (by omega))
      clear hv1 hb2 hb3
      have hsc := run_storeCells_new (P := Tryd.prog) w2 43 #[.int .u8 0, .int .u8 0, .int .u8 0, .int .u8 0, .int .u8 0, .int .u8 0, .int .u8 0, .int .u8 0, .int .u8 0, .int .u8 0, .int .u8 0, .int .u8 0, .int .u8 0, .int .u8 0, .int .u8 0, .int .u8 0] (digC 16) (by kernel_rfl) rfl (by kernel_rfl)
      have hds : (digC 16).size = 16 := rfl
      have hdat := fun i hi => digC_at 16 i hi
      generalize hd : digC 16 = d16 at hsc hds hdat ⊢
      clear hd
      go_wp2_with fail
      have h0 : (#[.int .u8 0, .int .u8 0, .int .u8 0, .int .u8 0, .int .u8 0, .int .u8 0, .int .u8 0, .int .u8 0, .int .u8 0, .int .u8 0, .int .u8 0, .int .u8 0, .int .u8 0, .int .u8 0, .int .u8 0, .int .u8 0] : Array Value) = outC fin 0 := by kernel_rfl
      rw [h0]
      go_loopw [7, 26] (fun _ c W => ∃ k : Nat, k ≤ 16 ∧ c = .int .i64 k ∧ W = (w2.alloc (.cells d16 43)).alloc (.cells (outC fin k) 43)) (fun _ c _ => 16 - (intOf c).toNat)
      case atStart => exact ⟨0, by omega, rfl, rfl⟩
      case round =>
        obtain ⟨k, hk, rfl, rfl⟩ := hrel
        clear h0 hsc
        by_cases hk16 : k < 16
        · obtain ⟨j, hj, hj16, hi⟩ := nibble fin k hfl hk16
          have hcS : ((w2.alloc (.cells d16 43)).alloc (.cells (outC fin k) 43)).cell? ⟨w.heap.size, 0, none⟩ = some (.int .u64 (fin : Int)) := by
            rw [World.cell?_alloc_old _ _ _ (by simp; omega), World.cell?_alloc_old _ _ _ (by simp; omega)]
            exact cell_of_one hv2
          have hcD : ((w2.alloc (.cells d16 43)).alloc (.cells (outC fin k) 43)).cell? ⟨w2.heap.size, j, none⟩ = some (.int .u8 ((Dg.hexD j).toNat : Int)) := by
            rw [World.cell?_alloc_old _ _ _ (by simp), World.cell?_alloc_at _ _ _ _ rfl, hdat j hj16, if_pos hj16]
          have hcO : ((w2.alloc (.cells d16 43)).alloc (.cells (outC fin k) 43)).cell? ⟨w2.heap.size + 1, k, none⟩ = some (.int .u8 0) := by
            rw [World.cell?_alloc_at _ _ _ _ (by simp), outC_at _ _ _ hk16, if_neg (by omega)]
          have HS := Lib.hid (outC_step fin k hk16); have HJ := Lib.hid hj; clear hj hdat hv2
          generalize hc : ((Dg.hexD j).toNat : Int) = c at hcD
          have HC := Lib.hid hc; clear hc
          go_wp2_with fail
          go_roundw
          case rel => exact ⟨k + 1, by omega, by go_num, by rw [← HS.out, ← HJ.out, HC.out]⟩
          case measure => simp [intOf]; omega
        · obtain rfl : k = 16 := by omega
          have hcv := run_convert_bytes_arg (P := Tryd.prog) (w := (w2.alloc (.cells d16 43)).alloc (.cells (outC fin 16) 43)) 39 5 Tryd.underlying39 Tryd.underlying5 (w2.heap.size + 1) 0 16 16 ((Dg.hex16 fin).map fun c => ((c.toNat : Nat) : Int)) (by simp [Dg.hex16]) (hex_cells fin w2 d16)
          have HE := Lib.hid (strOfNums_bytes (Dg.hex16 fin))
          go_wp2_with fail
          go_ret
          exact ⟨congrArg (fun x => Ending.returned (Value.string x)) (HE.out.trans (congrArg (fun l : List UInt8 => (⟨l.toArray⟩ : ByteArray)) HFIN.out)), (hb4.alloc (by omega) _).alloc (by simp; omega) _⟩
end Go.Proofs.YtblcakhcbkahaaaDoor
