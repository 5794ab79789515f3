/- WALKS: digest.mix, the closure in digest.Sum, digest.digits. -/
import Derived.Test.YtblcakhcbkahaaaDoorShelf
import Derived.Test.YtblcakhcbkahaaaDoorDgPlain
import Derived.WalkKit
import Derived.Outline
import Derived.Lib.Hide
import Derived.Lib.BufferWrite
import Derived.Deep.WholeRow
import Derived.Laws.CopyOwn
namespace Go.Proofs.YtblcakhcbkahaaaDoor
open Go.RowKit

def mulN (x c : Nat) : Nat := x * c % 18446744073709551616
def hiN (x c : Nat) : Nat := x * c / 18446744073709551616
def xsN (x s : Nat) : Nat := x ^^^ (x / s)
theorem mulN_lt (x c : Nat) : mulN x c < 18446744073709551616 := Nat.mod_lt _ (by decide)
theorem xsN_lt {x : Nat} (s : Nat) (hx : x < 18446744073709551616) : xsN x s < 18446744073709551616 := Dg.xor_lt hx (Nat.lt_of_le_of_lt (Nat.div_le_self _ _) hx)
theorem mix_eq (x : Nat) : Dg.mixN x = xsN (mulN (xsN (mulN x 6364136223846793005) 2147483648) 3202034522624059733) 1073741824 := rfl
theorem xs_eq31 (x : Nat) (hx : x < 18446744073709551616) : bits .xor .u64 (x : Int) ((x : Int) / 2147483648) = ((xsN x 2147483648 : Nat) : Int) := xorShift_u64 x 2147483648 hx
theorem xs_eq30 (x : Nat) (hx : x < 18446744073709551616) : bits .xor .u64 (x : Int) ((x : Int) / 1073741824) = ((xsN x 1073741824 : Nat) : Int) := xorShift_u64 x 1073741824 hx
theorem mul_any (x y : Nat) (hx : x < 18446744073709551616) (hy : y < 18446744073709551616) (w : World) :
    Calls Tryd.prog 32 #[.int .u64 x, .int .u64 y] w fun e w' => e = .returned (.tuple #[.int .u64 (hiN x y : Nat), .int .u64 (mulN x y : Nat)]) ∧ w = w' :=
  (Tryd.bits_Mul64 x y hx hy w).mono fun _ _ ⟨h1, h2⟩ => ⟨h1, h2.symm⟩

set_option maxHeartbeats 400000 in
theorem mix_any (x : Nat) (hx : x < 18446744073709551616) (w : World) :
    Calls Tryd.prog 23 #[.int .u64 (x : Int)] w fun e w' => e = .returned (.int .u64 ((Dg.mixN x : Nat) : Int)) ∧ w = w' := by
  rw [mix_eq]
  have b1 := mulN_lt x 6364136223846793005
  have b2 := xsN_lt 2147483648 b1
  have b3 := mulN_lt (xsN (mulN x 6364136223846793005) 2147483648) 3202034522624059733
  generalize hy : mulN x 6364136223846793005 = y at b1 b2 b3 ⊢
  have HY := Lib.hid hy; clear hy
  go_enter Tryd.func23, Tryd.ntmps23
  go_wp2_with fail
  refine (mul_any x 6364136223846793005 hx (by decide) _).mono ?_
  rintro e w' ⟨rfl, rfl⟩
  rw [HY.out]
  go_wp2_with fail
  rw [xs_eq31 _ b1]
  refine (mul_any (xsN y 2147483648) 3202034522624059733 b2 (by decide) _).mono ?_
  rintro e w' ⟨rfl, rfl⟩
  go_wp2_with fail
  rw [xs_eq30 _ b3]
  go_ret
  exact ⟨rfl, rfl⟩

/-- the eight cells of a block: the piece's bytes, then zeros -/
def pieceCells (l : List UInt8) : Array Value := ((List.range 8).map fun i => Value.int .u8 ((l.getD i 0).toNat : Int)).toArray
theorem pieceCells_at (l : List UInt8) (i : Nat) (h : i < 8) : (pieceCells l)[i]? = some (.int .u8 ((l.getD i 0).toNat : Int)) := by
  simp [pieceCells, h]
theorem pieceCells_eq (l : List UInt8) (h : l.length ≤ 8) : (([Value.int IntKind.u8 0, Value.int IntKind.u8 0, Value.int IntKind.u8 0, Value.int IntKind.u8 0, Value.int IntKind.u8 0, Value.int IntKind.u8 0, Value.int IntKind.u8 0, Value.int IntKind.u8 0] : List Value).take 0 ++ Lib.byteCells l ++ ([Value.int IntKind.u8 0, Value.int IntKind.u8 0, Value.int IntKind.u8 0, Value.int IntKind.u8 0, Value.int IntKind.u8 0, Value.int IntKind.u8 0, Value.int IntKind.u8 0, Value.int IntKind.u8 0] : List Value).drop (0 + l.length)).toArray = pieceCells l := by
  apply Array.ext_getElem?
  intro i
  unfold pieceCells
  simp only [List.getElem?_toArray, List.take_zero, List.nil_append, Nat.zero_add]
  by_cases hi : i < l.length
  · rw [List.getElem?_append_left (by rw [Lib.byteCells_length]; exact hi)]
    have h8 : i < 8 := by omega
    simp [Lib.byteCells, hi, h8]
  · rw [List.getElem?_append_right (by rw [Lib.byteCells_length]; omega), Lib.byteCells_length]
    by_cases h8 : i < 8
    · have : l[i]? = none := List.getElem?_eq_none (by omega)
      simp only [List.getElem?_drop, List.getElem?_map, List.getElem?_range h8, Option.map_some, List.getD, this, Option.getD_none]
      have e : l.length + (i - l.length) = i := by omega
      rw [e]
      match i, h8 with
      | 0, _ | 1, _ | 2, _ | 3, _ | 4, _ | 5, _ | 6, _ | 7, _ => rfl
    · rw [List.getElem?_eq_none (by simp; omega), List.getElem?_eq_none (by simp; omega)]

/-- the number of the first k bytes -/
def blkTo (l : List UInt8) : Nat → Nat
  | 0 => 0
  | k + 1 => blkTo l k * 256 + (l.getD k 0).toNat
theorem blkTo_lt (l : List UInt8) (k : Nat) : blkTo l k < 256 ^ k := by
  induction k with
  | zero => simp [blkTo]
  | succ k ih => have := Dg.byte_lt (l.getD k 0); rw [blkTo, Nat.pow_succ]; omega
theorem blkTo_eight (l : List UInt8) : blkTo l 8 = Dg.blk l := by simp [blkTo, Dg.blk]
theorem blkTo_small (l : List UInt8) (k : Nat) (h : k < 8) : blkTo l k < 72057594037927936 :=
  Nat.lt_of_lt_of_le (blkTo_lt l k) (show 256 ^ k ≤ 256 ^ 7 from Nat.pow_le_pow_right (by decide) (by omega))
theorem or_byte (n c : Nat) (hn : n < 72057594037927936) (hc : c < 256) : bits .or .u64 ((n * 256 : Nat) : Int) (c : Int) = ((n * 256 + c : Nat) : Int) := by
  rw [u64_or_nat _ _ (by omega) (by omega), nat_join 8 (n * 256) c (by simp) (by simpa using hc)]

set_option maxHeartbeats 400000 in
theorem sum1_any (Bs st : Nat) (s : ByteArray) (w : World) (hst : st < 18446744073709551616) (hs : s.size ≤ 8) (hv : w.heap[Bs]? = some (.cells #[.int .u64 (st : Int)] 37 (0, 0))) :
    Calls Tryd.prog 22 #[.string s, .pointer (some ⟨Bs, 0, none⟩)] w fun e w' => e = .returned (.tuple #[]) ∧ w'.heap[Bs]? = some (.cells #[.int .u64 ((Dg.mixN (st ^^^ Dg.blk s.data.toList) : Nat) : Int)] 37 (0, 0)) ∧ Below Bs w w' := by
  have hc := cell_of_one hv
  have hf := free_of_one hv
  have hlt := lt_of_block hv
  have hcp : (Builtin.copy_ #[39, 9] 3 #[.slice (some ⟨w.heap.size, 0, none⟩) 8 8, .string s]).run Tryd.prog (w.alloc (.cells #[.int .u8 0, .int .u8 0, .int .u8 0, .int .u8 0, .int .u8 0, .int .u8 0, .int .u8 0, .int .u8 0] 38)) =
      .ok (goInt s.size) (w.alloc (.cells (pieceCells s.data.toList) 38)) := by
    have h := Lib.run_copy_row_string (P := Tryd.prog) (w.alloc (.cells #[.int .u8 0, .int .u8 0, .int .u8 0, .int .u8 0, .int .u8 0, .int .u8 0, .int .u8 0, .int .u8 0] 38)) 39 9 3 5 w.heap.size 0 8 8 s _ 38 Tryd.underlying39 (by kernel_rfl) (heap_alloc_new w _) hs (by simpa using hs)
    rw [World.setRow_alloc_new, Lib.size_eq, pieceCells_eq _ (by rw [← Lib.size_eq]; exact hs)] at h
    exact h
  have hcell : ∀ k, k < 8 → (w.alloc (.cells (pieceCells s.data.toList) 38)).cell? ⟨w.heap.size, k, none⟩ = some (.int .u8 ((s.data.toList.getD k 0).toNat : Int)) := by
    intro k hk
    rw [World.cell?_alloc_at _ _ _ _ rfl, pieceCells_at _ _ hk]
  have HV := Lib.hid hv; clear hv
  generalize hP : pieceCells s.data.toList = pc at hcp hcell
  clear hP
  go_enter Tryd.func22, Tryd.ntmps22
  go_wp2_with fail
  go_loop [4, 5, 9] (fun n i c => ∃ k : Nat, k ≤ 8 ∧ c = .int .i64 k ∧ n = .int .u64 (blkTo s.data.toList k)) (fun _ _ c => 8 - (intOf c).toNat)
  case atStart => exact ⟨0, by omega, rfl, rfl⟩
  case round =>
    obtain ⟨k, hk, rfl, rfl⟩ := hrel
    by_cases hk8 : k < 8
    · have g := hcell k hk8
      clear hcell hcp
      have hb := Dg.byte_lt (s.data.toList.getD k 0)
      have hs := blkTo_small s.data.toList k hk8
      generalize hn : blkTo s.data.toList k = n at *
      generalize hcc : (s.data.toList.getD k 0).toNat = c at *
      have HN := Lib.hid hn; clear hn
      have HC := Lib.hid hcc; clear hcc
      go_wp2_with fail
      go_round
      case rel =>
        refine ⟨k + 1, by omega, by go_num, ?_⟩
        rw [blkTo, HN.out, HC.out, ← or_byte n c hs hb]; rfl
      case measure => simp [intOf]; omega
    · obtain rfl : k = 8 := by omega
      clear hcell hcp
      rw [blkTo_eight]
      have hb := Dg.blk_lt s.data.toList
      generalize hn : Dg.blk s.data.toList = n at *
      have HN := Lib.hid hn; clear hn
      have hx := u64_xor_nat st n hst hb
      have hxl := Dg.xor_lt hst hb
      generalize hy : st ^^^ n = y at hx hxl ⊢
      have HX := Lib.hid hx; clear hx
      have HY := Lib.hid hy; clear hy
      go_wp2_with fail
      rw [HX.out]
      refine (mix_any y hxl _).mono ?_
      rintro e w' ⟨rfl, rfl⟩
      go_wp2_with fail
      go_end0
      refine ⟨rfl, ?_, ?_⟩
      · rw [HN.out, HY.out, Below.heap_alloc _ _ _ (by simpa [World.setCell] using hlt)]
        exact one_setCell HV.out
      · exact ((Below.refl Bs w).setCell (p := ⟨Bs, 0, none⟩) (Nat.le_refl _) _).alloc (by simp [World.setCell]; omega) _

def digC (k : Nat) : Array Value := ((List.range 16).map fun i => Value.int .u8 (if i < k then ((Dg.hexD i).toNat : Int) else 0)).toArray
theorem digC_at (k i : Nat) (h : i < 16) : (digC k)[i]? = some (.int .u8 (if i < k then ((Dg.hexD i).toNat : Int) else 0)) := by simp [digC, h]

theorem digC_step (k : Nat) (v : Int) (hk : k < 16) (hv : v = ((Dg.hexD k).toNat : Int)) : (digC k).setIfInBounds k (.int .u8 v) = digC (k + 1) := by
  apply Array.ext_getElem?
  intro i
  by_cases hi : i < 16
  · rw [digC_at _ _ hi, Array.getElem?_setIfInBounds]
    by_cases e : k = i
    · subst e; rw [if_pos rfl, if_pos (by simpa [digC] using hk), if_pos (by omega), hv]
    · rw [if_neg e, digC_at _ _ hi]
      by_cases h1 : i < k
      · rw [if_pos h1, if_pos (by omega)]
      · rw [if_neg h1, if_neg (by omega)]
  · rw [Array.getElem?_eq_none (by simp [digC]; omega), Array.getElem?_eq_none (by simp [digC]; omega)]
theorem digC_low (k : Nat) (hk : k < 10) : (digC k).setIfInBounds k (.int .u8 (48 + (k : Int))) = digC (k + 1) := by
  refine digC_step k _ (by omega) ?_
  match k, hk with
  | 0, _ | 1, _ | 2, _ | 3, _ | 4, _ | 5, _ | 6, _ | 7, _ | 8, _ | 9, _ => rfl
theorem digC_high (k : Nat) (h : 10 ≤ k) (hk : k < 16) : (digC k).setIfInBounds k (.int .u8 (97 + (k : Int) - 10)) = digC (k + 1) := by
  refine digC_step k _ (by omega) ?_
  have : k = 10 ∨ k = 11 ∨ k = 12 ∨ k = 13 ∨ k = 14 ∨ k = 15 := by omega
  rcases this with rfl | rfl | rfl | rfl | rfl | rfl <;> rfl

set_option maxHeartbeats 400000 in
theorem digits_any (w : World) :
    Calls Tryd.prog 24 #[] w fun e w' => e = .returned (.agg (digC 16)) ∧ Below w.heap.size w w' := by
  have h0 : #[Value.int IntKind.u8 0, .int .u8 0, .int .u8 0, .int .u8 0, .int .u8 0, .int .u8 0, .int .u8 0, .int .u8 0, .int .u8 0, .int .u8 0, .int .u8 0, .int .u8 0, .int .u8 0, .int .u8 0, .int .u8 0, .int .u8 0] = digC 0 := by kernel_rfl
  go_enter Tryd.func24, Tryd.ntmps24
  go_wp2_with fail
  go_loopw [2, 3] (fun i c wr => ∃ k : Nat, k ≤ 16 ∧ c = .int .i64 k ∧ wr = (w.alloc (.cells (digC 0) 43)).alloc (.cells (digC k) 43)) (fun _ c _ => 16 - (intOf c).toNat)
  case atStart => exact ⟨0, by omega, rfl, by rw [← h0]⟩
  case round =>
    obtain ⟨k, hk, rfl, rfl⟩ := hrel
    by_cases hk16 : k < 16
    · have g := digC_at k k hk16
      rw [if_neg (by omega)] at g
      have hc : ((w.alloc (.cells (digC 0) 43)).alloc (.cells (digC k) 43)).cell? ⟨w.heap.size + 1, k, none⟩ = some (.int .u8 0) := by rw [World.cell?_alloc_at _ _ _ _ (by simp)]; exact g
      clear g h0
      have g2 : ((digC k).setIfInBounds k (Value.int IntKind.u8 (48 + (k : Int))))[k]? = some (Value.int IntKind.u8 (48 + (k : Int))) := by
        rw [Array.getElem?_setIfInBounds_self_of_lt (by simpa [digC] using hk16)]
      by_cases hk10 : k < 10
      · go_wp2_with fail
        go_roundw
        case rel => exact ⟨k + 1, by omega, by go_num, by rw [digC_low k hk10]⟩
        case measure => simp [intOf]; omega
      · go_wp2_with fail
        go_roundw
        case rel => exact ⟨k + 1, by omega, by go_num, by rw [digC_high k (by omega) hk16]⟩
        case measure => simp [intOf]; omega
    · obtain rfl : k = 16 := by omega
      clear h0
      have hg1 : ((w.alloc (.cells (digC 0) 43)).alloc (.cells (digC 16) 43)).heap[w.heap.size + 1]? = some (.cells (digC 16) 43 (0, 0)) := heap_alloc2_new w _ _
      have hg0 : ((w.alloc (.cells (digC 0) 43)).alloc (.cells (digC 16) 43)).heap[w.heap.size]? = some (.cells (digC 0) 43 (0, 0)) := heap_alloc2_old w _ _
      go_wp2_with (first
        | (refine wpList_load_row rfl 43 _ rfl (w.heap.size + 1) rfl 43 (digC 16) (0, 0) _ hg1 Tryd.underlying43 rfl (by kernel_rfl) ?_)
        | (refine wpList_store_row rfl 43 _ _ rfl w.heap.size (digC 16) rfl rfl 43 (digC 0) hg0 (by kernel_rfl) rfl (by kernel_rfl) ?_))
      refine bodyPost_ret (v := .agg (digC 16)) (results_cell_row rfl _ _ w.heap.size 43 (digC 16) (0, 0) _ rfl (setRow_heap _ _ _ _ _ _ hg0) Tryd.underlying43 rfl (by kernel_rfl)) rfl ⟨rfl, ?_⟩
      exact below_setRow (((Below.refl _ w).alloc (Nat.le_refl _) _).alloc (by simp) _) (Nat.le_refl _) _
end Go.Proofs.YtblcakhcbkahaaaDoor
