/- The texts DgWalk1 DgWalk2 DgWalk3 DgRef1 DgRef2 DgRef3 DgBase, merged: walks and plain laws that the statements of layer 44 use. -/
import Derived.Test.YteoclpjbeadkpaaGreatDoorShelf
import Derived.Test.YteoclpjbeadkpaaGreatDoorMpA
import Derived.WalkKit
import Derived.Outline
import Derived.Lib.Hide
import Derived.Lib.BufferWrite
import Derived.Deep.WholeRow
import Derived.Laws.CopyOwn
import Derived.Lib.SmallJoins
import Derived.Sort.Grow
import Derived.SliceStrings
import Derived.Deep.QuietTactic
import Derived.BigQuiet
import Derived.Lib.AppendStr
set_option linter.unusedSimpArgs false
set_option linter.unusedVariables false
/- WALKS: digest.mix, the closure in digest.Sum, digest.digits. -/
namespace Go.Proofs.YteoclpjbeadkpaaGreatDoor
open Go.RowKit

def mulN (x c : Nat) : Nat := x * c % 18446744073709551616
def hiN (x c : Nat) : Nat := x * c / 18446744073709551616
def xsN (x s : Nat) : Nat := x ^^^ (x / s)
theorem mulN_lt (x c : Nat) : mulN x c < 18446744073709551616 := Nat.mod_lt _ (by decide)
theorem xsN_lt {x : Nat} (s : Nat) (hx : x < 18446744073709551616) : xsN x s < 18446744073709551616 := Dg.xor_lt hx (Nat.lt_of_le_of_lt (Nat.div_le_self _ _) hx)
theorem mix_eq (x : Nat) : Dg.mixN x = xsN (mulN (xsN (mulN x 6364136223846793005) 2147483648) 3202034522624059733) 1073741824 := rfl
theorem xs_eq31 (x : Nat) (hx : x < 18446744073709551616) : bits .xor .u64 (x : Int) ((x : Int) / 2147483648) = ((xsN x 2147483648 : Nat) : Int) := xorShift_u64 x 2147483648 hx
theorem xs_eq30 (x : Nat) (hx : x < 18446744073709551616) : bits .xor .u64 (x : Int) ((x : Int) / 1073741824) = ((xsN x 1073741824 : Nat) : Int) := xorShift_u64 x 1073741824 hx
theorem mul_any (x y : Nat) (hx : x < 18446744073709551616) (hy : y < 18446744073709551616) (w : World) :
    Calls Tryz.prog 159 #[.int .u64 x, .int .u64 y] w fun e w' => e = .returned (.tuple #[.int .u64 (hiN x y : Nat), .int .u64 (mulN x y : Nat)]) ∧ w = w' :=
  (Tryz.bits_Mul64 x y hx hy w).mono fun _ _ ⟨h1, h2⟩ => ⟨h1, h2.symm⟩

set_option maxHeartbeats 400000 in
theorem mix_any (x : Nat) (hx : x < 18446744073709551616) (w : World) :
    Calls Tryz.prog 128 #[.int .u64 (x : Int)] w fun e w' => e = .returned (.int .u64 ((Dg.mixN x : Nat) : Int)) ∧ w = w' := by
  rw [mix_eq]
  have b1 := mulN_lt x 6364136223846793005
  have b2 := xsN_lt 2147483648 b1
  have b3 := mulN_lt (xsN (mulN x 6364136223846793005) 2147483648) 3202034522624059733
  generalize hy : mulN x 6364136223846793005 = y at b1 b2 b3 ⊢
  have HY := Lib.hid hy; clear hy
  go_enter Tryz.func128, Tryz.ntmps128
  go_wp2_with fail
  refine (mul_any x 6364136223846793005 hx (by decide) _).mono ?_
  rintro e w' ⟨rfl, rfl⟩
  rw [HY.out]
  go_wp2_with fail
  rw [xs_eq31 _ b1]
  refine (mul_any (xsN y 2147483648) 3202034522624059733 b2 (by decide) _).mono ?_
  rintro e w' ⟨rfl, rfl⟩
  go_wp2_with fail
  rw [xs_eq30 _ b3]
  go_ret
  exact ⟨rfl, rfl⟩

/-- the eight cells of a block: the piece's bytes, then zeros -/
def pieceCells (l : List UInt8) : Array Value := ((List.range 8).map fun i => Value.int .u8 ((l.getD i 0).toNat : Int)).toArray
theorem pieceCells_at (l : List UInt8) (i : Nat) (h : i < 8) : (pieceCells l)[i]? = some (.int .u8 ((l.getD i 0).toNat : Int)) := by
  simp [pieceCells, h]
theorem pieceCells_eq (l : List UInt8) (h : l.length ≤ 8) : (([Value.int IntKind.u8 0, Value.int IntKind.u8 0, Value.int IntKind.u8 0, Value.int IntKind.u8 0, Value.int IntKind.u8 0, Value.int IntKind.u8 0, Value.int IntKind.u8 0, Value.int IntKind.u8 0] : List Value).take 0 ++ Lib.byteCells l ++ ([Value.int IntKind.u8 0, Value.int IntKind.u8 0, Value.int IntKind.u8 0, Value.int IntKind.u8 0, Value.int IntKind.u8 0, Value.int IntKind.u8 0, Value.int IntKind.u8 0, Value.int IntKind.u8 0] : List Value).drop (0 + l.length)).toArray = pieceCells l := by
  apply Array.ext_getElem?
  intro i
  unfold pieceCells
  simp only [List.getElem?_toArray, List.take_zero, List.nil_append, Nat.zero_add]
  by_cases hi : i < l.length
  · rw [List.getElem?_append_left (by rw [Lib.byteCells_length]; exact hi)]
    have h8 : i < 8 := by omega
    simp [Lib.byteCells, hi, h8]
  · rw [List.getElem?_append_right (by rw [Lib.byteCells_length]; omega), Lib.byteCells_length]
    by_cases h8 : i < 8
    · have : l[i]? = none := List.getElem?_eq_none (by omega)
      simp only [List.getElem?_drop, List.getElem?_map, List.getElem?_range h8, Option.map_some, List.getD, this, Option.getD_none]
      have e : l.length + (i - l.length) = i := by omega
      rw [e]
      match i, h8 with
      | 0, _ | 1, _ | 2, _ | 3, _ | 4, _ | 5, _ | 6, _ | 7, _ => rfl
    · rw [List.getElem?_eq_none (by simp; omega), List.getElem?_eq_none (by simp; omega)]

/-- the number of the first k bytes -/
def blkTo (l : List UInt8) : Nat → Nat
  | 0 => 0
  | k + 1 => blkTo l k * 256 + (l.getD k 0).toNat
theorem blkTo_lt (l : List UInt8) (k : Nat) : blkTo l k < 256 ^ k := by
  induction k with
  | zero => simp [blkTo]
  | succ k ih => have := Dg.byte_lt (l.getD k 0); rw [blkTo, Nat.pow_succ]; omega
theorem blkTo_eight (l : List UInt8) : blkTo l 8 = Dg.blk l := by simp [blkTo, Dg.blk]
theorem blkTo_small (l : List UInt8) (k : Nat) (h : k < 8) : blkTo l k < 72057594037927936 :=
  Nat.lt_of_lt_of_le (blkTo_lt l k) (show 256 ^ k ≤ 256 ^ 7 from Nat.pow_le_pow_right (by decide) (by omega))
theorem or_byte (n c : Nat) (hn : n < 72057594037927936) (hc : c < 256) : bits .or .u64 ((n * 256 : Nat) : Int) (c : Int) = ((n * 256 + c : Nat) : Int) := by
  rw [u64_or_nat _ _ (by omega) (by omega), nat_join 8 (n * 256) c (by simp) (by simpa using hc)]

set_option maxHeartbeats 400000 in
theorem sum1_any (Bs st : Nat) (s : ByteArray) (w : World) (hst : st < 18446744073709551616) (hs : s.size ≤ 8) (hv : w.heap[Bs]? = some (.cells #[.int .u64 (st : Int)] 145 (0, 0))) :
    Calls Tryz.prog 127 #[.string s, .pointer (some ⟨Bs, 0, none⟩)] w fun e w' => e = .returned (.tuple #[]) ∧ w'.heap[Bs]? = some (.cells #[.int .u64 ((Dg.mixN (st ^^^ Dg.blk s.data.toList) : Nat) : Int)] 145 (0, 0)) ∧ Below Bs w w' := by
  have hc := cell_of_one hv
  have hf := free_of_one hv
  have hlt := lt_of_block hv
  have hcp : (Builtin.copy_ #[125, 9] 3 #[.slice (some ⟨w.heap.size, 0, none⟩) 8 8, .string s]).run Tryz.prog (w.alloc (.cells #[.int .u8 0, .int .u8 0, .int .u8 0, .int .u8 0, .int .u8 0, .int .u8 0, .int .u8 0, .int .u8 0] 154)) =
      .ok (goInt s.size) (w.alloc (.cells (pieceCells s.data.toList) 154)) := by
    have h := Lib.run_copy_row_string (P := Tryz.prog) (w.alloc (.cells #[.int .u8 0, .int .u8 0, .int .u8 0, .int .u8 0, .int .u8 0, .int .u8 0, .int .u8 0, .int .u8 0] 154)) 125 9 3 5 w.heap.size 0 8 8 s _ 154 Tryz.underlying125 (by kernel_rfl) (heap_alloc_new w _) hs (by simpa using hs)
    rw [World.setRow_alloc_new, Lib.size_eq, pieceCells_eq _ (by rw [← Lib.size_eq]; exact hs)] at h
    exact h
  have hcell : ∀ k, k < 8 → (w.alloc (.cells (pieceCells s.data.toList) 154)).cell? ⟨w.heap.size, k, none⟩ = some (.int .u8 ((s.data.toList.getD k 0).toNat : Int)) := by
    intro k hk
    rw [World.cell?_alloc_at _ _ _ _ rfl, pieceCells_at _ _ hk]
  have HV := Lib.hid hv; clear hv
  generalize hP : pieceCells s.data.toList = pc at hcp hcell
  clear hP
  go_enter Tryz.func127, Tryz.ntmps127
  go_wp2_with fail
  go_loop [4, 5, 9] (fun n i c => ∃ k : Nat, k ≤ 8 ∧ c = .int .i64 k ∧ n = .int .u64 (blkTo s.data.toList k)) (fun _ _ c => 8 - (intOf c).toNat)
  case atStart => exact ⟨0, by omega, rfl, rfl⟩
  case round =>
    obtain ⟨k, hk, rfl, rfl⟩ := hrel
    by_cases hk8 : k < 8
    · have g := hcell k hk8
      clear hcell hcp
      have hb := Dg.byte_lt (s.data.toList.getD k 0)
      have hs := blkTo_small s.data.toList k hk8
      generalize hn : blkTo s.data.toList k = n at *
      generalize hcc : (s.data.toList.getD k 0).toNat = c at *
      have HN := Lib.hid hn; clear hn
      have HC := Lib.hid hcc; clear hcc
      go_wp2_with fail
      go_round
      case rel =>
        refine ⟨k + 1, by omega, by go_num, ?_⟩
        rw [blkTo, HN.out, HC.out, ← or_byte n c hs hb]; rfl
      case measure => simp [intOf]; omega
    · obtain rfl : k = 8 := by omega
      clear hcell hcp
      rw [blkTo_eight]
      have hb := Dg.blk_lt s.data.toList
      generalize hn : Dg.blk s.data.toList = n at *
      have HN := Lib.hid hn; clear hn
      have hx := u64_xor_nat st n hst hb
      have hxl := Dg.xor_lt hst hb
      generalize hy : st ^^^ n = y at hx hxl ⊢
      have HX := Lib.hid hx; clear hx
      have HY := Lib.hid hy; clear hy
      go_wp2_with fail
      rw [HX.out]
      refine (mix_any y hxl _).mono ?_
      rintro e w' ⟨rfl, rfl⟩
      go_wp2_with fail
      go_end0
      refine ⟨rfl, ?_, ?_⟩
      · rw [HN.out, HY.out, Below.heap_alloc _ _ _ (by simpa [World.setCell] using hlt)]
        exact one_setCell HV.out
      · exact ((Below.refl Bs w).setCell (p := ⟨Bs, 0, none⟩) (Nat.le_refl _) _).alloc (by simp [World.setCell]; omega) _

def digC (k : Nat) : Array Value := ((List.range 16).map fun i => Value.int .u8 (if i < k then ((Dg.hexD i).toNat : Int) else 0)).toArray
theorem digC_at (k i : Nat) (h : i < 16) : (digC k)[i]? = some (.int .u8 (if i < k then ((Dg.hexD i).toNat : Int) else 0)) := by simp [digC, h]

theorem digC_step (k : Nat) (v : Int) (hk : k < 16) (hv : v = ((Dg.hexD k).toNat : Int)) : (digC k).setIfInBounds k (.int .u8 v) = digC (k + 1) := by
  apply Array.ext_getElem?
  intro i
  by_cases hi : i < 16
  · rw [digC_at _ _ hi, Array.getElem?_setIfInBounds]
    by_cases e : k = i
    · subst e; rw [if_pos rfl, if_pos (by simpa [digC] using hk), if_pos (by omega), hv]
    · rw [if_neg e, digC_at _ _ hi]
      by_cases h1 : i < k
      · rw [if_pos h1, if_pos (by omega)]
      · rw [if_neg h1, if_neg (by omega)]
  · rw [Array.getElem?_eq_none (by simp [digC]; omega), Array.getElem?_eq_none (by simp [digC]; omega)]
theorem digC_low (k : Nat) (hk : k < 10) : (digC k).setIfInBounds k (.int .u8 (48 + (k : Int))) = digC (k + 1) := by
  refine digC_step k _ (by omega) ?_
  match k, hk with
  | 0, _ | 1, _ | 2, _ | 3, _ | 4, _ | 5, _ | 6, _ | 7, _ | 8, _ | 9, _ => rfl
theorem digC_high (k : Nat) (h : 10 ≤ k) (hk : k < 16) : (digC k).setIfInBounds k (.int .u8 (97 + (k : Int) - 10)) = digC (k + 1) := by
  refine digC_step k _ (by omega) ?_
  have : k = 10 ∨ k = 11 ∨ k = 12 ∨ k = 13 ∨ k = 14 ∨ k = 15 := by omega
  rcases this with rfl | rfl | rfl | rfl | rfl | rfl <;> rfl

set_option maxHeartbeats 400000 in
theorem digits_any (w : World) :
    Calls Tryz.prog 129 #[] w fun e w' => e = .returned (.agg (digC 16)) ∧ Below w.heap.size w w' := by
  have h0 : #[Value.int IntKind.u8 0, .int .u8 0, .int .u8 0, .int .u8 0, .int .u8 0, .int .u8 0, .int .u8 0, .int .u8 0, .int .u8 0, .int .u8 0, .int .u8 0, .int .u8 0, .int .u8 0, .int .u8 0, .int .u8 0, .int .u8 0] = digC 0 := by kernel_rfl
  go_enter Tryz.func129, Tryz.ntmps129
  go_wp2_with fail
  go_loopw [2, 3] (fun i c wr => ∃ k : Nat, k ≤ 16 ∧ c = .int .i64 k ∧ wr = (w.alloc (.cells (digC 0) 156)).alloc (.cells (digC k) 156)) (fun _ c _ => 16 - (intOf c).toNat)
  case atStart => exact ⟨0, by omega, rfl, by rw [← h0]⟩
  case round =>
    obtain ⟨k, hk, rfl, rfl⟩ := hrel
    by_cases hk16 : k < 16
    · have g := digC_at k k hk16
      rw [if_neg (by omega)] at g
      have hc : ((w.alloc (.cells (digC 0) 156)).alloc (.cells (digC k) 156)).cell? ⟨w.heap.size + 1, k, none⟩ = some (.int .u8 0) := by rw [World.cell?_alloc_at _ _ _ _ (by simp)]; exact g
      clear g h0
      have g2 : ((digC k).setIfInBounds k (Value.int IntKind.u8 (48 + (k : Int))))[k]? = some (Value.int IntKind.u8 (48 + (k : Int))) := by
        rw [Array.getElem?_setIfInBounds_self_of_lt (by simpa [digC] using hk16)]
      by_cases hk10 : k < 10
      · go_wp2_with fail
        go_roundw
        case rel => exact ⟨k + 1, by omega, by go_num, by rw [digC_low k hk10]⟩
        case measure => simp [intOf]; omega
      · go_wp2_with fail
        go_roundw
        case rel => exact ⟨k + 1, by omega, by go_num, by rw [digC_high k (by omega) hk16]⟩
        case measure => simp [intOf]; omega
    · obtain rfl : k = 16 := by omega
      clear h0
      have hg1 : ((w.alloc (.cells (digC 0) 156)).alloc (.cells (digC 16) 156)).heap[w.heap.size + 1]? = some (.cells (digC 16) 156 (0, 0)) := heap_alloc2_new w _ _
      have hg0 : ((w.alloc (.cells (digC 0) 156)).alloc (.cells (digC 16) 156)).heap[w.heap.size]? = some (.cells (digC 0) 156 (0, 0)) := heap_alloc2_old w _ _
      go_wp2_with (first
        | (refine wpList_load_row rfl 156 _ rfl (w.heap.size + 1) rfl 156 (digC 16) (0, 0) _ hg1 Tryz.underlying156 rfl (by kernel_rfl) ?_)
        | (refine wpList_store_row rfl 156 _ _ rfl w.heap.size (digC 16) rfl rfl 156 (digC 0) hg0 (by kernel_rfl) rfl (by kernel_rfl) ?_))
      refine bodyPost_ret (v := .agg (digC 16)) (results_cell_row rfl _ _ w.heap.size 156 (digC 16) (0, 0) _ rfl (setRow_heap _ _ _ _ _ _ hg0) Tryz.underlying156 rfl (by kernel_rfl)) rfl ⟨rfl, ?_⟩
      exact below_setRow (((Below.refl _ w).alloc (Nat.le_refl _) _).alloc (by simp) _) (Nat.le_refl _) _
end Go.Proofs.YteoclpjbeadkpaaGreatDoor
/- WALK: digest.Sum returns the digest. -/
namespace Go.Proofs.YteoclpjbeadkpaaGreatDoor
open Go.RowKit

def outC (n k : Nat) : Array Value := ((List.range 16).map fun i => Value.int .u8 (if i < k then ((Dg.hexD (n / 16 ^ (15 - i) % 16)).toNat : Int) else 0)).toArray
theorem outC_at (n k i : Nat) (h : i < 16) : (outC n k)[i]? = some (.int .u8 (if i < k then ((Dg.hexD (n / 16 ^ (15 - i) % 16)).toNat : Int) else 0)) := by simp [outC, h]

theorem outC_step (n k : Nat) (hk : k < 16) : (outC n k).setIfInBounds k (.int .u8 ((Dg.hexD (n / 16 ^ (15 - k) % 16)).toNat : Int)) = outC n (k + 1) := by
  apply Array.ext_getElem?
  intro i
  by_cases hi : i < 16
  · rw [outC_at _ _ _ hi, Array.getElem?_setIfInBounds]
    by_cases e : k = i
    · subst e; rw [if_pos rfl, if_pos (by simpa [outC] using hk), if_pos (by omega)]
    · rw [if_neg e, outC_at _ _ _ hi]
      by_cases h1 : i < k
      · rw [if_pos h1, if_pos (by omega)]
      · rw [if_neg h1, if_neg (by omega)]
  · rw [Array.getElem?_eq_none (by simp [outC]; omega), Array.getElem?_eq_none (by simp [outC]; omega)]
theorem nibble (n k : Nat) (hn : n < 18446744073709551616) (hk : k < 16) : ∃ j : Nat, j = n / 16 ^ (15 - k) % 16 ∧ j < 16 ∧ bits .and .u64 ((n : Int) / 2 ^ (60 - 4 * k)) 15 = (j : Int) := by
  refine ⟨_, rfl, Nat.mod_lt _ (by decide), ?_⟩
  have e : (2 : Nat) ^ (60 - 4 * k) = 16 ^ (15 - k) := by
    rw [show (16 : Nat) = 2 ^ 4 from rfl, ← Nat.pow_mul]; congr 1; omega
  have h1 : ((n : Int) / 2 ^ (60 - 4 * k)) = ((n / 16 ^ (15 - k) : Nat) : Int) := by rw [← e, Int.natCast_ediv, Int.natCast_pow]; rfl
  rw [h1]
  have h2 := u64_and_nat (n / 16 ^ (15 - k)) 15 (Nat.lt_of_le_of_lt (Nat.div_le_self _ _) hn) (by decide)
  rw [Nat.and_two_pow_sub_one_eq_mod _ 4] at h2
  exact h2

theorem hex_cells (fin : Nat) (w2 : World) (d : Array Value) (i : Nat) (h : i < 16) :
    ((w2.alloc (.cells d 156)).alloc (.cells (outC fin 16) 156)).cell? ⟨w2.heap.size + 1, 0 + i, none⟩ = some (.int .u8 (((Dg.hex16 fin).map fun c => ((c.toNat : Nat) : Int)).getD i 0)) := by
  rw [World.cell?_alloc_at _ _ _ _ (by simp), Nat.zero_add, outC_at _ _ _ h, if_pos h]
  simp [Dg.hex16, h]
theorem strOfNums_bytes (l : List UInt8) : strOfNums (l.map fun c => ((c.toNat : Nat) : Int)) = ⟨l.toArray⟩ := by
  unfold strOfNums
  congr 2
  rw [List.map_map]
  conv => rhs; rw [← List.map_id l]
  congr 1
  funext c
  simp

def strOf : Value → ByteArray | .string s => s | _ => ByteArray.empty

theorem len_xor (n : Nat) (h : n < 18446744073709551616) : bits .xor .u64 1442695040888963407 (n : Int) = ((1442695040888963407 ^^^ n : Nat) : Int) :=
  u64_xor_nat 1442695040888963407 n (by decide) h

theorem absorb_next (st : Nat) (s : ByteArray) (h : 8 ≤ s.size) : Dg.absorb st s.data.toList = Dg.absorb (Dg.mixN (st ^^^ Dg.blk (s.extract 0 8).data.toList)) (s.extract 8 s.size).data.toList := by
  rw [Lib.extract_to_end, Lib.extract_data]
  have e : s.data.toList = s.data.toList.take 8 ++ s.data.toList.drop 8 := (List.take_append_drop 8 _).symm
  rw [show (s.data.toList.drop 0).take (8 - 0) = s.data.toList.take 8 from rfl]
  conv => lhs; rw [e]
  rw [Dg.absorb_cons8 _ (by rw [List.length_take, ← Lib.size_eq]; omega)]

set_option maxHeartbeats 400000 in
set_option maxRecDepth 100000 in
theorem sum_any (s : ByteArray) (w : World) (hs : s.size ≤ 140737488355328) :
    Calls Tryz.prog 96 #[.string s] w fun e w' => e = .returned (.string ⟨(Dg.sumL s.data.toList).toArray⟩) ∧ Below w.heap.size w w' := by
  have hx := len_xor s.size (by omega)
  have hst0 := Dg.start_lt (n := s.size) (by omega)
  generalize hst : 1442695040888963407 ^^^ s.size = st0 at hx hst0
  have HST := Lib.hid hst; clear hst
  have HX := Lib.hid hx; clear hx
  go_enter Tryz.func96, Tryz.ntmps96
  go_wp2_with fail
  rw [HX.out]
  go_loopw [0] (fun t wr => ∃ (p : ByteArray) (st : Nat), t = .string p ∧ p.size ≤ s.size ∧ st < 18446744073709551616 ∧ wr.heap[w.heap.size]? = some (.cells #[.int .u64 (st : Int)] 145 (0, 0)) ∧ Below w.heap.size w wr ∧ Dg.absorb st p.data.toList = Dg.absorb st0 s.data.toList) (fun t _ => (strOf t).size)
  case atStart => exact ⟨s, st0, rfl, Nat.le_refl _, hst0, heap_alloc_new w _, (Below.refl _ w).alloc (Nat.le_refl _) _, rfl⟩
  case round =>
    obtain ⟨p, st, rfl, hp, hst, hv, hb, ha⟩ := hrel
    by_cases h8 : 8 ≤ p.size
    · have HA := Lib.hid ha; clear ha
      have HN := Lib.hid (absorb_next st p h8)
      have HV := Lib.hid hv; clear hv
      go_wp2_with fail
      refine (sum1_any w.heap.size st (p.extract 0 8) _ hst (by simp; omega) HV.out).mono ?_
      rintro e w1 ⟨rfl, hv1, hb1⟩
      have HV1 := Lib.hid hv1; clear hv1
      go_wp2_with fail
      go_roundw
      case rel => exact ⟨p.extract 8 p.size, _, rfl, by simp; omega, Dg.mixN_lt _, HV1.out, hb.trans hb1, by rw [← HN.out]; exact HA.out⟩
      case measure => simp [strOf]; omega
    · have HA := Lib.hid ha; clear ha
      have HV := Lib.hid hv; clear hv
      go_wp2_with fail
      refine (sum1_any w.heap.size st p _ hst (by omega) HV.out).mono ?_
      rintro e w1 ⟨rfl, hv1, hb1⟩
      have hb2 := hb.trans hb1
      clear hb1 hb
      have ha := HA.out
      rw [Dg.absorb_short _ (by rw [← Lib.size_eq]; omega)] at ha
      rw [ha] at hv1
      have hfl := Dg.absorb_lt s.data.toList st0
      have hfin : Dg.hex16 (Dg.absorb st0 s.data.toList) = Dg.sumL s.data.toList := by unfold Dg.sumL; rw [← Lib.size_eq, HST.out]
      generalize hf : Dg.absorb st0 s.data.toList = fin at hv1 hfl hfin
      have HFIN := Lib.hid hfin; clear hfin hf ha HA HST HX HV
      have hz : w.heap.size < w1.heap.size := lt_of_block hv1
      go_wp2_with fail
      refine (digits_any w1).mono ?_
      rintro e w2 ⟨rfl, hb3⟩
      have hv2 : w2.heap[w.heap.size]? = some (.cells #[.int .u64 (fin : Int)] 145 (0, 0)) := by rw [hb3.block _ hz]; exact hv1
      have hz2 := hb3.size
      have hb4 := hb2.trans (hb3.mono (by omega))
      clear hv1 hb2 hb3
      have hsc := run_storeCells_new (P := Tryz.prog) w2 156 #[.int .u8 0, .int .u8 0, .int .u8 0, .int .u8 0, .int .u8 0, .int .u8 0, .int .u8 0, .int .u8 0, .int .u8 0, .int .u8 0, .int .u8 0, .int .u8 0, .int .u8 0, .int .u8 0, .int .u8 0, .int .u8 0] (digC 16) (by kernel_rfl) rfl (by kernel_rfl)
      have hds : (digC 16).size = 16 := rfl
      have hdat := fun i hi => digC_at 16 i hi
      generalize hd : digC 16 = d16 at hsc hds hdat ⊢
      clear hd
      go_wp2_with fail
      have h0 : (#[.int .u8 0, .int .u8 0, .int .u8 0, .int .u8 0, .int .u8 0, .int .u8 0, .int .u8 0, .int .u8 0, .int .u8 0, .int .u8 0, .int .u8 0, .int .u8 0, .int .u8 0, .int .u8 0, .int .u8 0, .int .u8 0] : Array Value) = outC fin 0 := by kernel_rfl
      rw [h0]
      go_loopw [7, 26] (fun _ c W => ∃ k : Nat, k ≤ 16 ∧ c = .int .i64 k ∧ W = (w2.alloc (.cells d16 156)).alloc (.cells (outC fin k) 156)) (fun _ c _ => 16 - (intOf c).toNat)
      case atStart => exact ⟨0, by omega, rfl, rfl⟩
      case round =>
        obtain ⟨k, hk, rfl, rfl⟩ := hrel
        clear h0 hsc
        by_cases hk16 : k < 16
        · obtain ⟨j, hj, hj16, hi⟩ := nibble fin k hfl hk16
          have hcS : ((w2.alloc (.cells d16 156)).alloc (.cells (outC fin k) 156)).cell? ⟨w.heap.size, 0, none⟩ = some (.int .u64 (fin : Int)) := by
            rw [World.cell?_alloc_old _ _ _ (by simp; omega), World.cell?_alloc_old _ _ _ (by simp; omega)]
            exact cell_of_one hv2
          have hcD : ((w2.alloc (.cells d16 156)).alloc (.cells (outC fin k) 156)).cell? ⟨w2.heap.size, j, none⟩ = some (.int .u8 ((Dg.hexD j).toNat : Int)) := by
            rw [World.cell?_alloc_old _ _ _ (by simp), World.cell?_alloc_at _ _ _ _ rfl, hdat j hj16, if_pos hj16]
          have hcO : ((w2.alloc (.cells d16 156)).alloc (.cells (outC fin k) 156)).cell? ⟨w2.heap.size + 1, k, none⟩ = some (.int .u8 0) := by
            rw [World.cell?_alloc_at _ _ _ _ (by simp), outC_at _ _ _ hk16, if_neg (by omega)]
          have HS := Lib.hid (outC_step fin k hk16); have HJ := Lib.hid hj; clear hj hdat hv2
          generalize hc : ((Dg.hexD j).toNat : Int) = c at hcD
          have HC := Lib.hid hc; clear hc
          go_wp2_with fail
          go_roundw
          case rel => exact ⟨k + 1, by omega, by go_num, by rw [← HS.out, ← HJ.out, HC.out]⟩
          case measure => simp [intOf]; omega
        · obtain rfl : k = 16 := by omega
          have hcv := run_convert_bytes_arg (P := Tryz.prog) (w := (w2.alloc (.cells d16 156)).alloc (.cells (outC fin 16) 156)) 125 5 Tryz.underlying125 Tryz.underlying5 (w2.heap.size + 1) 0 16 16 ((Dg.hex16 fin).map fun c => ((c.toNat : Nat) : Int)) (by simp [Dg.hex16]) (hex_cells fin w2 d16)
          have HE := Lib.hid (strOfNums_bytes (Dg.hex16 fin))
          go_wp2_with fail
          go_ret
          exact ⟨congrArg (fun x => Ending.returned (Value.string x)) (HE.out.trans (congrArg (fun l : List UInt8 => (⟨l.toArray⟩ : ByteArray)) HFIN.out)), (hb4.alloc (by omega) _).alloc (by simp; omega) _⟩
end Go.Proofs.YteoclpjbeadkpaaGreatDoor
/- WALKS: digest.List, digest.Chain, digest.Is. -/
namespace Go.Proofs.YteoclpjbeadkpaaGreatDoor
open Go.RowKit

/-- the table of the powers of ten, as its initialiser lays it -/
def Tab (w : World) : Prop := Lib.TabIs Tryz.prog w "internal/strconv.uint64pow10" .u64 Lib.pow10Tab
theorem gTab10 : Tryz.prog.globalNamed "internal/strconv.uint64pow10" = some 0 := by kernel_rfl
theorem Tab.below {w w' : World} (h : Tab w) {B : Nat} (hb : Below B w w') (hB : w.heap.size ≤ B) : Tab w' := Joins.tab_stays gTab10 h hb hB

/-- a slice that holds strings -/
def HasStrs (w : World) (v : Value) (ss : List (List UInt8)) : Prop :=
  (ss = [] ∧ ∃ a c, v = .slice a 0 c) ∨ (0 < ss.length ∧ ∃ b off c, v = .slice (some ⟨b, off, none⟩) ss.length c ∧ b < w.heap.size ∧ ∀ j, j < ss.length → w.cell? ⟨b, off + j, none⟩ = some (.string ⟨(ss.getD j []).toArray⟩))
theorem HasStrs.below {w w' : World} {v : Value} {ss : List (List UInt8)} (h : HasStrs w v ss) {B : Nat} (hb : Below B w w') (hB : w.heap.size ≤ B) : HasStrs w' v ss := by
  rcases h with h | ⟨h0, b, off, c, rfl, hlt, hc⟩
  · exact Or.inl h
  · exact Or.inr ⟨h0, b, off, c, rfl, Nat.lt_of_lt_of_le hlt hb.size, fun j hj => (hb.cell (p := ⟨b, off + j, none⟩) (by show b < B; omega)).trans (hc j hj)⟩

theorem below_drewN (B : Nat) (w : World) : ∀ n, Below B w (w.drewN n)
  | 0 => Below.refl _ _
  | n + 1 => (below_drewN B w n).drew
theorem below_grow (w : World) (k : Nat) (os : Array Obj) : Below w.heap.size w (Go.Sort.grow (w.drewN k) os) :=
  (below_drewN _ w k).trans ⟨rfl, rfl, rfl, by simp [Go.Sort.grow], fun j hj => by
    show ((w.drewN k).heap ++ os)[j]? = (w.drewN k).heap[j]?
    rw [Array.getElem?_append_left (by simpa using hj)]⟩
theorem own_below {B : Nat} {e : TypeId} {k : Nat} {v : Value} {n : Nat} {xs : List Value} {w w' : World} (h : w.ownsRow B e k v n xs) (hb : Below w.heap.size w w') : w'.ownsRow B e k v n xs :=
  h.kept (row := none) ⟨hb.os, hb.tape, hb.output, hb.size, fun j hj _ => hb.block j hj⟩ (by cases hv : v.ownBlock <;> simp)
theorem builderAt_below {T e : TypeId} {B b : Nat} {p : Value} {bs : List Value} {W W' : World} (h : Lib.BuilderAt T e B b p bs W) (hb : Below W.heap.size W W') : Lib.BuilderAt T e B b p bs W' := by
  have hlt := h.lt
  obtain ⟨hB, v, hv, hown, hne⟩ := h
  exact ⟨hB, v, (hb.block b hlt).trans hv, own_below hown hb, hne⟩
theorem builder_below {T e : TypeId} {B b : Nat} {bs : List Value} {W W' : World} (h : Lib.IsBuilder T e B b bs W) (hb : Below W.heap.size W W') : Lib.IsBuilder T e B b bs W' :=
  h.elim (fun x => .inl (builderAt_below x hb)) (fun x => .inr (builderAt_below x hb))

theorem itoa_any (n : Nat) (hn : n ≤ 9223372036854775807) (w : World) (ht : Tab w) :
    Calls Tryz.prog 53 #[.int .i64 (n : Int)] w fun e w' => e = .returned (.string ⟨(Dg.decN n).toArray⟩) ∧ Below w.heap.size w w' :=
  (Tryz.strconv_Itoa (n : Int) (by omega) (by omega) w ht).mono fun _ _ ⟨h1, k, os, h2⟩ => by
    rw [Dg.itoa_nat n (by omega)] at h1
    exact ⟨h1, by rw [h2]; exact below_grow w k os⟩

theorem joinL_take (ss : List (List UInt8)) (k : Nat) (h : k < ss.length) : Dg.joinL (ss.take (k + 1)) = Dg.joinL (ss.take k) ++ Dg.item (ss.getD k []) := by
  rw [List.take_succ_eq_append_getElem h, Dg.joinL_snoc]
  simp [List.getD, List.getElem?_eq_getElem h]
theorem joinL_take_le (ss : List (List UInt8)) (k : Nat) : (Dg.joinL (ss.take k)).length ≤ (Dg.joinL ss).length := by
  conv => rhs; rw [← List.take_append_drop k ss, Dg.joinL_append]
  simp

theorem joinL_count (ss : List (List UInt8)) : ss.length ≤ (Dg.joinL ss).length := by
  induction ss with
  | nil => simp
  | cons s r ih => have := Dg.item_length s; rw [Dg.joinL, List.length_append, List.length_cons]; omega
theorem mk_append (x y : List UInt8) : ((⟨x.toArray⟩ : ByteArray) ++ (⟨y.toArray⟩ : ByteArray)) = ⟨(x ++ y).toArray⟩ := by
  rw [ByteArray.mk_append_mk]
theorem strCells_mk (l : List UInt8) : Lib.strCells ⟨l.toArray⟩ = Lib.byteCells l := rfl
theorem byteCells_append (x y : List UInt8) : Lib.byteCells (x ++ y) = Lib.byteCells x ++ Lib.byteCells y := by simp [Lib.byteCells]

set_option maxHeartbeats 400000 in
set_option maxRecDepth 100000 in
theorem list_any (ss : List (List UInt8)) (v : Value) (w : World) (ht : Tab w) (hv : HasStrs w v ss) (hJ : (Dg.joinL ss).length ≤ 140737488355328) :
    Calls Tryz.prog 52 #[v] w fun e w' => e = .returned (.string ⟨(Dg.listL ss).toArray⟩) ∧ Below w.heap.size w w' := by
  rcases hv with ⟨rfl, a, c, rfl⟩ | ⟨h0, b, off, c, rfl, hlt, hc⟩
  · go_enter Tryz.func52, Tryz.ntmps52
    go_wp2_with fail
    refine wp_loop_rounds 1 ?_
    rw [rounds_succ]
    go_wp2_with fail
    have hB := Lib.fresh_isBuilder 130 5 w
    refine (Tryz.Builder_String_any w.heap.size w.heap.size [] _ hB (by simp)).mono ?_
    rintro e w1 ⟨rfl, hb1⟩
    have hb2 := ((Below.refl _ w).alloc (Nat.le_refl _) _).trans hb1
    clear hb1 hB
    go_wp2_with fail
    refine (sum_any ⟨#[]⟩ _ (by decide)).mono ?_
    rintro e w2 ⟨rfl, hb3⟩
    have hb4 := hb2.trans (hb3.mono hb2.size)
    clear hb2 hb3
    go_wp2_with fail
    go_ret
    exact ⟨rfl, hb4⟩
  · have hss : ss.length ≤ 140737488355328 := Nat.le_trans (joinL_count ss) hJ
    go_enter Tryz.func52, Tryz.ntmps52
    go_wp2_with fail
    go_loopw [5, 8] (fun _ c wr => ∃ k : Nat, k ≤ ss.length ∧ c = .int .i64 k ∧ Lib.IsBuilder 130 5 w.heap.size w.heap.size (Lib.byteCells (Dg.joinL (ss.take k))) wr ∧ Below w.heap.size w wr) (fun _ c _ => ss.length - (intOf c).toNat)
    case atStart => exact ⟨0, by omega, rfl, Lib.fresh_isBuilder _ _ _, (Below.refl _ w).alloc (Nat.le_refl _) _⟩
    case round =>
      obtain ⟨k, hk, rfl, hB, hb⟩ := hrel
      have hsz := hb.size
      by_cases hkl : k < ss.length
      · have hck := (hb.cell (p := ⟨b, off + k, none⟩) hlt).trans (hc k hkl)
        have hj := joinL_take ss k hkl
        have hle := joinL_take_le ss (k + 1)
        generalize ss.getD k [] = s at hck hj
        rw [hj, List.length_append] at hle
        have hil := Dg.item_length s
        have HJ := Lib.hid hj; clear hj hc
        have htr := ht.below hb (Nat.le_refl _)
        go_wp2_with fail
        refine (itoa_any s.length (by omega) _ htr).mono ?_
        rintro e w1 ⟨rfl, hb1⟩
        have hB1 := builder_below hB hb1
        have hb2 := hb.trans (hb1.mono hsz)
        clear hB hb hb1 htr hck
        have hcat : (⟨(Dg.decN s.length).toArray⟩ ++ ⟨#[58]⟩ ++ ⟨s.toArray⟩ : ByteArray) = ⟨(Dg.item s).toArray⟩ := by
          rw [mk_append, mk_append]; simp [Dg.item]
        have HC := Lib.hid hcat; clear hcat
        have hdl := Dg.decN_length s.length
        generalize Dg.decN s.length = d at hdl HC ⊢
        go_wp2_with fail
        rw [HC.out]
        refine (Tryz.Builder_WriteString w.heap.size w.heap.size _ ⟨(Dg.item s).toArray⟩ _ hB1 (by rw [Lib.byteCells_length]; show _ + (Dg.item s).length ≤ _; omega) hb2.size).mono ?_
        rintro e w2 ⟨rfl, hB3, hb3⟩
        have hb4 := hb2.trans hb3
        rw [strCells_mk, ← byteCells_append, ← HJ.out] at hB3
        clear hB1 hb2 hb3
        go_wp2_with fail
        go_roundw
        case rel => exact ⟨k + 1, by omega, by go_num, Or.inr hB3, hb4⟩
        case measure => simp [intOf]; omega
      · obtain rfl : k = ss.length := by omega
        rw [List.take_length] at hB
        clear hc
        go_wp2_with fail
        refine (Tryz.Builder_String_any w.heap.size w.heap.size _ _ hB hb.size).mono ?_
        rintro e w1 ⟨rfl, hb1⟩
        have hb2 := hb.trans hb1
        clear hb hb1 hB
        go_wp2_with fail
        refine (sum_any ⟨(Dg.joinL ss).toArray⟩ _ (by show (Dg.joinL ss).length ≤ _; exact hJ)).mono ?_
        rintro e w2 ⟨rfl, hb3⟩
        have hb4 := hb2.trans (hb3.mono hb2.size)
        clear hb2 hb3
        go_wp2_with fail
        go_ret
        exact ⟨rfl, hb4⟩

set_option maxHeartbeats 400000 in
theorem chain_any (l : List UInt8) (n : Int) (w : World) (hl : l.length ≤ 140737488355328) (h0 : -9223372036854775808 ≤ n) (h1 : n ≤ 9223372036854775807) :
    Calls Tryz.prog 79 #[.string ⟨l.toArray⟩, .int .i64 n] w fun e w' => e = .returned (.string ⟨(Dg.chainL (max 0 (min n 1000)).toNat l).toArray⟩) ∧ Below w.heap.size w w' := by
  obtain ⟨m, hm, hm2⟩ : ∃ m : Nat, max 0 (min n 1000) = (m : Int) ∧ m ≤ 1000 := ⟨(max 0 (min n 1000)).toNat, by omega, by omega⟩
  rw [hm, Int.toNat_natCast]
  go_enter Tryz.func79, Tryz.ntmps79
  go_wp2_with fail
  clear hm h0 h1
  generalize min n 1000 = q
  go_loopw [0, 8] (fun t c wr => ∃ k : Nat, k ≤ m ∧ c = .int .i64 k ∧ t = .string ⟨(Dg.chainL k l).toArray⟩ ∧ Below w.heap.size w wr) (fun _ c _ => m - (intOf c).toNat)
  case atStart => exact ⟨0, by omega, rfl, rfl, Below.refl _ _⟩
  case round =>
    obtain ⟨k, hk, rfl, rfl, hb⟩ := hrel
    have hsz : (Dg.chainL k l).length ≤ 140737488355328 := by
      rcases Nat.eq_zero_or_pos k with e | e
      · subst e; exact hl
      · obtain ⟨j, rfl⟩ : ∃ j, k = j + 1 := ⟨k - 1, by omega⟩
        rw [Dg.chainL_succ, Dg.sumL_length]; omega
    by_cases hkm : k < m
    · have HS := Lib.hid (Dg.chainL_succ k l)
      generalize Dg.chainL k l = p at hsz HS ⊢
      go_wp2_with fail
      refine (sum_any ⟨p.toArray⟩ _ (by show p.length ≤ _; exact hsz)).mono ?_
      rintro e w1 ⟨rfl, hb1⟩
      have hb2 := hb.trans (hb1.mono hb.size)
      clear hb hb1
      go_wp2_with fail
      go_roundw
      case rel => exact ⟨k + 1, by omega, by go_num, by rw [HS.out], hb2⟩
      case measure => simp [intOf]; omega
    · obtain rfl : k = m := by omega
      go_wp2_with fail
      go_ret
      exact ⟨rfl, hb⟩

/-- the cutset of digest.Is -/
def hexSet : List UInt8 := [48, 49, 50, 51, 52, 53, 54, 55, 56, 57, 97, 98, 99, 100, 101, 102]
theorem hexSet_contains : ∀ c : Fin 256, hexSet.contains (UInt8.ofNat c.val) = Dg.isHex (UInt8.ofNat c.val) := by decide +kernel
theorem hexSet_isHex (c : UInt8) : hexSet.contains c = Dg.isHex c := by
  have := hexSet_contains ⟨c.toNat, c.toNat_lt⟩
  simpa using this
theorem trimL_nil (cs : List UInt8) : ∀ l : List UInt8, (l.dropWhile (cs.contains ·)) = [] ↔ ∀ c ∈ l, cs.contains c = true := by
  intro l
  induction l with
  | nil => simp
  | cons x r ih =>
    rw [List.dropWhile_cons]
    by_cases h : cs.contains x = true
    · rw [if_pos h, ih]; simp only [List.mem_cons, forall_eq_or_imp, h, true_and]
    · rw [if_neg h]
      constructor
      · intro h2; cases h2
      · intro h2; exact absurd (h2 x (by simp)) h
theorem trimS_nil (cs l : List UInt8) : Lib.trimS l cs = [] ↔ ∀ c ∈ l, cs.contains c = true := by
  unfold Lib.trimS Lib.trimLeftS Lib.trimRightS
  rw [trimL_nil]
  constructor
  · intro h c hc
    by_cases e : (l.reverse.dropWhile (cs.contains ·)) = []
    · exact (trimL_nil cs l.reverse).1 e c (by simpa using hc)
    · obtain ⟨x, r, hx⟩ := List.exists_cons_of_ne_nil e
      have h1 := h x (by rw [hx]; simp)
      have h2 := List.head?_dropWhile_not (cs.contains ·) l.reverse
      rw [hx] at h2
      simp at h2
      rw [List.contains_iff_mem] at h1
      exact absurd h1 h2
  · intro h c hc
    have : c ∈ l.reverse := (List.dropWhile_sublist _).mem (by simpa using hc)
    exact h c (by simpa using this)
theorem trimS_isL (l : List UInt8) : (Lib.trimS l hexSet).isEmpty = l.all Dg.isHex := by
  rw [Bool.eq_iff_iff, List.isEmpty_iff, trimS_nil, List.all_eq_true]
  simp only [hexSet_isHex]

theorem trim_any (l : List UInt8) (w : World) (hl : l.length ≤ 140737488355328) :
    Calls Tryz.prog 102 #[.string ⟨l.toArray⟩, .string ⟨#[48, 49, 50, 51, 52, 53, 54, 55, 56, 57, 97, 98, 99, 100, 101, 102]⟩] w fun e w' => e = .returned (.string ⟨(Lib.trimS l hexSet).toArray⟩) ∧ Below w.heap.size w w' :=
  Any.strings_Trim_laid Tryz.lays160 (by kernel_rfl) ⟨l.toArray⟩ ⟨hexSet.toArray⟩ w (by show l.length ≤ _; omega) (by decide) (ascii_of_all (by decide))

set_option maxHeartbeats 400000 in
theorem is_any (l : List UInt8) (w : World) (hl : l.length ≤ 140737488355328) :
    Calls Tryz.prog 58 #[.string ⟨l.toArray⟩] w fun e w' => e = .returned (.bool (Dg.isL l)) ∧ Below w.heap.size w w' := by
  unfold Dg.isL
  by_cases h : l.length = 16
  · have hb : ((l.length : Int) == 16) = true := by simp [h]
    have hbn : (l.length == 16) = true := by simp [h]
    have H := Lib.hid hbn; clear hbn h
    rw [H.out, ← trimS_isL]
    go_enter Tryz.func58, Tryz.ntmps58
    go_wp2_with fail
    refine (trim_any l _ hl).mono ?_
    rintro e w1 ⟨rfl, hb1⟩
    generalize ht : Lib.trimS l hexSet = t
    have HT := Lib.hid ht; clear ht
    go_wp2_with fail
    go_ret
    exact ⟨by rw [HT.out]; rfl, hb1⟩
  · have hb : ((l.length : Int) == 16) = false := by rw [beq_eq_false_iff_ne]; omega
    have hbn : (l.length == 16) = false := by simp [h]
    have H := Lib.hid hbn; clear hbn h
    rw [H.out]
    go_enter Tryz.func58, Tryz.ntmps58
    go_wp2_with fail
    go_ret
    exact ⟨rfl, Below.refl _ _⟩
end Go.Proofs.YteoclpjbeadkpaaGreatDoor
/- WALKS: the reference mix and Sum of layer 1 return what the plain functions say. -/
namespace Go.Proofs.YteoclpjbeadkpaaGreatDoor
open Go.RowKit

theorem wrapMul (x c : Nat) : IntKind.u64.wrap ((x : Int) * (c : Int)) = ((mulN x c : Nat) : Int) := by
  rw [← Int.natCast_mul, IntKind.wrap_u64]
  unfold mulN
  omega

set_option maxHeartbeats 400000 in
theorem rmix_any (x : Nat) (w : World) :
    Calls Tryz.prog 112 #[.int .u64 (x : Int)] w fun e w' => e = .returned (.int .u64 ((Dg.mixN x : Nat) : Int)) ∧ w = w' := by
  rw [mix_eq]
  go_enter Tryz.func112, Tryz.ntmps112
  go_wp2_with fail
  have e0 := wrapMul x 6364136223846793005
  rw [show ((6364136223846793005 : Nat) : Int) = 6364136223846793005 from rfl] at e0
  rw [e0]
  have b1 := mulN_lt x 6364136223846793005
  have b2 := xsN_lt 2147483648 b1
  rw [xs_eq31 _ b1]
  have e := wrapMul (xsN (mulN x 6364136223846793005) 2147483648) 3202034522624059733
  rw [show ((3202034522624059733 : Nat) : Int) = 3202034522624059733 from rfl] at e
  rw [e, xs_eq30 _ (mulN_lt _ _)]
  go_ret
  exact ⟨rfl, rfl⟩

theorem byte_add (b : Nat) (x : UInt8) (hs : b < 72057594037927936) : IntKind.u64.wrap ((b : Int) * 256 + IntKind.u64.wrap (x.toNat : Int)) = ((b * 256 + x.toNat : Nat) : Int) := by
  have := Dg.byte_lt x
  rw [IntKind.wrap_u64, IntKind.wrap_u64]; omega
theorem getD_drop (l : List UInt8) (a k : Nat) : (l.drop a).getD k 0 = l.getD (a + k) 0 := by simp [List.getD, List.getElem?_drop]
theorem byte_at (l : List UInt8) (i : Nat) (h : i < l.length) : ((⟨l.toArray⟩ : ByteArray)[i]'(by show i < l.length; exact h)) = l.getD i 0 := by
  simp [List.getD, List.getElem?_eq_getElem h]; rfl
theorem getD_end (l : List UInt8) (i : Nat) (h : ¬ i < l.length) : l.getD i 0 = 0 := by simp [List.getD, List.getElem?_eq_none (show l.length ≤ i by omega)]
theorem blk_take (l : List UInt8) : Dg.blk (l.take 8) = Dg.blk l := by
  unfold Dg.blk
  simp only [List.getD, List.getElem?_take, show (0 : Nat) < 8 by decide, show (1 : Nat) < 8 by decide, show (2 : Nat) < 8 by decide, show (3 : Nat) < 8 by decide, show (4 : Nat) < 8 by decide, show (5 : Nat) < 8 by decide, show (6 : Nat) < 8 by decide, show (7 : Nat) < 8 by decide, if_true]
theorem hex_drop (n k : Nat) (hk : k < 16) : (Dg.hex16 n).drop (16 - (k + 1)) = Dg.hexD (n / 16 ^ k % 16) :: (Dg.hex16 n).drop (16 - k) := by
  have h : 16 - (k + 1) < (Dg.hex16 n).length := by rw [Dg.hex16_length]; omega
  rw [List.drop_eq_getElem_cons h, show 16 - (k + 1) + 1 = 16 - k by omega]
  congr 1
  simp only [Dg.hex16, List.getElem_map, List.getElem_range]
  rw [show 15 - (16 - (k + 1)) = k by omega]
theorem hex_extract : ∀ m : Fin 16, (⟨#[48, 49, 50, 51, 52, 53, 54, 55, 56, 57, 97, 98, 99, 100, 101, 102]⟩ : ByteArray).extract m.val (m.val + 1) = ⟨#[Dg.hexD m.val]⟩ := by decide +kernel
theorem hex_slice (q : Nat) : ∀ W : World, (Instr.slice 9 (.string ⟨#[48, 49, 50, 51, 52, 53, 54, 55, 56, 57, 97, 98, 99, 100, 101, 102]⟩) (some (.int .u64 ((q : Int) % 16))) (some (.int .u64 ((q : Int) % 16 + 1))) none).run Tryz.prog W = .ok (.string ⟨#[Dg.hexD (q % 16)]⟩) W := by
  intro W
  have e : ((q : Int) % 16) = ((q % 16 : Nat) : Int) := by omega
  have h := hex_extract ⟨q % 16, Nat.mod_lt _ (by decide)⟩
  have h3 : ((q % 16 : Nat) : Int) + 1 ≤ ((⟨#[48, 49, 50, 51, 52, 53, 54, 55, 56, 57, 97, 98, 99, 100, 101, 102]⟩ : ByteArray).size : Int) := by
    show ((q % 16 : Nat) : Int) + 1 ≤ 16
    omega
  rw [e, run_slice_string W 9 _ .u64 .u64 _ _ Tryz.underlying9 (by omega) (by omega) h3, ← h]
  rfl
theorem rsum_next (l : List UInt8) (n j st0 : Nat) (h : 8 * j ≤ l.length) (ha : Dg.absorb n (l.drop (8 * j)) = Dg.absorb st0 l) :
    (8 * (j + 1) ≤ l.length ∧ Dg.absorb (Dg.mixN (n ^^^ Dg.blk (l.drop (8 * j)))) (l.drop (8 * (j + 1))) = Dg.absorb st0 l) ∨ (l.length < 8 * (j + 1) ∧ 8 * (j + 1) ≤ l.length + 8 ∧ Dg.mixN (n ^^^ Dg.blk (l.drop (8 * j))) = Dg.absorb st0 l) := by
  by_cases h8 : 8 * (j + 1) ≤ l.length
  · refine Or.inl ⟨h8, ?_⟩
    have e : l.drop (8 * j) = (l.drop (8 * j)).take 8 ++ l.drop (8 * (j + 1)) := by
      rw [show 8 * (j + 1) = 8 * j + 8 by omega, ← List.drop_drop, List.take_append_drop]
    rw [e, Dg.absorb_cons8 _ (by simp; omega)] at ha
    rw [blk_take] at ha
    exact ha
  · refine Or.inr ⟨by omega, by omega, ?_⟩
    rw [Dg.absorb_short _ (by simp; omega)] at ha
    exact ha

set_option maxHeartbeats 400000 in
set_option maxRecDepth 100000 in
theorem rsum_any (l : List UInt8) (w : World) (hl : l.length ≤ 140737488355328) :
    Calls Tryz.prog 69 #[.string ⟨l.toArray⟩] w fun e w' => e = .returned (.string ⟨(Dg.sumL l).toArray⟩) ∧ w = w' := by
  have hx := len_xor l.length (by omega)
  have hst0 := Dg.start_lt (n := l.length) (by omega)
  generalize hst : 1442695040888963407 ^^^ l.length = st0 at hx hst0
  have HST := Lib.hid hst; clear hst
  have HX := Lib.hid hx; clear hx
  go_enter Tryz.func69, Tryz.ntmps69
  go_wp2_with fail
  rw [HX.out]
  go_loop [3, 4, 5, 6] (fun st f _ _ => ∃ (j n : Nat), f = .int .i64 (8 * j : Nat) ∧ st = .int .u64 (n : Int) ∧ n < 18446744073709551616 ∧
      ((8 * j ≤ l.length ∧ Dg.absorb n (l.drop (8 * j)) = Dg.absorb st0 l) ∨ (l.length < 8 * j ∧ 8 * j ≤ l.length + 8 ∧ n = Dg.absorb st0 l)))
    (fun _ f _ _ => l.length + 16 - (intOf f).toNat)
  case atStart => exact ⟨0, st0, rfl, rfl, hst0, Or.inl ⟨by omega, rfl⟩⟩
  case round =>
    obtain ⟨j, n, rfl, rfl, hn, hrel⟩ := hrel
    by_cases h8 : 8 * j ≤ l.length
    · go_wp2_with fail
      go_loop [5, 6] (fun b i => ∃ k : Nat, k ≤ 8 ∧ i = .int .i64 ((8 * j + k : Nat) : Int) ∧ b = .int .u64 ((blkTo (l.drop (8 * j)) k : Nat) : Int)) (fun _ i => 8 * j + 8 - (intOf i).toNat)
      case atStart => exact ⟨0, by omega, by simp, rfl⟩
      case round =>
        obtain ⟨k, hk, rfl, rfl⟩ := hrel
        by_cases hk8 : k < 8
        · have hs := blkTo_small (l.drop (8 * j)) k hk8
          generalize hb : blkTo (l.drop (8 * j)) k = b at hs ⊢
          have HB := Lib.hid hb; clear hb
          by_cases hin : 8 * j + k < l.length
          · go_wp2_with fail
            go_round
            case rel => exact ⟨k + 1, by omega, by go_num, by rw [blkTo, HB.out, byte_add b _ hs, getD_drop, byte_at l (8 * j + k) hin]⟩
            case measure => simp [intOf]; omega
          · go_wp2_with fail
            go_round
            case rel => exact ⟨k + 1, by omega, by go_num, by rw [blkTo, HB.out, getD_drop, getD_end l _ hin]; rfl⟩
            case measure => simp [intOf]; omega
        · obtain rfl : k = 8 := by omega
          rw [blkTo_eight]
          have hb := Dg.blk_lt (l.drop (8 * j))
          have hx := u64_xor_nat n (Dg.blk (l.drop (8 * j))) hn hb
          have HX := Lib.hid hx; clear hx
          rcases hrel with ⟨h1, h2⟩ | h2
          · have HN := Lib.hid (rsum_next l n j st0 h1 h2); clear h2
            generalize hbb : Dg.blk (l.drop (8 * j)) = b at HX HN hb ⊢
            clear hbb
            go_wp2_with fail
            rw [HX.out]
            refine (rmix_any (n ^^^ b) _).mono ?_
            rintro e w' ⟨rfl, rfl⟩
            go_wp2_with fail
            go_round
            case rel => exact ⟨j + 1, Dg.mixN (n ^^^ b), by go_num, rfl, Dg.mixN_lt _, HN.out⟩
            case measure => simp [intOf]; omega
          · omega
    · rcases hrel with h2 | ⟨_, hj, rfl⟩
      · omega
      · have hfl := Dg.absorb_lt l st0
        have hfin : Dg.hex16 (Dg.absorb st0 l) = Dg.sumL l := by unfold Dg.sumL; rw [HST.out]
        generalize hf : Dg.absorb st0 l = fin at hfl hfin ⊢
        have HFIN := Lib.hid hfin; clear hfin hf HST HX
        go_wp2_with fail
        go_loop [3, 7, 8] (fun st s i => ∃ k : Nat, k ≤ 16 ∧ i = .int .i64 (k : Int) ∧ st = .int .u64 ((fin / 16 ^ k : Nat) : Int) ∧ s = .string ⟨((Dg.hex16 fin).drop (16 - k)).toArray⟩) (fun _ _ i => 16 - (intOf i).toNat)
        case atStart => exact ⟨0, by omega, rfl, by simp, by simp [Dg.hex16]⟩
        case round =>
          obtain ⟨k, hk, rfl, rfl, rfl⟩ := hrel
          by_cases hk16 : k < 16
          · have hq : fin / 16 ^ k < 18446744073709551616 := Nat.lt_of_le_of_lt (Nat.div_le_self _ _) hfl
            have hq2 : fin / 16 ^ (k + 1) = fin / 16 ^ k / 16 := by rw [Nat.pow_succ, Nat.div_div_eq_div_mul]
            have hd := hex_drop fin k hk16
            generalize fin / 16 ^ k = q at hq hq2 hd ⊢
            have htl : ((Dg.hex16 fin).drop (16 - k)).length ≤ 16 := by rw [List.length_drop, Dg.hex16_length]; omega
            generalize (Dg.hex16 fin).drop (16 - k) = t at hd htl ⊢
            have HQ := Lib.hid hq2; clear hq2
            have hsl := hex_slice q
            generalize Dg.hexD (q % 16) = c at hd hsl
            have HD := Lib.hid hd; clear hd
            have HC := Lib.hid (mk_append [c] t)
            go_wp2_with fail
            go_round
            case rel => exact ⟨k + 1, by omega, by go_num, by rw [HQ.out]; rfl, by rw [HD.out]; exact congrArg Value.string HC.out⟩
            case measure => simp [intOf]; omega
          · obtain rfl : k = 16 := by omega
            go_wp2_with fail
            go_ret
            exact ⟨by rw [← HFIN.out]; rfl, rfl⟩
end Go.Proofs.YteoclpjbeadkpaaGreatDoor
/- WALKS: the other reference functions of layer 1. -/
namespace Go.Proofs.YteoclpjbeadkpaaGreatDoor
open Go.RowKit

theorem dig_extract : ∀ m : Fin 10, (⟨#[48, 49, 50, 51, 52, 53, 54, 55, 56, 57]⟩ : ByteArray).extract m.val (m.val + 1) = ⟨#[UInt8.ofNat (48 + m.val)]⟩ := by decide +kernel
theorem dig_slice (q : Nat) : ∀ W : World, (Instr.slice 9 (.string ⟨#[48, 49, 50, 51, 52, 53, 54, 55, 56, 57]⟩) (some (.int .u64 ((q : Int) % 10))) (some (.int .u64 ((q : Int) % 10 + 1))) none).run Tryz.prog W = .ok (.string ⟨#[UInt8.ofNat (48 + q % 10)]⟩) W := by
  intro W
  have e : ((q : Int) % 10) = ((q % 10 : Nat) : Int) := by omega
  have h := dig_extract ⟨q % 10, Nat.mod_lt _ (by decide)⟩
  have h3 : ((q % 10 : Nat) : Int) + 1 ≤ ((⟨#[48, 49, 50, 51, 52, 53, 54, 55, 56, 57]⟩ : ByteArray).size : Int) := by
    show ((q % 10 : Nat) : Int) + 1 ≤ 10
    omega
  rw [e, run_slice_string W 9 _ .u64 .u64 _ _ Tryz.underlying9 (by omega) (by omega) h3, ← h]
  rfl

/-- what is left of the number, and the digits behind it -/
def DigRel (n u : Nat) (s : List UInt8) : Prop := (0 < u ∧ Lib.decDigits n = Lib.decDigits u ++ s) ∨ (u = 0 ∧ Lib.decDigits n = s)
theorem digRel_start (n : Nat) : DigRel n (n / 10) [UInt8.ofNat (48 + n % 10)] := by
  by_cases h : n < 10
  · refine Or.inr ⟨by omega, ?_⟩
    rw [Lib.decDigits, dif_pos h, Nat.mod_eq_of_lt h]
  · refine Or.inl ⟨by omega, ?_⟩
    conv => lhs; rw [Lib.decDigits, dif_neg h]
theorem digRel_step {n u : Nat} {s : List UInt8} (h : DigRel n u s) (hu : 0 < u) : DigRel n (u / 10) (UInt8.ofNat (48 + u % 10) :: s) := by
  rcases h with ⟨_, h⟩ | ⟨h, _⟩
  · by_cases h1 : u < 10
    · refine Or.inr ⟨by omega, ?_⟩
      rw [h, Lib.decDigits, dif_pos h1, Nat.mod_eq_of_lt h1]; rfl
    · refine Or.inl ⟨by omega, ?_⟩
      rw [h]
      conv => lhs; rw [Lib.decDigits, dif_neg h1]
      simp
  · omega
theorem digRel_length {n u : Nat} {s : List UInt8} (hn : n < 18446744073709551616) (h : DigRel n u s) : s.length ≤ 20 := by
  have := Dg.decN_length n
  rw [Dg.decN_eq n (by omega)] at this
  rcases h with ⟨_, h⟩ | ⟨_, h⟩
  · rw [h, List.length_append] at this; omega
  · rw [h] at this; exact this

set_option maxHeartbeats 400000 in
theorem rdigits_any (n : Nat) (hn : n < 18446744073709551616) (w : World) :
    Calls Tryz.prog 131 #[.int .u64 (n : Int)] w fun e w' => e = .returned (.string ⟨(Dg.decN n).toArray⟩) ∧ w = w' := by
  rw [Dg.decN_eq n (by omega)]
  have h0 := digRel_start n
  have hsl := dig_slice n
  generalize UInt8.ofNat (48 + n % 10) = c at h0 hsl
  have H0 := Lib.hid h0; clear h0
  go_enter Tryz.func131, Tryz.ntmps131
  go_wp2_with fail
  clear hsl
  go_loop [0, 3] (fun u s => ∃ (m : Nat) (t : List UInt8), u = .int .u64 (m : Int) ∧ m < 18446744073709551616 ∧ s = .string ⟨t.toArray⟩ ∧ DigRel n m t) (fun u _ => (intOf u).toNat)
  case atStart => exact ⟨n / 10, [c], by simp, by omega, rfl, H0.out⟩
  case round =>
    obtain ⟨m, t, rfl, hm, rfl, hr⟩ := hrel
    have htl := digRel_length hn hr
    by_cases h0 : 0 < m
    · have h1 := digRel_step hr h0
      have hsl := dig_slice m
      generalize UInt8.ofNat (48 + m % 10) = d at h1 hsl
      have H1 := Lib.hid h1; clear h1 hr
      have HC := Lib.hid (mk_append [d] t)
      go_wp2_with fail
      go_round
      case rel => exact ⟨m / 10, d :: t, by simp, by omega, congrArg Value.string HC.out, H1.out⟩
      case measure => simp [intOf]; omega
    · rcases hr with ⟨h, _⟩ | ⟨rfl, h⟩
      · omega
      · have H := Lib.hid h; clear h
        go_wp2_with fail
        go_ret
        exact ⟨by rw [H.out]; rfl, rfl⟩

set_option maxHeartbeats 400000 in
theorem rdecimal_any (n : Nat) (hn : n ≤ 9223372036854775807) (w : World) :
    Calls Tryz.prog 99 #[.int .i64 (n : Int)] w fun e w' => e = .returned (.string ⟨(Dg.decN n).toArray⟩) ∧ w = w' := by
  go_enter Tryz.func99, Tryz.ntmps99
  go_wp2_with fail
  refine (rdigits_any n (by omega) _).mono ?_
  rintro e w' ⟨rfl, rfl⟩
  go_wp2_with fail
  go_ret
  exact ⟨rfl, rfl⟩

/-- the value of a hexadecimal digit, -1 if it is none -/
def digV (x : Nat) : Int := if 48 ≤ x ∧ x ≤ 57 then (x : Int) - 48 else if 97 ≤ x ∧ x ≤ 102 then (x : Int) - 97 + 10 else -1
theorem digV_neg (c : UInt8) : digV c.toNat < 0 ↔ Dg.isHex c = false := by
  have hh : Dg.isHex c = decide ((48 ≤ c.toNat ∧ c.toNat ≤ 57) ∨ (97 ≤ c.toNat ∧ c.toNat ≤ 102)) := by
    unfold Dg.isHex
    rw [Bool.eq_iff_iff]; simp [UInt8.le_iff_toNat_le]
  rw [hh, decide_eq_false_iff_not]
  unfold digV
  split
  · omega
  · split <;> omega
theorem digV_bd (x : Nat) (h : x < 256) : -1 ≤ digV x ∧ digV x ≤ 15 := by
  unfold digV
  split
  · omega
  · split <;> omega

set_option maxHeartbeats 400000 in
theorem rdigit_any (x : Nat) (hx : x < 256) (w : World) :
    Calls Tryz.prog 103 #[.int .u8 (x : Int)] w fun e w' => e = .returned (.int .i64 (digV x)) ∧ w = w' := by
  rcases (show x < 48 ∨ (48 ≤ x ∧ x ≤ 57) ∨ (57 < x ∧ x < 97) ∨ (97 ≤ x ∧ x ≤ 102) ∨ 102 < x by omega) with h | ⟨h, h'⟩ | ⟨h, h'⟩ | ⟨h, h'⟩ | h
  · have HV : Hid (digV x = -1) := by unfold Hid digV; rw [if_neg (by omega), if_neg (by omega)]
    go_enter Tryz.func103, Tryz.ntmps103
    go_wp2_with fail
    go_ret
    exact ⟨by rw [HV.out]; rfl, rfl⟩
  · have HV : Hid (digV x = (x : Int) - 48) := by unfold Hid digV; rw [if_pos (by omega)]
    go_enter Tryz.func103, Tryz.ntmps103
    go_wp2_with fail
    go_ret
    exact ⟨by rw [HV.out]; rfl, rfl⟩
  · have HV : Hid (digV x = -1) := by unfold Hid digV; rw [if_neg (by omega), if_neg (by omega)]
    go_enter Tryz.func103, Tryz.ntmps103
    go_wp2_with fail
    go_ret
    exact ⟨by rw [HV.out]; rfl, rfl⟩
  · have HV : Hid (digV x = (x : Int) - 97 + 10) := by unfold Hid digV; rw [if_neg (by omega), if_pos (by omega)]
    go_enter Tryz.func103, Tryz.ntmps103
    go_wp2_with fail
    go_ret
    exact ⟨by rw [HV.out]; rfl, rfl⟩
  · have HV : Hid (digV x = -1) := by unfold Hid digV; rw [if_neg (by omega), if_neg (by omega)]
    go_enter Tryz.func103, Tryz.ntmps103
    go_wp2_with fail
    go_ret
    exact ⟨by rw [HV.out]; rfl, rfl⟩

set_option maxHeartbeats 400000 in
theorem ris_any (l : List UInt8) (w : World) (hl : l.length ≤ 140737488355328) :
    Calls Tryz.prog 59 #[.string ⟨l.toArray⟩] w fun e w' => e = .returned (.bool (Dg.isL l)) ∧ w = w' := by
  go_enter Tryz.func59, Tryz.ntmps59
  go_wp2_with fail
  go_loop [3] (fun i => ∃ k : Nat, k ≤ l.length ∧ k ≤ 16 ∧ i = .int .i64 (k : Int) ∧ (l.take k).all Dg.isHex = true) (fun i => 16 - (intOf i).toNat)
  case atStart => exact ⟨0, by omega, by omega, rfl, by simp⟩
  case round =>
    obtain ⟨k, hk, hk16, rfl, ha⟩ := hrel
    by_cases h1 : k < l.length ∧ k < 16
    · obtain ⟨hkl, hk6⟩ := h1
      have hb := byte_at l k hkl
      have hn := digV_neg (l.getD k 0)
      have hbd := digV_bd (l.getD k 0).toNat (Dg.byte_lt _)
      have hbl := Dg.byte_lt (l.getD k 0)
      have hd := rdigit_any (l.getD k 0).toNat hbl
      have ht : (l.take (k + 1)).all Dg.isHex = Dg.isHex (l.getD k 0) := by
        rw [List.take_succ_eq_append_getElem hkl, List.all_append, ha]
        simp [List.getD, List.getElem?_eq_getElem hkl]
      generalize l.getD k 0 = c at *
      have HT := Lib.hid ht; clear ht
      have HA := Lib.hid ha; clear ha
      have HD := Lib.hid hd; clear hd
      have HB := Lib.hid hb; clear hb
      by_cases hc : Dg.isHex c = true
      · have h0 : 0 ≤ digV c.toNat := by
          rw [hc] at hn; simp at hn; exact hn
        clear hn
        generalize hv : digV c.toNat = v at *
        have HV := Lib.hid hv; clear hv
        go_wp2_with fail
        rw [HB.out]
        refine (HD.out _).mono ?_
        rintro e w' ⟨rfl, rfl⟩
        go_wp2_with fail
        go_round
        case rel => exact ⟨k + 1, by omega, by omega, by go_num, by rw [HT.out, hc]⟩
        case measure => simp [intOf]; omega
      · have hc' : Dg.isHex c = false := by simpa using hc
        have h0 : digV c.toNat < 0 := hn.2 hc'
        have hL : Dg.isL l = false := by
          have ht := HT.out
          rw [hc'] at ht
          unfold Dg.isL
          have : l.all Dg.isHex = false := by
            rw [← List.take_append_drop (k + 1) l, List.all_append, ht]; rfl
          rw [this, Bool.and_false]
        have HL := Lib.hid hL; clear hL
        clear hn hc' hc HT
        generalize hv : digV c.toNat = v at *
        have HV := Lib.hid hv; clear hv
        go_wp2_with fail
        rw [HB.out]
        refine (HD.out _).mono ?_
        rintro e w' ⟨rfl, rfl⟩
        go_wp2_with fail
        go_ret
        exact ⟨by rw [HL.out]; rfl, rfl⟩
    · have hL : Dg.isL l = ((l.length : Int) == 16) := by
        unfold Dg.isL
        by_cases h : l.length = 16
        · have e : k = 16 := by omega
          subst e
          rw [← h, List.take_length] at ha
          rw [ha, h]; rfl
        · have h2 : (l.length == 16) = false := by simpa using h
          have h3 : ((l.length : Int) == 16) = false := by rw [beq_eq_false_iff_ne]; omega
          rw [h2, h3]; rfl
      have HL := Lib.hid hL; clear hL
      by_cases hkl : k < l.length
      · have h6 : 16 ≤ k := by omega
        clear h1
        go_wp2_with fail
        all_goals
          go_ret
          exact ⟨by rw [HL.out]; rfl, rfl⟩
      · clear h1
        go_wp2_with fail
        all_goals
          go_ret
          exact ⟨by rw [HL.out]; rfl, rfl⟩
end Go.Proofs.YteoclpjbeadkpaaGreatDoor
/- WALKS: the reference functions on lists of layer 1. -/
namespace Go.Proofs.YteoclpjbeadkpaaGreatDoor
open Go.RowKit

/-- at most 30 texts of at most some bytes -/
def fewL (ss : List (List UInt8)) (m : Nat) : Bool := ss.all (fun s => decide (s.length ≤ m)) && decide (ss.length ≤ 30)
theorem few_snoc (ss : List (List UInt8)) (m k : Nat) (h : k < ss.length) : (ss.take (k + 1)).all (fun s => decide (s.length ≤ m)) = ((ss.take k).all (fun s => decide (s.length ≤ m)) && decide ((ss.getD k []).length ≤ m)) := by
  rw [List.take_succ_eq_append_getElem h, List.all_append]
  simp [List.getD, List.getElem?_eq_getElem h]
theorem few_false (ss : List (List UInt8)) (m k : Nat) (h : k < ss.length) (h2 : m < (ss.getD k []).length) : fewL ss m = false := by
  unfold fewL
  have : ss.all (fun s => decide (s.length ≤ m)) = false := by
    rw [← List.take_append_drop (k + 1) ss, List.all_append, few_snoc ss m k h]
    have : decide ((ss.getD k []).length ≤ m) = false := by simpa using h2
    rw [this]; simp
  rw [this]; rfl

theorem HasStrs.shape {w : World} {v : Value} {ss : List (List UInt8)} (h : HasStrs w v ss) : ∃ a c, v = .slice a ss.length c := by
  rcases h with ⟨rfl, a, c, rfl⟩ | ⟨_, b, off, c, rfl, _⟩
  · exact ⟨a, c, rfl⟩
  · exact ⟨_, c, rfl⟩
theorem take_same {ss tt : List (List UInt8)} {k : Nat} {s : List UInt8} (h : ss.take k = tt.take k) (hl : ss.length = tt.length) (hk : k < ss.length) (h1 : ss.getD k [] = s) (h2 : tt.getD k [] = s) : ss.take (k + 1) = tt.take (k + 1) := by
  rw [List.take_succ_eq_append_getElem hk, List.take_succ_eq_append_getElem (by omega), h]
  simp only [List.getD, List.getElem?_eq_getElem hk, List.getElem?_eq_getElem (show k < tt.length by omega), Option.getD_some] at h1 h2
  rw [h1, h2]

set_option maxHeartbeats 400000 in
theorem rsame_any (ss tt : List (List UInt8)) (v u : Value) (w : World) (hv : HasStrs w v ss) (hu : HasStrs w u tt) (hn : ss.length ≤ 140737488355328) (hn2 : tt.length ≤ 140737488355328) :
    Calls Tryz.prog 48 #[v, u] w fun e w' => e = .returned (.bool (ss == tt)) ∧ ∃ q, w' = w.drewN q := by
  by_cases hl : ss.length = tt.length
  · rcases hv with ⟨rfl, a, c, rfl⟩ | ⟨h0, b, off, c, rfl, hlt, hc⟩
    · obtain ⟨a2, c2, rfl⟩ := hu.shape
      have htt : tt = [] := List.eq_nil_of_length_eq_zero (by rw [← hl]; rfl)
      subst htt
      clear hu hl hn hn2
      go_enter Tryz.func48, Tryz.ntmps48
      go_wp2_with fail
      refine wp_loop_rounds 1 ?_
      rw [rounds_succ]
      go_wp2_with fail
      go_ret
      exact ⟨rfl, 0, rfl⟩
    · rcases hu with ⟨rfl, a, c, rfl⟩ | ⟨h02, b2, off2, c2, rfl, hlt2, hc2⟩
      · rw [List.length_nil] at hl; omega
      · rw [← hl] at hc2 ⊢
        clear h02 hn2
        have HL := Lib.hid hl; clear hl
        go_enter Tryz.func48, Tryz.ntmps48
        go_wp2_with fail
        go_loopw [5] (fun i wr => ∃ k q : Nat, k ≤ ss.length ∧ i = .int .i64 (k : Int) ∧ wr = w.drewN q ∧ ss.take k = tt.take k) (fun i _ => ss.length - (intOf i).toNat)
        case atStart => exact ⟨0, 0, by omega, rfl, rfl, by simp⟩
        case round =>
          obtain ⟨k, q, hk, rfl, rfl, ha⟩ := hrel
          have HA := Lib.hid ha; clear ha
          by_cases hkl : k < ss.length
          · have hck := hc k hkl
            have hck2 := hc2 k hkl
            generalize hs : ss.getD k [] = s at *
            generalize ht : tt.getD k [] = t at *
            have HS := Lib.hid hs; have HT := Lib.hid ht; clear hs ht hc hc2
            go_wp2_with fail
            go_quiet (fail)
            by_cases hst : s = t
            · subst hst
              have hb : (!(s == s)) = false := by simp
              rw [hb]; clear hb
              go_wp2
              go_roundw
              case rel => exact ⟨k + 1, q + nq, by omega, by go_num, rfl, take_same HA.out HL.out hkl HS.out HT.out⟩
              case measure => simp [intOf]; omega
            · have hb : (!(s == t)) = true := by simpa using hst
              rw [hb]; clear hb
              have HF : Hid ((ss == tt) = false) := by
                unfold Hid
                rw [beq_eq_false_iff_ne]
                intro e
                rw [e, HT.out] at HS
                exact hst HS.out.symm
              go_wp2
              go_ret
              exact ⟨by rw [HF.out]; rfl, q + nq, World.drewN_drewN _ _ _⟩
          · obtain rfl : k = ss.length := by omega
            have HF : Hid ((ss == tt) = true) := by
              unfold Hid
              have h1 := HA.out
              rw [List.take_length, HL.out, List.take_length] at h1
              rw [h1, beq_self_eq_true]
            clear hc hc2
            go_wp2_with fail
            go_ret
            exact ⟨by rw [HF.out]; rfl, q, rfl⟩
  · have hb : ((ss.length : Int) != (tt.length : Int)) = true := by rw [bne_iff_ne]; omega
    have HF : Hid ((ss == tt) = false) := by
      unfold Hid
      rw [beq_eq_false_iff_ne]
      intro e; rw [e] at hl; exact hl rfl
    obtain ⟨a, c, rfl⟩ := hv.shape
    obtain ⟨a2, c2, rfl⟩ := hu.shape
    clear hv hu hl
    go_enter Tryz.func48, Tryz.ntmps48
    go_wp2_with fail
    go_ret
    exact ⟨by rw [HF.out]; rfl, 0, rfl⟩

def capL : List (List UInt8) → Nat
  | [] => 0
  | s :: r => s.length + 21 + capL r
theorem capL_snoc (ss : List (List UInt8)) (s : List UInt8) : capL (ss ++ [s]) = capL ss + (s.length + 21) := by
  induction ss with
  | nil => simp [capL]
  | cons x r ih => rw [List.cons_append, capL, ih, capL]; omega
theorem capL_take (ss : List (List UInt8)) (k : Nat) (h : k < ss.length) : capL (ss.take (k + 1)) = capL (ss.take k) + ((ss.getD k []).length + 21) := by
  rw [List.take_succ_eq_append_getElem h, capL_snoc]; simp [List.getD, List.getElem?_eq_getElem h]
theorem capL_take_le (ss : List (List UInt8)) (k : Nat) : capL (ss.take k) ≤ capL ss := by
  induction ss generalizing k with
  | nil => simp [capL]
  | cons x r ih =>
    cases k with
    | zero => simp [capL]
    | succ k => have := ih k; rw [List.take_succ_cons, capL, capL]; omega
theorem joinL_cap (ss : List (List UInt8)) : (Dg.joinL ss).length ≤ capL ss := by
  induction ss with
  | nil => simp [Dg.joinL, capL]
  | cons s r ih => have := Dg.item_length s; rw [Dg.joinL, List.length_append, capL]; omega
theorem capL_count (ss : List (List UInt8)) : ss.length ≤ capL ss := by
  induction ss with
  | nil => simp
  | cons s r ih => rw [capL, List.length_cons]; omega

theorem own_shape {w : World} {B : Nat} {e : TypeId} {v : Value} {n : Nat} {xs : List Value} (h : w.ownsRow B e 1 v n xs) (hv : v ≠ .slice none 0 0) : ∃ g cap, v = .slice (some ⟨g, 0, none⟩) n cap ∧ B ≤ g := by
  rcases h.2 with ⟨h', _⟩ | ⟨g, cap, cur, rfl, hg, _⟩
  · exact absurd h' hv
  · exact ⟨g, cap, rfl, hg⟩
theorem byteCells_at (l : List UInt8) (i : Nat) (h : i < l.length) : (Lib.byteCells l)[i]? = some (.int .u8 ((l.map fun c => ((c.toNat : Nat) : Int)).getD i 0)) := by
  simp [Lib.byteCells, h]

theorem info_u8 : (Tryz.prog.info? 5).map (fun i => (i.zero, i.size, i.bytes)) = some (some (.int .u8 0), 1, 1) := by kernel_rfl

set_option maxHeartbeats 1000000 in
set_option maxRecDepth 100000 in
theorem rjoined_any (ss : List (List UInt8)) (v : Value) (w : World) (hv : HasStrs w v ss) (hJ : capL ss ≤ 140737488355328) :
    Calls Tryz.prog 70 #[v] w fun e w' => e = .returned (.string ⟨(Dg.joinL ss).toArray⟩) ∧ Below w.heap.size w w' := by
  obtain ⟨i0, hi, hz0, hz1, hz2⟩ := info_parts info_u8
  have hn := Nat.le_trans (capL_count ss) hJ
  rcases hv with ⟨rfl, a, c, rfl⟩ | ⟨h0, b, off, c, rfl, hlt, hc⟩
  · go_enter Tryz.func70, Tryz.ntmps70
    go_wp2_with fail
    refine wp_loop_rounds 1 ?_
    rw [rounds_succ]
    go_wp2_with (at_make; refine wpList_make_own _ rfl _ _ 125 rfl w.heap.size 5 i0 (.int .u8 0) 1 Tryz.underlying125 hi hz0 hz1 .i64 .i64 0 0 rfl rfl rfl (by rw [hz2]; omega) (by unfold maxLen; omega) (Nat.le_refl _) ?_)
    intro w1 hown hgrow
    have hb := (Below.refl w.heap.size w).grown hgrow (Nat.le_refl _) (fun k h => by cases h)
    clear hgrow
    go_wp2_with fail
    refine wp_loop_rounds 1 ?_
    rw [rounds_succ]
    have hcv := run_convert_bytes_arg (P := Tryz.prog) (w := w1) 125 5 Tryz.underlying125 Tryz.underlying5 w.heap.size 0 0 0 [] rfl (fun i hi => by omega)
    go_wp2_with fail
    go_ret
    exact ⟨rfl, hb⟩
  · go_enter Tryz.func70, Tryz.ntmps70
    go_wp2_with fail
    go_loop [3, 4] (fun n i => ∃ k : Nat, k ≤ ss.length ∧ i = .int .i64 (k : Int) ∧ n = .int .i64 ((capL (ss.take k) : Nat) : Int)) (fun _ i => ss.length - (intOf i).toNat)
    case atStart => exact ⟨0, by omega, rfl, rfl⟩
    case round =>
      obtain ⟨k, hk, rfl, rfl⟩ := hrel
      by_cases hkl : k < ss.length
      · have hck := hc k hkl
        have hct := capL_take ss k hkl
        have hcl := capL_take_le ss (k + 1)
        rw [hct] at hcl
        generalize ss.getD k [] = s at *
        generalize capL (ss.take k) = m at *
        have HC := Lib.hid hct; clear hct hc
        clear hi hz0 hz1 hz2
        go_wp2_with fail
        go_round
        case rel => exact ⟨k + 1, by omega, by go_num, by rw [HC.out]; go_num⟩
        case measure => simp [intOf]; omega
      · obtain rfl : k = ss.length := by omega
        rw [List.take_length]
        go_wp2_with (at_make; refine wpList_make_own _ rfl _ _ 125 rfl w.heap.size 5 i0 (.int .u8 0) 1 Tryz.underlying125 hi hz0 hz1 .i64 .i64 (capL ss) (capL ss) rfl rfl rfl (by rw [hz2]; omega) (by unfold maxLen; omega) (Nat.le_refl _) ?_)
        intro w1 hown hgrow
        have hb := (Below.refl w.heap.size w).grown hgrow (Nat.le_refl _) (fun k h => by cases h)
        clear hgrow
        go_wp2_with fail
        go_loopw [5, 6] (fun v i wr => ∃ (k : Nat) (g cap : Nat), k ≤ ss.length ∧ i = .int .i64 (k : Int) ∧ v = .slice (some ⟨g, 0, none⟩) (Dg.joinL (ss.take k)).length cap ∧ w.heap.size ≤ g ∧ wr.ownsRow w.heap.size 5 1 v (Dg.joinL (ss.take k)).length (Lib.byteCells (Dg.joinL (ss.take k))) ∧ Below w.heap.size w wr) (fun _ i _ => ss.length - (intOf i).toNat)
        case atStart => exact ⟨0, w.heap.size, capL ss, by omega, rfl, rfl, Nat.le_refl _, hown, hb⟩
        case round =>
          obtain ⟨k, g, cap, hk2, rfl, rfl, hg, hown, hb⟩ := hrel
          clear hk hkl
          by_cases hkl : k < ss.length
          · have hck := (hb.cell (p := ⟨b, off + k, none⟩) hlt).trans (hc k hkl)
            have hj := joinL_take ss k hkl
            have hle := Nat.le_trans (joinL_take_le ss (k + 1)) (Nat.le_trans (joinL_cap ss) hJ)
            generalize ss.getD k [] = s at hck hj
            rw [hj, List.length_append] at hle
            have hil := Dg.item_length s
            have hit : (Dg.item s).length = (Dg.decN s.length).length + 1 + s.length := by unfold Dg.item; simp; omega
            have HJ := Lib.hid hj; clear hj hc
            generalize Dg.joinL (ss.take k) = J at *
            have hsz := hb.size
            go_wp2_with fail
            refine (rdecimal_any s.length (by omega) _).mono ?_
            rintro e w2 ⟨rfl, rfl⟩
            have hdl := Dg.decN_length s.length
            have HIT : Hid (Dg.item s = Dg.decN s.length ++ ([58] ++ s)) := rfl
            generalize Dg.decN s.length = d at hdl HIT hit ⊢
            have HI := Lib.hid hit; clear hit
            go_wp2_with (at_builtin; refine Lib.wpList_append_own_string _ rfl (.tmp 29) (.tmp 35) 125 9 rfl w.heap.size 5 i0 Tryz.underlying125 Tryz.underlying9 hi hz0 hz1 hz2 _ J.length _ rfl hown ⟨d.toArray⟩ rfl ?_ ?_ ?_ ?_)
            · have := HI.out; show J.length + d.length ≤ _; unfold maxLen; omega
            · have := HI.out; show J.length + d.length ≤ _; omega
            · exact hsz
            intro v2 w2 hown2 hgrow2 hnil2
            have hb2 := hb.grown hgrow2 hsz (fun k e => by cases e; exact hg)
            obtain ⟨g2, cap2, rfl, hg2⟩ := own_shape hown2 hnil2
            have hck2 := (hb2.cell (p := ⟨b, off + k, none⟩) hlt).trans ((hb.cell (p := ⟨b, off + k, none⟩) hlt).symm.trans hck)
            have hsz2 := hb2.size
            clear hown hgrow2 hnil2 hck hb hsz
            go_wp2_with (at_builtin; refine wpList_append_own _ rfl (.tmp 37) (.tmp 38) 125 rfl w.heap.size 5 i0 (.int .u8 0) 1 1 Tryz.underlying125 hi hz0 hz1 hz2 rfl (by decide) _ _ _ rfl (hown2.alloc _) ⟨w2.heap.size, 0, none⟩ 1 1 [.int .u8 58] rfl rfl ?_ ?_ ?_ ?_ ?_ ?_)
            · intro j u hj
              match j, hj with
              | 0, hj => simp at hj; subst hj; simp [Addr.add]
            · intro u hu; simp at hu; subst hu; rfl
            · have := HI.out; show J.length + d.length + 1 ≤ _; unfold maxLen; omega
            · have := HI.out; show (J.length + d.length + 1) * 1 ≤ _; omega
            · simp; omega
            intro v3 w3 hown3 hgrow3 hnil3
            have hb3 := (hb2.alloc hsz2 _).grown hgrow3 (by simp; omega) (fun k e => by cases e; exact hg2)
            obtain ⟨g3, cap3, rfl, hg3⟩ := own_shape hown3 hnil3
            have hck3 := (hb3.cell (p := ⟨b, off + k, none⟩) hlt).trans ((hb2.cell (p := ⟨b, off + k, none⟩) hlt).symm.trans hck2)
            have hsz3 := hb3.size
            clear hown2 hgrow3 hnil3 hck2 hb2 hsz2
            go_wp2_with (at_builtin; refine Lib.wpList_append_own_string _ rfl (.tmp 40) (.tmp 44) 125 9 rfl w.heap.size 5 i0 Tryz.underlying125 Tryz.underlying9 hi hz0 hz1 hz2 _ (J.length + d.length + 1) _ rfl hown3 ⟨s.toArray⟩ rfl ?_ ?_ ?_ ?_)
            · have := HI.out; show J.length + d.length + 1 + s.length ≤ _; unfold maxLen; omega
            · have := HI.out; show J.length + d.length + 1 + s.length ≤ _; omega
            · exact hsz3
            intro v4 w4 hown4 hgrow4 hnil4
            have hb4 := hb3.grown hgrow4 hsz3 (fun k e => by cases e; exact hg3)
            obtain ⟨g4, cap4, rfl, hg4⟩ := own_shape hown4 hnil4
            clear hown3 hgrow4 hnil4 hck3 hb3 hsz3
            have e1 : J.length + d.length + 1 + s.length = (J ++ Dg.item s).length := by rw [HIT.out]; simp; omega
            have e2 : Lib.byteCells J ++ Lib.strCells ⟨d.toArray⟩ ++ [Value.int .u8 58] ++ Lib.strCells ⟨s.toArray⟩ = Lib.byteCells (J ++ Dg.item s) := by
              rw [HIT.out, strCells_mk, strCells_mk, byteCells_append, byteCells_append, byteCells_append]; simp [Lib.byteCells]
            have hown5 : w4.ownsRow w.heap.size 5 1 (.slice (some ⟨g4, 0, none⟩) (Dg.joinL (ss.take (k + 1))).length cap4) (Dg.joinL (ss.take (k + 1))).length (Lib.byteCells (Dg.joinL (ss.take (k + 1)))) := by
              rw [HJ.out, ← e1, ← e2]; simpa using hown4
            have e3 : J.length + d.length + 1 + s.length = (Dg.joinL (ss.take (k + 1))).length := by rw [HJ.out, e1]
            have E3 := Lib.hid e3; clear e1 e2 e3 hown4
            go_wp2_with fail
            go_roundw
            case rel => exact ⟨k + 1, g4, cap4, by omega, by go_num, congrArg (fun n => Value.slice (some ⟨g4, 0, none⟩) n cap4) E3.out, hg4, by rw [E3.out]; exact hown5, hb4⟩
            case measure => simp [intOf]; omega
          · obtain rfl : k = ss.length := by omega
            rw [List.take_length] at hown ⊢
            have hcv := run_convert_bytes_arg (P := Tryz.prog) (w := wr) 125 5 Tryz.underlying125 Tryz.underlying5 g 0 (Dg.joinL ss).length cap ((Dg.joinL ss).map fun c => ((c.toNat : Nat) : Int)) (by simp) (fun i hi => by
              rw [Nat.zero_add, hown.cellAt i (by omega), byteCells_at _ _ hi])
            have HE := Lib.hid (strOfNums_bytes (Dg.joinL ss))
            clear hown
            go_wp2_with fail
            go_ret
            exact ⟨congrArg (fun x => Ending.returned (Value.string x)) HE.out, hb⟩

set_option maxHeartbeats 400000 in
theorem rlist_any (ss : List (List UInt8)) (v : Value) (w : World) (hv : HasStrs w v ss) (hJ : capL ss ≤ 140737488355328) :
    Calls Tryz.prog 54 #[v] w fun e w' => e = .returned (.string ⟨(Dg.listL ss).toArray⟩) ∧ Below w.heap.size w w' := by
  have hj := rjoined_any ss v w hv hJ
  have hjl := Nat.le_trans (joinL_cap ss) hJ
  obtain ⟨a, c, rfl⟩ := hv.shape
  have HJ := Lib.hid hj; clear hj hv
  go_enter Tryz.func54, Tryz.ntmps54
  go_wp2_with fail
  refine HJ.out.mono ?_
  rintro e w1 ⟨rfl, hb⟩
  go_wp2_with fail
  refine (rsum_any (Dg.joinL ss) _ hjl).mono ?_
  rintro e w2 ⟨rfl, rfl⟩
  go_wp2_with fail
  go_ret
  exact ⟨rfl, hb⟩

set_option maxHeartbeats 400000 in
theorem rchain_any (l : List UInt8) (n : Int) (w : World) (hl : l.length ≤ 140737488355328) (h0 : -9223372036854775808 ≤ n) (h1 : n ≤ 9223372036854775807) :
    Calls Tryz.prog 106 #[.string ⟨l.toArray⟩, .int .i64 n] w fun e w' => e = .returned (.string ⟨(Dg.chainL (max 0 (min n 1000)).toNat l).toArray⟩) ∧ w = w' := by
  obtain ⟨m, hm, hm2⟩ : ∃ m : Nat, (max 0 (min n 1000)).toNat = m ∧ m ≤ 1000 := ⟨(max 0 (min n 1000)).toNat, rfl, by omega⟩
  rw [hm]
  go_enter Tryz.func106, Tryz.ntmps106
  go_wp2_with fail
  go_loop [0, 5] (fun t c => ∃ k : Nat, k ≤ m ∧ c = .int .i64 k ∧ t = .string ⟨(Dg.chainL k l).toArray⟩) (fun _ c => m - (intOf c).toNat)
  case atStart => exact ⟨0, by omega, rfl, rfl⟩
  case round =>
    obtain ⟨k, hk, rfl, rfl⟩ := hrel
    have hsz : (Dg.chainL k l).length ≤ 140737488355328 := by
      rcases Nat.eq_zero_or_pos k with e | e
      · subst e; exact hl
      · obtain ⟨j, rfl⟩ : ∃ j, k = j + 1 := ⟨k - 1, by omega⟩
        rw [Dg.chainL_succ, Dg.sumL_length]; omega
    by_cases hkm : k < m
    · have hq : (k : Int) < min n 1000 := by omega
      have HS := Lib.hid (Dg.chainL_succ k l)
      generalize Dg.chainL k l = p at hsz HS ⊢
      clear hm
      go_wp2_with fail
      refine (rsum_any p _ hsz).mono ?_
      rintro e w1 ⟨rfl, rfl⟩
      go_wp2_with fail
      go_round
      case rel => exact ⟨k + 1, by omega, by go_num, by rw [HS.out]⟩
      case measure => simp [intOf]; omega
    · obtain rfl : k = m := by omega
      have hq : min n 1000 ≤ (k : Int) := by omega
      clear hm
      go_wp2_with fail
      go_ret
      exact ⟨rfl, rfl⟩
end Go.Proofs.YteoclpjbeadkpaaGreatDoor
/- WALK: the fixed examples of layer 1's statements hold. -/
namespace Go.Proofs.YteoclpjbeadkpaaGreatDoor
open Go.RowKit

theorem below_next {w a b : World} (h : Below w.heap.size w a) (k : Below a.heap.size a b) : Below w.heap.size w b := h.trans (k.mono h.size)
theorem hasStrs_alloc (w : World) (ss : List (List UInt8)) (c : Nat) (h : 0 < ss.length) : HasStrs (w.alloc (.cells (ss.map fun s => Value.string ⟨s.toArray⟩).toArray 9)) (.slice (some ⟨w.heap.size, 0, none⟩) ss.length c) ss := by
  refine Or.inr ⟨h, w.heap.size, 0, c, rfl, by simp, fun j hj => ?_⟩
  rw [World.cell?_alloc_at _ _ _ _ rfl]
  simp [List.getD, List.getElem?_eq_getElem hj]

theorem isA (w : World) : Calls Tryz.prog 58 #[.string ⟨#[48, 49, 50, 51, 52, 53, 54, 55, 56, 57, 97, 98, 99, 100, 101, 102]⟩] w fun e w' => e = .returned (.bool true) ∧ Below w.heap.size w w' :=
  is_any [48, 49, 50, 51, 52, 53, 54, 55, 56, 57, 97, 98, 99, 100, 101, 102] w (by decide)
theorem isB (w : World) : Calls Tryz.prog 58 #[.string ⟨#[48, 49, 50, 51, 52, 53, 54, 55, 56, 57, 97, 98, 99, 100, 101, 70]⟩] w fun e w' => e = .returned (.bool false) ∧ Below w.heap.size w w' :=
  is_any [48, 49, 50, 51, 52, 53, 54, 55, 56, 57, 97, 98, 99, 100, 101, 70] w (by decide)
theorem isC (w : World) : Calls Tryz.prog 58 #[.string ⟨#[]⟩] w fun e w' => e = .returned (.bool false) ∧ Below w.heap.size w w' :=
  is_any [] w (by decide)
theorem sumC (l : List UInt8) (x : List UInt8) (hl : l.length ≤ 140737488355328) (hx : Hid (Dg.sumL l = x)) (w : World) : Calls Tryz.prog 96 #[.string ⟨l.toArray⟩] w fun e w' => e = .returned (.string ⟨x.toArray⟩) ∧ Below w.heap.size w w' := by
  have h := sum_any ⟨l.toArray⟩ w (by show l.length ≤ _; exact hl)
  rw [show (⟨l.toArray⟩ : ByteArray).data.toList = l from rfl, hx.out] at h
  exact h
theorem chainC (l : List UInt8) (n : Int) (x : List UInt8) (hl : l.length ≤ 140737488355328) (h0 : -9223372036854775808 ≤ n) (h1 : n ≤ 9223372036854775807) (hx : Hid (Dg.chainL (max 0 (min n 1000)).toNat l = x)) (w : World) : Calls Tryz.prog 79 #[.string ⟨l.toArray⟩, .int .i64 n] w fun e w' => e = .returned (.string ⟨x.toArray⟩) ∧ Below w.heap.size w w' := by
  have h := chain_any l n w hl h0 h1
  rw [hx.out] at h
  exact h
theorem listC (ss : List (List UInt8)) (v : Value) (x : List UInt8) (w : World) (ht : Tab w) (hv : HasStrs w v ss) (hJ : (Dg.joinL ss).length ≤ 140737488355328) (hx : Hid (Dg.listL ss = x)) :
    Calls Tryz.prog 52 #[v] w fun e w' => e = .returned (.string ⟨x.toArray⟩) ∧ Below w.heap.size w w' := by
  have h := list_any ss v w ht hv hJ
  rw [hx.out] at h
  exact h
end Go.Proofs.YteoclpjbeadkpaaGreatDoor
