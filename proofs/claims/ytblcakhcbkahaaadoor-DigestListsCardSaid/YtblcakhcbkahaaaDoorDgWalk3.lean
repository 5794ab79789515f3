/- WALKS: digest.List, digest.Chain, digest.Is. -/
import Derived.Test.YtblcakhcbkahaaaDoorDgWalk2
import Derived.Test.YtblcakhcbkahaaaDoorDgPlain2
import Derived.Lib.SmallJoins
import Derived.Sort.Grow
import Derived.SliceStrings
namespace Go.Proofs.YtblcakhcbkahaaaDoor
open Go.RowKit

/-- the table of the powers of ten, as its initialiser lays it -/
def Tab (w : World) : Prop := Lib.TabIs Tryd.prog w "internal/strconv.uint64pow10" .u64 Lib.pow10Tab
theorem gTab10 : Tryd.prog.globalNamed "internal/strconv.uint64pow10" = some 0 := by kernel_rfl
theorem Tab.below {w w' : World} (h : Tab w) {B : Nat} (hb : Below B w w') (hB : w.heap.size ≤ B) : Tab w' := Joins.tab_stays gTab10 h hb hB

/-- a slice that holds strings -/
def HasStrs (w : World) (v : Value) (ss : List (List UInt8)) : Prop :=
  (ss = [] ∧ ∃ a c, v = .slice a 0 c) ∨ (0 < ss.length ∧ ∃ b off c, v = .slice (some ⟨b, off, none⟩) ss.length c ∧ b < w.heap.size ∧ ∀ j, j < ss.length → w.cell? ⟨b, off + j, none⟩ = some (.string ⟨(ss.getD j []).toArray⟩))
theorem HasStrs.below {w w' : World} {v : Value} {ss : List (List UInt8)} (h : HasStrs w v ss) {B : Nat} (hb : Below B w w') (hB : w.heap.size ≤ B) : HasStrs w' v ss := by
  rcases h with h | ⟨h0, b, off, c, rfl, hlt, hc⟩
  · exact Or.inl h
  · exact Or.inr ⟨h0, b, off, c, rfl, Nat.lt_of_lt_of_le hlt hb.size, fun j hj => (hb.cell (p := ⟨b, off + j, none⟩) (by show b < B; omega)).trans (hc j hj)⟩

theorem below_drewN (B : Nat) (w : World) : ∀ n, Below B w (w.drewN n)
  | 0 => Below.refl _ _
  | n + 1 => (below_drewN B w n).drew
theorem below_grow (w : World) (k : Nat) (os : Array Obj) : Below w.heap.size w (Go.Sort.grow (w.drewN k) os) :=
  (below_drewN _ w k).trans ⟨rfl, rfl, rfl, by simp [Go.Sort.grow], fun j hj => by
    show ((w.drewN k).heap ++ os)[j]? = (w.drewN k).heap[j]?
    rw [Array.getElem?_append_left (by simpa using hj)]⟩
theorem own_below {B : Nat} {e : TypeId} {k : Nat} {v : Value} {n : Nat} {xs : List Value} {w w' : World} (h : w.ownsRow B e k v n xs) (hb : Below w.heap.size w w') : w'.ownsRow B e k v n xs :=
  h.kept (row := none) ⟨hb.os, hb.tape, hb.output, hb.size, fun j hj _ => hb.block j hj⟩ (by cases hv : v.ownBlock <;> simp)
theorem builderAt_below {T e : TypeId} {B b : Nat} {p : Value} {bs : List Value} {W W' : World} (h : Lib.BuilderAt T e B b p bs W) (hb : Below W.heap.size W W') : Lib.BuilderAt T e B b p bs W' := by
  have hlt := h.lt
  obtain ⟨hB, v, hv, hown, hne⟩ := h
  exact ⟨hB, v, (hb.block b hlt).trans hv, own_below hown hb, hne⟩
theorem builder_below {T e : TypeId} {B b : Nat} {bs : List Value} {W W' : World} (h : Lib.IsBuilder T e B b bs W) (hb : Below W.heap.size W W') : Lib.IsBuilder T e B b bs W' :=
  h.elim (fun x => .inl (builderAt_below x hb)) (fun x => .inr (builderAt_below x hb))

theorem itoa_any (n : Nat) (hn : n ≤ 9223372036854775807) (w : World) (ht : Tab w) :
    Calls Tryd.prog 27 #[.int .i64 (n : Int)] w fun e w' => e = .returned (.string ⟨(Dg.decN n).toArray⟩) ∧ Below w.heap.size w w' :=
  (Tryd.strconv_Itoa (n : Int) (by omega) (by omega) w ht).mono fun _ _ ⟨h1, k, os, h2⟩ => by
    rw [Dg.itoa_nat n (by omega)] at h1
    exact ⟨h1, by rw [h2]; exact below_grow w k os⟩

theorem joinL_take (ss : List (List UInt8)) (k : Nat) (h : k < ss.length) : Dg.joinL (ss.take (k + 1)) = Dg.joinL (ss.take k) ++ Dg.item (ss.getD k []) := by
  rw [List.take_succ_eq_append_getElem h, Dg.joinL_snoc]
  simp [List.getD, List.getElem?_eq_getElem h]
theorem joinL_take_le (ss : List (List UInt8)) (k : Nat) : (Dg.joinL (ss.take k)).length ≤ (Dg.joinL ss).length := by
  conv => rhs; rw [← List.take_append_drop k ss, Dg.joinL_append]
  simp

theorem joinL_count (ss : List (List UInt8)) : ss.length ≤ (Dg.joinL ss).length := by
  induction ss with
  | nil => simp
  | cons s r ih => have := Dg.item_length s; rw [Dg.joinL, List.length_append, List.length_cons]; omega
theorem mk_append (x y : List UInt8) : ((⟨x.toArray⟩ : ByteArray) ++ (⟨y.toArray⟩ : ByteArray)) = ⟨(x ++ y).toArray⟩ := by
  rw [ByteArray.mk_append_mk]
theorem strCells_mk (l : List UInt8) : Lib.strCells ⟨l.toArray⟩ = Lib.byteCells l := rfl
theorem byteCells_append (x y : List UInt8) : Lib.byteCells (x ++ y) = Lib.byteCells x ++ Lib.byteCells y := by simp [Lib.byteCells]

set_option maxHeartbeats 400000 in
set_option maxRecDepth 100000 in
theorem list_any (ss : List (List UInt8)) (v : Value) (w : World) (ht : Tab w) (hv : HasStrs w v ss) (hJ : (Dg.joinL ss).length ≤ 140737488355328) :
    Calls Tryd.prog 14 #[v] w fun e w' => e = .returned (.string ⟨(Dg.listL ss).toArray⟩) ∧ Below w.heap.size w w' := by
  rcases hv with ⟨rfl, a, c, rfl⟩ | ⟨h0, b, off, c, rfl, hlt, hc⟩
  · go_enter Tryd.func14, Tryd.ntmps14
    go_wp2_with fail
    refine wp_loop_rounds 1 ?_
    rw [rounds_succ]
    go_wp2_with fail
    have hB := Lib.fresh_isBuilder 47 5 w
    refine (Tryd.Builder_String_any w.heap.size w.heap.size [] _ hB (by simp)).mono ?_
    rintro e w1 ⟨rfl, hb1⟩
    have hb2 := ((Below.refl _ w).alloc (Nat.le_refl _) _).trans hb1
    clear hb1 hB
    go_wp2_with fail
    refine (sum_any ⟨#[]⟩ _ (by decide)).mono ?_
    rintro e w2 ⟨rfl, hb3⟩
    have hb4 := hb2.trans (hb3.mono hb2.size)
    clear hb2 hb3
    go_wp2_with fail
    go_ret
    exact ⟨rfl, hb4⟩
  · have hss : ss.length ≤ 140737488355328 := Nat.le_trans (joinL_count ss) hJ
    go_enter Tryd.func14, Tryd.ntmps14
    go_wp2_with fail
    go_loopw [5, 8] (fun _ c wr => ∃ k : Nat, k ≤ ss.length ∧ c = .int .i64 k ∧ Lib.IsBuilder 47 5 w.heap.size w.heap.size (Lib.byteCells (Dg.joinL (ss.take k))) wr ∧ Below w.heap.size w wr) (fun _ c _ => ss.length - (intOf c).toNat)
    case atStart => exact ⟨0, by omega, rfl, Lib.fresh_isBuilder _ _ _, (Below.refl _ w).alloc (Nat.le_refl _) _⟩
    case round =>
      obtain ⟨k, hk, rfl, hB, hb⟩ := hrel
      have hsz := hb.size
      by_cases hkl : k < ss.length
      · have hck := (hb.cell (p := ⟨b, off + k, none⟩) hlt).trans (hc k hkl)
        have hj := joinL_take ss k hkl
        have hle := joinL_take_le ss (k + 1)
        generalize ss.getD k [] = s at hck hj
        rw [hj, List.length_append] at hle
        have hil := Dg.item_length s
        have HJ := Lib.hid hj; clear hj hc
        have htr := ht.below hb (Nat.le_refl _)
        go_wp2_with fail
        refine (itoa_any s.length (by omega) _ htr).mono ?_
        rintro e w1 ⟨rfl, hb1⟩
        have hB1 := builder_below hB hb1
        have hb2 := hb.trans (hb1.mono hsz)
        clear hB hb hb1 htr hck
        have hcat : (⟨(Dg.decN s.length).toArray⟩ ++ ⟨#[58]⟩ ++ ⟨s.toArray⟩ : ByteArray) = ⟨(Dg.item s).toArray⟩ := by
          rw [mk_append, mk_append]; simp [Dg.item]
        have HC := Lib.hid hcat; clear hcat
        have hdl := Dg.decN_length s.length
        generalize Dg.decN s.length = d at hdl HC ⊢
        go_wp2_with fail
        rw [HC.out]
        refine (Tryd.Builder_WriteString w.heap.size w.heap.size _ ⟨(Dg.item s).toArray⟩ _ hB1 (by rw [Lib.byteCells_length]; show _ + (Dg.item s).length ≤ _; omega) hb2.size).mono ?_
        rintro e w2 ⟨rfl, hB3, hb3⟩
        have hb4 := hb2.trans hb3
        rw [strCells_mk, ← byteCells_append, ← HJ.out] at hB3
        clear hB1 hb2 hb3
        go_wp2_with fail
        go_roundw
        case rel => exact ⟨k + 1, by omega, by go_num, Or.inr hB3, hb4⟩
        case measure => simp [intOf]; omega
      · obtain rfl : k = ss.length := by omega
        rw [List.take_length] at hB
        clear hc
        go_wp2_with fail
        refine (Tryd.Builder_String_any w.heap.size w.heap.size _ _ hB hb.size).mono ?_
        rintro e w1 ⟨rfl, hb1⟩
        have hb2 := hb.trans hb1
        clear hb hb1 hB
        go_wp2_with fail
        refine (sum_any ⟨(Dg.joinL ss).toArray⟩ _ (by show (Dg.joinL ss).length ≤ _; exact hJ)).mono ?_
        rintro e w2 ⟨rfl, hb3⟩
        have hb4 := hb2.trans (hb3.mono hb2.size)
        clear hb2 hb3
        go_wp2_with fail
        go_ret
        exact ⟨rfl, hb4⟩

set_option maxHeartbeats 400000 in
theorem chain_any (l : List UInt8) (n : Int) (w : World) (hl : l.length ≤ 140737488355328) (h0 : -9223372036854775808 ≤ n) (h1 : n ≤ 9223372036854775807) :
    Calls Tryd.prog 16 #[.string ⟨l.toArray⟩, .int .i64 n] w fun e w' => e = .returned (.string ⟨(Dg.chainL (max 0 (min n 1000)).toNat l).toArray⟩) ∧ Below w.heap.size w w' := by
  obtain ⟨m, hm, hm2⟩ : ∃ m : Nat, max 0 (min n 1000) = (m : Int) ∧ m ≤ 1000 := ⟨(max 0 (min n 1000)).toNat, by omega, by omega⟩
  rw [hm, Int.toNat_natCast]
  go_enter Tryd.func16, Tryd.ntmps16
  go_wp2_with fail
  clear hm h0 h1
  generalize min n 1000 = q
  go_loopw [0, 8] (fun t c wr => ∃ k : Nat, k ≤ m ∧ c = .int .i64 k ∧ t = .string ⟨(Dg.chainL k l).toArray⟩ ∧ Below w.heap.size w wr) (fun _ c _ => m - (intOf c).toNat)
  case atStart => exact ⟨0, by omega, rfl, rfl, Below.refl _ _⟩
  case round =>
    obtain ⟨k, hk, rfl, rfl, hb⟩ := hrel
    have hsz : (Dg.chainL k l).length ≤ 140737488355328 := by
      rcases Nat.eq_zero_or_pos k with e | e
      · subst e; exact hl
      · obtain ⟨j, rfl⟩ : ∃ j, k = j + 1 := ⟨k - 1, by omega⟩
        rw [Dg.chainL_succ, Dg.sumL_length]; omega
    by_cases hkm : k < m
    · have HS := Lib.hid (Dg.chainL_succ k l)
      generalize Dg.chainL k l = p at hsz HS ⊢
      go_wp2_with fail
      refine (sum_any ⟨p.toArray⟩ _ (by show p.length ≤ _; exact hsz)).mono ?_
      rintro e w1 ⟨rfl, hb1⟩
      have hb2 := hb.trans (hb1.mono hb.size)
      clear hb hb1
      go_wp2_with fail
      go_roundw
      case rel => exact ⟨k + 1, by omega, by go_num, by rw [HS.out], hb2⟩
      case measure => simp [intOf]; omega
    · obtain rfl : k = m := by omega
      go_wp2_with fail
      go_ret
      exact ⟨rfl, hb⟩

/-- the cutset of digest.Is -/
def hexSet : List UInt8 := [48, 49, 50, 51, 52, 53, 54, 55, 56, 57, 97, 98, 99, 100, 101, 102]
theorem hexSet_contains : ∀ c : Fin 256, hexSet.contains (UInt8.ofNat c.val) = Dg.isHex (UInt8.ofNat c.val) := by decide +kernel
theorem hexSet_isHex (c : UInt8) : hexSet.contains c = Dg.isHex c := by
  have := hexSet_contains ⟨c.toNat, c.toNat_lt⟩
  simpa using this
theorem trimL_nil (cs : List UInt8) : ∀ l : List UInt8, (l.dropWhile (cs.contains ·)) = [] ↔ ∀ c ∈ l, cs.contains c = true := by
  intro l
  induction l with
  | nil => simp
  | cons x r ih =>
    rw [List.dropWhile_cons]
    by_cases h : cs.contains x = true
    · rw [if_pos h, ih]; simp only [List.mem_cons, forall_eq_or_imp, h, true_and]
    · rw [if_neg h]
      constructor
      · intro h2; cases h2
      · intro h2; exact absurd (h2 x (by simp)) h
theorem trimS_nil (cs l : List UInt8) : Lib.trimS l cs = [] ↔ ∀ c ∈ l, cs.contains c = true := by
  unfold Lib.trimS Lib.trimLeftS Lib.trimRightS
  rw [trimL_nil]
  constructor
  · intro h c hc
    by_cases e : (l.reverse.dropWhile (cs.contains ·)) = []
    · exact (trimL_nil cs l.reverse).1 e c (by simpa using hc)
    · obtain ⟨x, r, hx⟩ := List.exists_cons_of_ne_nil e
      have h1 := h x (by rw [hx]; simp)
      have h2 := List.head?_dropWhile_not (cs.contains ·) l.reverse
      rw [hx] at h2
      simp at h2
      rw [List.contains_iff_mem] at h1
      exact absurd h1 h2
  · intro h c hc
    have : c ∈ l.reverse := (List.dropWhile_sublist _).mem (by simpa using hc)
    exact h c (by simpa using this)
theorem trimS_isL (l : List UInt8) : (Lib.trimS l hexSet).isEmpty = l.all Dg.isHex := by
  rw [Bool.eq_iff_iff, List.isEmpty_iff, trimS_nil, List.all_eq_true]
  simp only [hexSet_isHex]

theorem trim_any (l : List UInt8) (w : World) (hl : l.length ≤ 140737488355328) :
    Calls Tryd.prog 29 #[.string ⟨l.toArray⟩, .string ⟨#[48, 49, 50, 51, 52, 53, 54, 55, 56, 57, 97, 98, 99, 100, 101, 102]⟩] w fun e w' => e = .returned (.string ⟨(Lib.trimS l hexSet).toArray⟩) ∧ Below w.heap.size w w' :=
  Any.strings_Trim_laid Tryd.lays160 (by kernel_rfl) ⟨l.toArray⟩ ⟨hexSet.toArray⟩ w (by show l.length ≤ _; omega) (by decide) (ascii_of_all (by decide))

set_option maxHeartbeats 400000 in
theorem is_any (l : List UInt8) (w : World) (hl : l.length ≤ 140737488355328) :
    Calls Tryd.prog 18 #[.string ⟨l.toArray⟩] w fun e w' => e = .returned (.bool (Dg.isL l)) ∧ Below w.heap.size w w' := by
  unfold Dg.isL
  by_cases h : l.length = 16
  · have hb : ((l.length : Int) == 16) = true := by simp [h]
    have hbn : (l.length == 16) = true := by simp [h]
    have H := Lib.hid hbn; clear hbn h
    rw [H.out, ← trimS_isL]
    go_enter Tryd.func18, Tryd.ntmps18
    go_wp2_with fail
    refine (trim_any l _ hl).mono ?_
    rintro e w1 ⟨rfl, hb1⟩
    generalize ht : Lib.trimS l hexSet = t
    have HT := Lib.hid ht; clear ht
    go_wp2_with fail
    go_ret
    exact ⟨by rw [HT.out]; rfl, hb1⟩
  · have hb : ((l.length : Int) == 16) = false := by rw [beq_eq_false_iff_ne]; omega
    have hbn : (l.length == 16) = false := by simp [h]
    have H := Lib.hid hbn; clear hbn h
    rw [H.out]
    go_enter Tryd.func18, Tryd.ntmps18
    go_wp2_with fail
    go_ret
    exact ⟨rfl, Below.refl _ _⟩
end Go.Proofs.YtblcakhcbkahaaaDoor
