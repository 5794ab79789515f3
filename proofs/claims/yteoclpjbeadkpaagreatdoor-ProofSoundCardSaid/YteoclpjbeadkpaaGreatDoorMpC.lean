/- The texts TrWalk1 StrRow TrWalk2 TrPop TrDone TrCheck TrCheck2, merged: walks and plain laws that the statements of layer 44 use. -/
import Derived.Test.YteoclpjbeadkpaaGreatDoorMpB
import Derived.Test.YteoclpjbeadkpaaGreatDoorMpA
import Derived.Deep.RegionWith
import Derived.Deep.RegionHeld3
import Derived.Sort.OwnSorted
import Derived.BigQuiet
import Derived.StillTailTactics
import Derived.IntWalk
import Derived.Laws.EntriesVeiled
set_option linter.unusedSimpArgs false
set_option linter.unusedVariables false
/- WALKS: tree.half, tree.node. -/
namespace Go.Proofs.YteoclpjbeadkpaaGreatDoor
open Go.RowKit

theorem halfW_stop (f k n : Nat) (h : ¬ 2 * k < n) : Tr.halfW f k n = k := by
  cases f with
  | zero => rfl
  | succ f => unfold Tr.halfW; rw [if_neg h]
theorem halfW_step (f k n : Nat) (h : 2 * k < n) : Tr.halfW (f + 1) k n = Tr.halfW f (2 * k) n := by
  conv => lhs; unfold Tr.halfW
  rw [if_pos h]

set_option maxHeartbeats 400000 in
theorem half_any (n : Nat) (h1 : 1 < n) (h : n ≤ 140737488355328) (w : World) :
    Calls Tryz.prog 67 #[.int .i64 (n : Int)] w fun e w' => e = .returned (.int .i64 (Tr.half n : Int)) ∧ w = w' := by
  go_enter Tryz.func67, Tryz.ntmps67
  go_wp2_with fail
  go_loopw [3] (fun c wr => ∃ k j : Nat, c = .int .i64 k ∧ k < n ∧ j < k ∧ Hid (Tr.halfW (n - j) k n = Tr.half n) ∧ w = wr) (fun c _ => n - (intOf c).toNat)
  case atStart => exact ⟨1, 0, rfl, h1, by decide, rfl, rfl⟩
  case round =>
    obtain ⟨k, j, rfl, hk, hj, hf, rfl⟩ := hrel
    by_cases hc : 2 * k < n
    · have hf2 : Hid (Tr.halfW (n - (j + 1)) (2 * k) n = Tr.half n) := by
        unfold Hid
        rw [← hf.out, ← halfW_step _ _ _ hc]
        congr 1; omega
      clear hf
      go_wp2_with fail
      exact ⟨⟨2 * k, j + 1, by go_num, by omega, by omega, hf2, trivial⟩, by simp [intOf]; omega⟩
    · have hf2 : Hid (Tr.half n = k) := by
        unfold Hid; rw [← hf.out, halfW_stop _ _ _ hc]
      clear hf
      go_wp2_with fail
      go_ret
      exact ⟨by rw [hf2.out]; rfl, rfl⟩

theorem joinL_two (a b : List UInt8) : (Dg.joinL [a, b]).length ≤ a.length + b.length + 42 := by
  have := (Dg.item_length a).2; have := (Dg.item_length b).2
  simp [Dg.joinL]; omega
theorem joinL_three (a b c : List UInt8) : (Dg.joinL [a, b, c]).length ≤ a.length + b.length + c.length + 63 := by
  have := (Dg.item_length a).2; have := (Dg.item_length b).2; have := (Dg.item_length c).2
  simp [Dg.joinL]; omega
/-- digest.List of a slice that was just made. -/
theorem listNew {w W : World} (ss : List (List UInt8)) (y : List UInt8) (ht : Tab w) (b : Below w.heap.size w W) (h0 : 0 < ss.length) (hJ : (Dg.joinL ss).length ≤ 140737488355328) (g : Hid (Dg.listL ss = y)) :
    Calls Tryz.prog 52 #[.slice (some ⟨W.heap.size, 0, none⟩) ss.length ss.length] (W.alloc (.cells (ss.map fun s => Value.string ⟨s.toArray⟩).toArray 9)) fun e w' => e = .returned (.string ⟨y.toArray⟩) ∧ Below w.heap.size w w' := by
  have b1 : Below w.heap.size w (W.alloc (.cells (ss.map fun s => Value.string ⟨s.toArray⟩).toArray 9)) := below_next b ((Below.refl _ _).alloc (Nat.le_refl _) _)
  refine (listC ss _ y _ (ht.below b1 (Nat.le_refl _)) (hasStrs_alloc W ss ss.length h0) hJ g).mono ?_
  rintro e w' ⟨rfl, c⟩
  exact ⟨rfl, below_next b1 c⟩

theorem node_any (a b x : List UInt8) (w : World) (ht : Tab w) (ha : a.length ≤ 35184372088832) (hb : b.length ≤ 35184372088832) (g : Hid (Tr.nodeL a b = x)) :
    Calls Tryz.prog 68 #[.string ⟨a.toArray⟩, .string ⟨b.toArray⟩] w fun e w' => e = .returned (.string ⟨x.toArray⟩) ∧ Below w.heap.size w w' := by
  have hJ : (Dg.joinL [Tr.tagNode, a, b]).length ≤ 140737488355328 := by
    have := joinL_three Tr.tagNode a b
    have e : Tr.tagNode.length = 4 := rfl
    omega
  have C := Lib.hid (fun W (bW : Below w.heap.size w W) => listNew [Tr.tagNode, a, b] x ht bW (by simp) hJ g)
  go_enter Tryz.func68, Tryz.ntmps68
  go_wp2_with fail
  refine (C.out _ (Below.refl _ _)).mono ?_
  rintro e w1 ⟨rfl, c⟩
  go_wp2_with fail
  go_ret
  exact ⟨rfl, c⟩

/-- a slice that holds strings, with no fewer places than elements -/
def HasStrsC (w : World) (v : Value) (ss : List (List UInt8)) : Prop := HasStrs w v ss ∧ ∃ a c, v = .slice a ss.length c ∧ ss.length ≤ c ∧ ss.length ≤ 140737488355328
theorem HasStrsC.below {w w' : World} {v : Value} {ss : List (List UInt8)} (h : HasStrsC w v ss) {B : Nat} (hb : Below B w w') (hB : w.heap.size ≤ B) : HasStrsC w' v ss := ⟨h.1.below hb hB, h.2⟩
theorem HasStrsC.parts {w : World} {v : Value} {ss : List (List UInt8)} (h : HasStrsC w v ss) (h0 : 0 < ss.length) : ∃ b off c, v = .slice (some ⟨b, off, none⟩) ss.length c ∧ ss.length ≤ c ∧ ss.length ≤ 140737488355328 ∧ b < w.heap.size ∧ ∀ j, j < ss.length → w.cell? ⟨b, off + j, none⟩ = some (.string ⟨(ss.getD j []).toArray⟩) := by
  obtain ⟨h1, a, c, e, hc, hm⟩ := h
  rcases h1 with ⟨rfl, _⟩ | ⟨_, b, off, c', rfl, hb, hcell⟩
  · cases h0
  · injection e with e1 e2 e3
    subst e3
    exact ⟨b, off, c', rfl, hc, hm, hb, hcell⟩
theorem hasStrsC_take {w : World} {b off c : Nat} {ss : List (List UInt8)} (k : Nat) (hk : k ≤ ss.length) (hc : ss.length ≤ c) (hm : ss.length ≤ 140737488355328) (hb : b < w.heap.size) (hcell : ∀ j, j < ss.length → w.cell? ⟨b, off + j, none⟩ = some (.string ⟨(ss.getD j []).toArray⟩)) :
    HasStrsC w (.slice (some ⟨b, off, none⟩) k c) (ss.take k) := by
  have l : (ss.take k).length = k := by rw [List.length_take]; omega
  refine ⟨?_, some ⟨b, off, none⟩, c, by rw [l], by omega, by omega⟩
  by_cases h0 : k = 0
  · subst h0; exact Or.inl ⟨rfl, _, _, rfl⟩
  · refine Or.inr ⟨by omega, b, off, c, by rw [l], hb, fun j hj => ?_⟩
    rw [hcell j (by omega)]
    rw [l] at hj
    simp [List.getD, hj]
theorem hasStrsC_drop {w : World} {b off c : Nat} {ss : List (List UInt8)} (k : Nat) (hk : k ≤ ss.length) (hc : ss.length ≤ c) (hm : ss.length ≤ 140737488355328) (hb : b < w.heap.size) (hcell : ∀ j, j < ss.length → w.cell? ⟨b, off + j, none⟩ = some (.string ⟨(ss.getD j []).toArray⟩)) :
    HasStrsC w (.slice (some ⟨b, off + k, none⟩) (ss.length - k) (c - k)) (ss.drop k) := by
  have l : (ss.drop k).length = ss.length - k := List.length_drop
  refine ⟨?_, some ⟨b, off + k, none⟩, c - k, by rw [l], by omega, by omega⟩
  by_cases h0 : k = ss.length
  · refine Or.inl ⟨by rw [h0, List.drop_length], _, _, by rw [h0, Nat.sub_self]⟩
  · refine Or.inr ⟨by omega, b, off + k, c - k, by rw [l], hb, fun j hj => ?_⟩
    rw [Nat.add_assoc, hcell (k + j) (by omega)]
    simp [List.getD, List.getElem?_drop]

/-- texts of a moderate size -/
def Mod (ls : List (List UInt8)) : Prop := ∀ s ∈ ls, s.length ≤ 35184372088832
theorem Mod.take {ls : List (List UInt8)} (h : Mod ls) (k : Nat) : Mod (ls.take k) := fun s hs => h s (List.mem_of_mem_take hs)
theorem Mod.drop {ls : List (List UInt8)} (h : Mod ls) (k : Nat) : Mod (ls.drop k) := fun s hs => h s (List.mem_of_mem_drop hs)
theorem rootL_length (ls : List (List UInt8)) : (Tr.rootL ls).length = 16 := by
  match ls with
  | [] => rw [Tr.rootL_nil]; exact Dg.sumL_length _
  | [x] => rw [Tr.rootL_one]; exact Dg.sumL_length _
  | x :: y :: r => rw [Tr.rootL_two _ (by simp)]; exact Dg.sumL_length _

theorem slc_to (b off n c k : Nat) (h : k ≤ c) (W : World) : (Instr.slice 27 (.slice (some ⟨b, off, none⟩) n c) none (some (.int .i64 (k : Int))) none).run Tryz.prog W = .ok (.slice (some ⟨b, off, none⟩) k c) W := by
  simp [go_sem, sliced, (by omega : (0 : Int) ≤ k), (by omega : (k : Int) ≤ c)]
theorem slc_from (b off n c k : Nat) (h : k < n) (hc : n ≤ c) (W : World) : (Instr.slice 27 (.slice (some ⟨b, off, none⟩) n c) (some (.int .i64 (k : Int))) none none).run Tryz.prog W = .ok (.slice (some ⟨b, off + k, none⟩) (n - k) (c - k)) W := by
  simp [go_sem, sliced, (by omega : (0 : Int) ≤ k), (by omega : (k : Int) ≤ n)]
  omega
theorem below_dr {w a : World} (h : Below w.heap.size w a) : Below w.heap.size w a.drew := h.trans ⟨rfl, rfl, rfl, Nat.le_refl _, fun _ _ => rfl⟩

set_option maxHeartbeats 1000000 in
set_option maxRecDepth 100000 in
theorem root_rec : ∀ (n : Nat) (ls : List (List UInt8)) (v : Value) (w : World), ls.length = n → Tab w → HasStrsC w v ls → Mod ls →
    Calls Tryz.prog 33 #[v] w fun e w' => e = .returned (.string ⟨(Tr.rootL ls).toArray⟩) ∧ Below w.heap.size w w' := by
  intro n
  induction n using Nat.strongRecOn with
  | _ n ih =>
    intro ls v w hn ht hv hm
    match hls : ls with
    | [] =>
      obtain ⟨_, a, c, rfl, _, _⟩ := hv
      have C := Lib.hid (fun W (bW : Below w.heap.size w W) => listNew [Tr.tagEmpty] Tr.emptyL ht bW (by simp) (by decide) rfl)
      go_enter Tryz.func33, Tryz.ntmps33
      go_wp2_with fail
      refine (C.out _ (Below.refl _ _)).mono ?_
      rintro e w1 ⟨rfl, c⟩
      go_wp2_with fail
      go_ret
      exact ⟨rfl, c⟩
    | [x] =>
      obtain ⟨b, off, c, rfl, hc, hmx, hb, hcell⟩ := hv.parts (by simp)
      have hx : x.length ≤ 35184372088832 := hm x (by simp)
      have c0 := hcell 0 (by simp)
      rw [Nat.add_zero] at c0
      have hJ : (Dg.joinL [Tr.tagLeaf, x]).length ≤ 140737488355328 := by
        have := joinL_two Tr.tagLeaf x
        have e : Tr.tagLeaf.length = 4 := rfl
        omega
      have C := Lib.hid (fun W (bW : Below w.heap.size w W) => listNew [Tr.tagLeaf, x] (Tr.leafL x) ht bW (by simp) hJ rfl)
      clear hcell
      go_enter Tryz.func33, Tryz.ntmps33
      go_wp2_with fail
      refine (C.out _ (Below.refl _ _)).mono ?_
      rintro e w1 ⟨rfl, c⟩
      go_wp2_with fail
      go_ret
      exact ⟨rfl, c⟩
    | x :: y :: r =>
      rw [← hls] at hn hv hm ⊢
      have h2 : 2 ≤ ls.length := by rw [hls]; simp
      clear hls
      obtain ⟨b, off, c, rfl, hc, hmx, hb, hcell⟩ := hv.parts (by omega)
      have hk := Tr.half_bounds (n := ls.length) (by omega)
      have HH := half_any ls.length (by omega) (by omega)
      have h3 := Tr.rootL_two ls h2
      generalize Tr.half ls.length = k at hk HH h3
      have h4 := hasStrsC_take k (by omega) hc hmx hb hcell
      have h5 := hasStrsC_drop k (by omega) hc hmx hb hcell
      have C1 := Lib.hid (fun W (bW : Below w.heap.size w W) => ih k (by omega) (ls.take k) _ W (by rw [List.length_take]; omega) (ht.below bW (Nat.le_refl _)) (h4.below bW (Nat.le_refl _)) (hm.take k))
      have C2 := Lib.hid (fun W (bW : Below w.heap.size w W) => ih (ls.length - k) (by omega) (ls.drop k) _ W (by rw [List.length_drop]) (ht.below bW (Nat.le_refl _)) (h5.below bW (Nat.le_refl _)) (hm.drop k))
      have C3 := Lib.hid (fun W (bW : Below w.heap.size w W) => node_any (Tr.rootL (ls.take k)) (Tr.rootL (ls.drop k)) (Tr.rootL ls) W (ht.below bW (Nat.le_refl _)) (by rw [rootL_length]; decide) (by rw [rootL_length]; decide) h3.symm)
      have HH := Lib.hid HH
      clear h3 h4 h5 hcell hv ih
      generalize Tr.rootL (ls.take k) = r1 at C1 C3
      generalize Tr.rootL (ls.drop k) = r2 at C2 C3
      generalize Tr.rootL ls = r3 at C3 ⊢
      generalize ls.length = m at *
      subst hn
      go_enter Tryz.func33, Tryz.ntmps33
      go_wp2_with fail
      refine (HH.out _).mono ?_
      rintro e w1 ⟨rfl, rfl⟩
      clear HH
      go_wp2_with fail
      have q1 := slc_to b off m c k (by omega)
      have q2 := slc_from b off m c k (by omega) hc
      have bS : Below w.heap.size w w := Below.refl _ _
      go_region_held3 (fun W => Below w.heap.size w W) (first | exact bS | exact below_dr bS | exact below_next (by assumption) (by assumption)) (first | (go_at_call 33; with_reducible refine (C1.out _ (by assumption)).mono ?_; rintro e w' ⟨rfl, hb1⟩) | (go_at_call 33; with_reducible refine (C2.out _ (by assumption)).mono ?_; rintro e w' ⟨rfl, hb1⟩) | (go_at_call 68; with_reducible refine (C3.out _ (by assumption)).mono ?_; rintro e w' ⟨rfl, hb1⟩))
      go_wp2_with fail
      go_ret
      exact ⟨rfl, by assumption⟩

theorem root_any (ls : List (List UInt8)) (v : Value) (x : List UInt8) (w : World) (ht : Tab w) (hv : HasStrsC w v ls) (hm : Mod ls) (g : Hid (Tr.rootL ls = x)) :
    Calls Tryz.prog 33 #[v] w fun e w' => e = .returned (.string ⟨x.toArray⟩) ∧ Below w.heap.size w w' := by
  have h := root_rec ls.length ls v w rfl ht hv hm
  rw [g.out] at h
  exact h
end Go.Proofs.YteoclpjbeadkpaaGreatDoor
/- ROWS OF STRINGS that a call makes by append. -/
namespace Go.Proofs.YteoclpjbeadkpaaGreatDoor
open Go.RowKit

def OwnS (B : Nat) (w : World) (v : Value) (ss : List (List UInt8)) : Prop := w.ownsRow B 9 1 v ss.length (ss.map fun s => Value.string ⟨s.toArray⟩)
theorem OwnS.nil (B : Nat) (w : World) : OwnS B w (.slice none 0 0) [] := ⟨rfl, Or.inl ⟨rfl, rfl⟩⟩
theorem OwnS.below {B : Nat} {w w' : World} {v : Value} {ss : List (List UInt8)} (h : OwnS B w v ss) (hb : Below w.heap.size w w') : OwnS B w' v ss := own_below h hb
theorem OwnS.shape {B : Nat} {w : World} {v : Value} {ss : List (List UInt8)} (h : OwnS B w v ss) : ∃ a c, v = .slice a ss.length c := by
  rcases h.2 with ⟨rfl, h0⟩ | ⟨g, cap, cur, rfl, _⟩
  · exact ⟨_, _, by rw [h0]⟩
  · exact ⟨_, _, rfl⟩
theorem OwnS.has {B : Nat} {w : World} {v : Value} {ss : List (List UInt8)} (h : OwnS B w v ss) (hl : ss.length ≤ 140737488355328) : HasStrsC w v ss := by
  rcases h.2 with ⟨rfl, h0⟩ | ⟨g, cap, cur, rfl, hB, hg, hnc, hcm, hcur, htake⟩
  · have e : ss = [] := List.length_eq_zero_iff.mp h0
    subst e
    exact ⟨Or.inl ⟨rfl, _, _, rfl⟩, _, _, rfl, by simp, by simp⟩
  · refine ⟨?_, _, _, rfl, hnc, hl⟩
    by_cases h0 : ss.length = 0
    · have e : ss = [] := List.length_eq_zero_iff.mp h0
      subst e
      exact Or.inl ⟨rfl, _, _, rfl⟩
    · have hlt : g < w.heap.size := (Array.getElem?_eq_some_iff.mp hg).1
      refine Or.inr ⟨by omega, g, 0, cap, rfl, hlt, fun j hj => ?_⟩
      rw [Nat.zero_add, show w.cell? ⟨g, j, none⟩ = cur[j]? by simp [World.cell?, hg]]
      have hj2 : j < cur.size := by omega
      have e : (cur.toList.take (ss.length * 1))[j]? = some (Value.string ⟨(ss.getD j []).toArray⟩) := by
        rw [htake]; simp [List.getD, List.getElem?_eq_getElem hj]
      rw [List.getElem?_take_of_lt (by omega)] at e
      simpa using e

theorem info_str : (Tryz.prog.info? 9).map (fun i => (i.zero, i.size, i.bytes)) = some (some (.string ⟨#[]⟩), 1, 16) := by kernel_rfl

theorem wpl_app {ops : Array Oper} {rest : List Oper} {o : Oper} {a : Act} {Q : Exit → Act → World → Prop} {w : World} (hgd : o.guard = none) (s x : Operand)
    (ho : o.op = .call { callee := .builtin .append, args := #[s, x], argTypes := #[27, 27] }) (B : Nat) (v : Value) (ss : List (List UInt8)) (t : List UInt8)
    (hs : a.eval s = v) (hx : a.eval x = .slice (some ⟨w.heap.size, 0, none⟩) 1 1) (hown : OwnS B w v ss) (hn : ss.length ≤ 8796093022207) (hB : B ≤ w.heap.size)
    (h : ∀ w' g c, OwnS B w' (.slice (some ⟨g, 0, none⟩) (ss.length + 1) c) (ss ++ [t]) → Below B w w' → wpList Tryz.prog ops Q rest (a.put o.dst (.slice (some ⟨g, 0, none⟩) (ss.length + 1) c)) w') :
    wpList Tryz.prog ops Q (o :: rest) a (w.alloc (.cells #[.string ⟨t.toArray⟩] 9)) := by
  obtain ⟨i0, hi, hz0, hz1, hz2⟩ := info_parts info_str
  refine wpList_append_own _ hgd s x 27 ho B 9 i0 (.string ⟨#[]⟩) 1 16 Tryz.underlying27 hi hz0 hz1 hz2 rfl (by decide) v ss.length _ hs (hown.alloc _) ⟨w.heap.size, 0, none⟩ 1 1 [.string ⟨t.toArray⟩] hx rfl ?_ ?_ ?_ ?_ ?_ ?_
  · intro j u hj
    match j, hj with
    | 0, hj => simp at hj; subst hj; simp [Addr.add]
  · intro u hu; simp at hu; subst hu; rfl
  · unfold maxLen; omega
  · omega
  · simp; omega
  intro v' w' hown' hgrow hnil
  have hne : v' ≠ .slice .none 0 0 := fun e => by have := hnil.mp e; omega
  obtain ⟨g, c, rfl, hg⟩ := own_shape hown' hne
  have hb : Below B w w' := ((Below.refl B w).alloc hB _).grown hgrow (by simp; omega) (fun k e => by
    rcases hown.2 with ⟨rfl, _⟩ | ⟨g0, _, _, rfl, hg0, _⟩
    · cases e
    · cases e; exact hg0)
  refine h w' g c ?_ hb
  unfold OwnS
  rw [List.map_append, List.length_append]
  exact hown'

theorem rev_any {B : Nat} {w : World} {v : Value} {ss : List (List UInt8)} (hown : OwnS B w v ss) (hn : ss.length ≤ 9223372036854775807) :
    Calls Tryz.prog 81 #[v] w fun e w' => e = .returned (.tuple #[]) ∧ OwnS B w' v ss.reverse ∧ Below B w w' := by
  rcases hown.2 with ⟨rfl, h0⟩ | ⟨g, cap, cur, rfl, hB, hg, hnc, hcm, hcur, htake⟩
  · have e : ss = [] := List.length_eq_zero_iff.mp h0
    subst e
    refine (Tryz.slices_Reverse_string_empty none 0 w).mono ?_
    rintro e w' ⟨rfl, rfl⟩
    exact ⟨rfl, OwnS.nil _ _, Below.refl _ _⟩
  · refine (Tryz.slices_Reverse_string g 0 cap ss w (holds_of_block hg (by simpa [Go.Proofs.encStr] using htake)) hn).mono ?_
    rintro e w' ⟨rfl, n, rfl⟩
    have h1 := ownsRow_sorted (n := n) (os := #[]) (ss := ss) (ts := ss.reverse) (by simp) hB hg hnc hcm hcur
    have h2 := grownBy_sorted (w := w) (g := g) (n := n) (os := #[]) ss.reverse.toArray
    rw [Go.Sort.grow_empty] at h1 h2
    refine ⟨rfl, ?_, (Below.refl B w).grown h2 (Nat.le_trans hB (Nat.le_of_lt (Array.getElem?_eq_some_iff.mp hg).1)) (fun k e => by cases e; exact hB)⟩
    unfold OwnS
    rw [List.length_reverse]
    exact h1
end Go.Proofs.YteoclpjbeadkpaaGreatDoor
/- WALK: tree.Path. -/
namespace Go.Proofs.YteoclpjbeadkpaaGreatDoor
open Go.RowKit

def sliceLen : Value → Nat
  | .slice _ n _ => n
  | _ => 0
theorem pathL_length (n : Nat) : ∀ (ls : List (List UInt8)) (i : Nat), ls.length = n → (Tr.pathL ls i).length ≤ n := by
  induction n using Nat.strongRecOn with
  | _ n ih =>
    intro ls i hn
    by_cases h : ls.length ≤ 1
    · rw [Tr.pathL_short ls i h]; simp
    · have hb := Tr.half_bounds (n := ls.length) (by omega)
      by_cases c : i < Tr.half ls.length
      · rw [Tr.pathL_left ls i (by omega) c, List.length_append]
        have := ih (Tr.half ls.length) (by omega) (ls.take (Tr.half ls.length)) i (by rw [List.length_take]; omega)
        simp; omega
      · rw [Tr.pathL_right ls i (by omega) (by omega), List.length_append]
        have := ih (ls.length - Tr.half ls.length) (by omega) (ls.drop (Tr.half ls.length)) (i - Tr.half ls.length) (by rw [List.length_drop])
        simp; omega

set_option maxHeartbeats 1000000 in
set_option maxRecDepth 100000 in
theorem path_any (ls : List (List UInt8)) (v : Value) (i : Nat) (w : World) (ht : Tab w) (hv : HasStrsC w v ls) (hm : Mod ls) (hi : i < ls.length) (hN : ls.length ≤ 8796093022207) :
    Calls Tryz.prog 44 #[v, .int .i64 (i : Int)] w fun e w' => ∃ u, e = .returned (.tuple #[u, .int .i64 0]) ∧ OwnS w.heap.size w' u (Tr.pathL ls i) ∧ Below w.heap.size w w' := by
  obtain ⟨b, off, c, rfl, hc, hmx, hb, hcell⟩ := hv.parts (by omega)
  have hlen := pathL_length ls.length ls i rfl
  obtain ⟨P, hP⟩ : ∃ P, Hid (Tr.pathL ls i = P) := ⟨_, rfl⟩
  rw [hP.out] at hlen ⊢
  have d1 : decide (ls.length ≤ i) = false := by simpa using hi
  have d2 : decide ((i : Int) < 0) = false := by simp
  have hv' := hv
  clear hv
  go_enter Tryz.func44, Tryz.ntmps44
  go_wp2_with fail
  go_loopw [0, 1, 6] (fun s0 s1 s6 wr => ∃ (ms : List (List UInt8)) (off c j : Nat) (os : List (List UInt8)), s0 = .slice (some ⟨b, off, none⟩) ms.length c ∧ s1 = .int .i64 j ∧ j < ms.length ∧ ms.length ≤ ls.length ∧ ms.length ≤ c ∧ Mod ms ∧
      (∀ j, j < ms.length → w.cell? ⟨b, off + j, none⟩ = some (.string ⟨(ms.getD j []).toArray⟩)) ∧ OwnS w.heap.size wr s6 os ∧ Hid (Tr.pathL ms j ++ os.reverse = P) ∧ os.length + ms.length ≤ ls.length ∧ Below w.heap.size w wr) (fun s0 _ _ _ => sliceLen s0)
  case atStart => exact ⟨ls, off, c, i, [], rfl, rfl, hi, Nat.le_refl _, hc, hm, hcell, OwnS.nil _ _, by unfold Hid; rw [hP.out]; simp, by simp, Below.refl _ _⟩
  case round =>
    clear hcell hc hv' hi hm hlen hP
    obtain ⟨ms, off, c, j, os, rfl, rfl, hj, hle, hc, hm, hcell, hown, hP, hos, hbw⟩ := hrel
    by_cases h1 : 1 < ms.length
    · have hk := Tr.half_bounds (n := ms.length) h1
      have HH := Lib.hid (half_any ms.length h1 (by omega))
      have hl := Tr.pathL_left ms j h1
      have hr := Tr.pathL_right ms j h1
      generalize Tr.half ms.length = k at hk HH hl hr
      have hcw : ∀ j, j < ms.length → wr.cell? ⟨b, off + j, none⟩ = some (.string ⟨(ms.getD j []).toArray⟩) := fun j hj => (hbw.cell (p := ⟨b, off + j, none⟩) hb).trans (hcell j hj)
      have h4 := hasStrsC_take k (by omega) hc (by omega) (Nat.lt_of_lt_of_le hb hbw.size) hcw
      have h5 := hasStrsC_drop k (by omega) hc (by omega) (Nat.lt_of_lt_of_le hb hbw.size) hcw
      have q1 := slc_to b off ms.length c k (by omega)
      have q2 := slc_from b off ms.length c k (by omega) hc
      have l1 : (ms.take k).length = k := by rw [List.length_take]; omega
      have l2 : (ms.drop k).length = ms.length - k := List.length_drop
      have htw := ht.below hbw (Nat.le_refl _)
      have hsz := hbw.size
      by_cases hjk : j < k
      · have hP2 : Hid (Tr.pathL (ms.take k) j ++ (os ++ [Tr.rootL (ms.drop k)]).reverse = P) := by
          unfold Hid; rw [← hP.out, hl hjk]; simp
        obtain ⟨x, hx⟩ : ∃ x, Hid (Tr.rootL (ms.drop k) = x) := ⟨_, rfl⟩
        rw [hx.out] at hP2
        have C := Lib.hid (root_any (ms.drop k) _ x wr htw h5 (hm.drop k) hx)
        have hct : ∀ j, j < (ms.take k).length → w.cell? ⟨b, off + j, none⟩ = some (.string ⟨((ms.take k).getD j []).toArray⟩) := fun j hj => by
          rw [hcell j (by omega)]; rw [l1] at hj; simp [List.getD, hj]
        have F := Lib.hid (show Mod (ms.take k) ∧ (∀ j, j < (ms.take k).length → w.cell? ⟨b, off + j, none⟩ = some (.string ⟨((ms.take k).getD j []).toArray⟩)) ∧ (ms.take k).length = k from ⟨hm.take k, hct, l1⟩)
        clear hl hr hP hct h4 h5 hcw hcell hm hx htw l1 l2
        go_wp2_with fail
        refine (HH.out _).mono ?_
        rintro e w1 ⟨rfl, rfl⟩
        go_wp2_with fail
        refine C.out.mono ?_
        rintro e w2 ⟨rfl, c2⟩
        have hb2 := hbw.trans (c2.mono hsz)
        have hown2 := hown.below c2
        have hsz2 := hb2.size
        clear hown c2 C HH q2
        go_wp2_with (at_builtin; refine wpl_app rfl (.tmp 25) (.tmp 30) rfl w.heap.size u6 os x rfl rfl hown2 (by omega) hsz2 ?_)
        intro w3 g cc hown3 hb3
        have hb4 := hb2.trans hb3
        clear hb2 hb3 hown2
        go_wp2_with fail
        go_roundw
        case rel => exact ⟨ms.take k, off, c, j, os ++ [x], by rw [F.out.2.2], rfl, by rw [F.out.2.2]; exact hjk, by rw [F.out.2.2]; omega, by rw [F.out.2.2]; omega, F.out.1, F.out.2.1, hown3, hP2, by rw [List.length_append, F.out.2.2, List.length_singleton]; omega, hb4⟩
        case measure => show k < ms.length; omega
      · have hP2 : Hid (Tr.pathL (ms.drop k) (j - k) ++ (os ++ [Tr.rootL (ms.take k)]).reverse = P) := by
          unfold Hid; rw [← hP.out, hr (by omega)]; simp
        obtain ⟨x, hx⟩ : ∃ x, Hid (Tr.rootL (ms.take k) = x) := ⟨_, rfl⟩
        rw [hx.out] at hP2
        have C := Lib.hid (root_any (ms.take k) _ x wr htw h4 (hm.take k) hx)
        have hct : ∀ j, j < (ms.drop k).length → w.cell? ⟨b, off + k + j, none⟩ = some (.string ⟨((ms.drop k).getD j []).toArray⟩) := fun j hj => by
          rw [Nat.add_assoc, hcell (k + j) (by omega)]; simp [List.getD, List.getElem?_drop]
        have F := Lib.hid (show Mod (ms.drop k) ∧ (∀ j, j < (ms.drop k).length → w.cell? ⟨b, off + k + j, none⟩ = some (.string ⟨((ms.drop k).getD j []).toArray⟩)) ∧ (ms.drop k).length = ms.length - k from ⟨hm.drop k, hct, l2⟩)
        clear hl hr hP hct h4 h5 hcw hcell hm hx htw l1 l2
        go_wp2_with fail
        refine (HH.out _).mono ?_
        rintro e w1 ⟨rfl, rfl⟩
        go_wp2_with fail
        refine C.out.mono ?_
        rintro e w2 ⟨rfl, c2⟩
        have hb2 := hbw.trans (c2.mono hsz)
        have hown2 := hown.below c2
        have hsz2 := hb2.size
        clear hown c2 C HH q1
        go_wp2_with (at_builtin; refine wpl_app rfl (.tmp 35) (.tmp 40) rfl w.heap.size u6 os x rfl rfl hown2 (by omega) hsz2 ?_)
        intro w3 g cc hown3 hb3
        have hb4 := hb2.trans hb3
        clear hb2 hb3 hown2
        go_wp2_with fail
        go_roundw
        case rel => exact ⟨ms.drop k, off + k, c - k, j - k, os ++ [x], by rw [F.out.2.2], by go_num, by rw [F.out.2.2]; omega, by rw [F.out.2.2]; omega, by rw [F.out.2.2]; omega, F.out.1, F.out.2.1, hown3, hP2, by rw [List.length_append, F.out.2.2, List.length_singleton]; omega, hb4⟩
        case measure => show ms.length - k < ms.length; omega
    · have hP2 : Hid (os.reverse = P) := by
        unfold Hid; rw [← hP.out, Tr.pathL_short _ _ (by omega)]; simp
      clear hcell hP hm
      go_wp2_with fail
      refine (rev_any hown (by omega)).mono ?_
      rintro e w2 ⟨rfl, hown2, c2⟩
      go_wp2_with fail
      have hown3 : OwnS w.heap.size w2 u6 P := by rw [← hP2.out]; exact hown2
      go_ret2
      exact ⟨_, rfl, hown3, hbw.trans c2⟩
end Go.Proofs.YteoclpjbeadkpaaGreatDoor
/- WALKS: tree's pop, next, done. -/
namespace Go.Proofs.YteoclpjbeadkpaaGreatDoor
open Go.RowKit

theorem slc_dig (b off n c k : Nat) (h : k ≤ c) (W : World) : (Instr.slice 118 (.slice (some ⟨b, off, none⟩) n c) none (some (.int .i64 (k : Int))) none).run Tryz.prog W = .ok (.slice (some ⟨b, off, none⟩) k c) W := by
  simp [go_sem, sliced, (by omega : (0 : Int) ≤ k), (by omega : (k : Int) ≤ c)]

set_option maxHeartbeats 1000000 in
set_option maxRecDepth 100000 in
theorem pop_zero (W : World) (pl : Nat) (a : Option Addr) (c : Nat) (hc : W.cell? ⟨pl, 0, none⟩ = some (.slice a 0 c)) :
    Calls Tryz.prog 124 #[.pointer (some ⟨pl, 0, none⟩)] W fun e w' => e = .returned (.string ⟨#[]⟩) ∧ w' = W := by
  go_enter Tryz.func124, Tryz.ntmps124
  go_wp2_with fail
  go_ret
  exact ⟨rfl, rfl⟩

set_option maxHeartbeats 1000000 in
set_option maxRecDepth 100000 in
theorem pop_some (W : World) (pl g off m c : Nat) (s : List UInt8) (hm : 0 < m) (hmc : m ≤ c) (hmx : m ≤ 140737488355328) (hc : W.cell? ⟨pl, 0, none⟩ = some (.slice (some ⟨g, off, none⟩) m c))
    (hf : W.frozen? ⟨pl, 0, none⟩ = false) (hs : W.cell? ⟨g, off + (m - 1), none⟩ = some (.string ⟨s.toArray⟩)) :
    Calls Tryz.prog 124 #[.pointer (some ⟨pl, 0, none⟩)] W fun e w' => e = .returned (.string ⟨s.toArray⟩) ∧ ∃ q, w' = (W.drewN q).setCell ⟨pl, 0, none⟩ (.slice (some ⟨g, off, none⟩) (m - 1) c) := by
  have q1 := slc_dig g off m c (m - 1) (by omega)
  obtain ⟨k, rfl⟩ : ∃ k, m = k + 1 := ⟨m - 1, by omega⟩
  rw [Nat.add_sub_cancel] at hs q1 ⊢
  have hz : ((k + 1 : Nat) : Int) - 1 = (k : Int) := by omega
  have ne0 : (((k + 1 : Nat) : Int) == 0) = false := by rw [beq_eq_false_iff_ne]; omega
  go_enter Tryz.func124, Tryz.ntmps124
  go_wp2_with fail
  go_quiet (fail)
  go_wp2_with fail
  have hc1 : (W.drewN nq).cell? ⟨pl, 0, none⟩ = some (.slice (some ⟨g, off, none⟩) (k + 1) c) := hc
  have hf1 : (W.drewN nq).frozen? ⟨pl, 0, none⟩ = false := hf
  obtain ⟨W1, hW1⟩ : ∃ W1, Hid (W.drewN nq = W1) := ⟨_, rfl⟩
  rw [hW1.out] at hc1 hf1 ⊢
  have hwr : IntKind.i64.wrap (k : Int) = k := IntWalk.i64_in _ (by omega)
  go_still_tail 11, (by kernel_rfl)
  change wpList _ _ _ _ _ W1.drew
  have hc2 : W1.drew.cell? ⟨pl, 0, none⟩ = some (.slice (some ⟨g, off, none⟩) (k + 1) c) := hc1
  have hf2 : W1.drew.frozen? ⟨pl, 0, none⟩ = false := hf1
  go_wp2_with fail
  go_ret
  exact ⟨rfl, nq + 1, by rw [← hW1.out]; rfl⟩

/-- Nothing but the blocks p and q has turned, and new blocks. -/
def Kept2 (p q : Nat) (a w : World) : Prop := w.os = a.os ∧ w.tape = a.tape ∧ w.output = a.output ∧ a.heap.size ≤ w.heap.size ∧ ∀ j, j < a.heap.size → j ≠ p → j ≠ q → w.heap[j]? = a.heap[j]?
theorem Kept2.refl (p q : Nat) (w : World) : Kept2 p q w w := ⟨rfl, rfl, rfl, Nat.le_refl _, fun _ _ _ _ => rfl⟩
theorem Kept2.trans {p q : Nat} {a b c : World} (h : Kept2 p q a b) (k : Kept2 p q b c) : Kept2 p q a c :=
  ⟨k.1.trans h.1, k.2.1.trans h.2.1, k.2.2.1.trans h.2.2.1, Nat.le_trans h.2.2.2.1 k.2.2.2.1, fun j hj h1 h2 => (k.2.2.2.2 j (Nat.lt_of_lt_of_le hj h.2.2.2.1) h1 h2).trans (h.2.2.2.2 j hj h1 h2)⟩
theorem Kept2.of_below {p q : Nat} {a b : World} (h : Below a.heap.size a b) : Kept2 p q a b := ⟨h.os, h.tape, h.output, h.size, fun j hj _ _ => h.block j hj⟩
theorem Kept2.set_left {p q : Nat} (w : World) (o : Nat) (v : Value) : Kept2 p q w (w.setCell ⟨p, o, none⟩ v) :=
  ⟨rfl, rfl, rfl, by simp, fun j hj h1 _ => by simp [World.setCell, Array.getElem?_modify, Ne.symm h1]⟩
theorem Kept2.set_right {p q : Nat} (w : World) (o : Nat) (v : Value) : Kept2 p q w (w.setCell ⟨q, o, none⟩ v) :=
  ⟨rfl, rfl, rfl, by simp, fun j hj _ h1 => by simp [World.setCell, Array.getElem?_modify, Ne.symm h1]⟩
theorem Kept2.below {p q B : Nat} {a w : World} (h : Kept2 p q a w) (hp : B ≤ p) (hq : B ≤ q) (hB : B ≤ a.heap.size) : Below B a w :=
  ⟨h.1, h.2.1, h.2.2.1, h.2.2.2.1, fun j hj => h.2.2.2.2 j (by omega) (by omega) (by omega)⟩
theorem Kept2.cell {p q : Nat} {a w : World} (h : Kept2 p q a w) {b o : Nat} (hb : b < a.heap.size) (h1 : b ≠ p) (h2 : b ≠ q) : w.cell? ⟨b, o, none⟩ = a.cell? ⟨b, o, none⟩ :=
  World.cell?_of_block (h.2.2.2.2 b hb h1 h2)
theorem Kept2.frozen {p q : Nat} {a w : World} (h : Kept2 p q a w) {b o : Nat} (hb : b < a.heap.size) (h1 : b ≠ p) (h2 : b ≠ q) : w.frozen? ⟨b, o, none⟩ = a.frozen? ⟨b, o, none⟩ := by
  simp [World.frozen?, h.2.2.2.2 b hb h1 h2]

/-- The siblings that are left, and whether one lacked. -/
structure PInv (W : World) (ps pl g off c : Nat) (path : List (List UInt8)) (m : Nat) (short : Bool) : Prop where
  p0 : W.cell? ⟨ps, 0, none⟩ = some (.pointer (some ⟨pl, 0, none⟩))
  p1 : W.cell? ⟨ps, 1, none⟩ = some (.bool short)
  f1 : W.frozen? ⟨ps, 1, none⟩ = false
  l0 : ∃ a, W.cell? ⟨pl, 0, none⟩ = some (.slice a m c) ∧ (0 < m → a = some ⟨g, off, none⟩)
  lf : W.frozen? ⟨pl, 0, none⟩ = false
  cells : ∀ j, j < path.length → W.cell? ⟨g, off + j, none⟩ = some (.string ⟨(path.getD j []).toArray⟩)
  hm : m ≤ path.length
  hc : path.length ≤ c
  hx : path.length ≤ 140737488355328
  ne1 : ps ≠ pl
  ne2 : 0 < path.length → g ≠ ps ∧ g ≠ pl ∧ g < W.heap.size
  lt1 : ps < W.heap.size
  lt2 : pl < W.heap.size

theorem PInv.mark {W : World} {ps pl g off c : Nat} {path : List (List UInt8)} {m : Nat} {short : Bool} (h : PInv W ps pl g off c path m short) (b : Bool) : PInv (W.setCell ⟨ps, 1, none⟩ (.bool b)) ps pl g off c path m b := by
  obtain ⟨p0, p1, f1, ⟨a, l0, la⟩, lf, cells, hm, hc, hx, ne1, ne2, lt1, lt2⟩ := h
  refine ⟨?_, ?_, ?_, ⟨a, ?_, la⟩, ?_, ?_, hm, hc, hx, ne1, ?_, by simpa using lt1, by simpa using lt2⟩
  · rw [World.cell?_setCell_other _ _ _ _ (by simp)]; exact p0
  · exact World.cell?_setCell_same _ _ _ p1
  · simpa using f1
  · rw [World.cell?_setCell_far _ _ _ _ ne1]; exact l0
  · simpa using lf
  · intro j hj
    rw [World.cell?_setCell_far _ _ _ _ (Ne.symm (ne2 (by omega)).1)]; exact cells j hj
  · intro h; have := ne2 h; simpa using this
theorem PInv.pop {W : World} {ps pl g off c : Nat} {path : List (List UInt8)} {m : Nat} {short : Bool} (h : PInv W ps pl g off c path m short) (q : Nat) (hm0 : 0 < m) : PInv ((W.drewN q).setCell ⟨pl, 0, none⟩ (.slice (some ⟨g, off, none⟩) (m - 1) c)) ps pl g off c path (m - 1) short := by
  obtain ⟨p0, p1, f1, ⟨a, l0, la⟩, lf, cells, hm, hc, hx, ne1, ne2, lt1, lt2⟩ := h
  refine ⟨?_, ?_, ?_, ⟨_, World.cell?_setCell_same _ _ _ l0, fun _ => rfl⟩, ?_, ?_, by omega, hc, hx, ne1, ?_, by simpa using lt1, by simpa using lt2⟩
  · rw [World.cell?_setCell_far _ _ _ _ (Ne.symm ne1)]; exact p0
  · rw [World.cell?_setCell_far _ _ _ _ (Ne.symm ne1)]; exact p1
  · simpa using f1
  · simpa using lf
  · intro j hj
    rw [World.cell?_setCell_far _ _ _ _ (Ne.symm (ne2 (by omega)).2.1)]; exact cells j hj
  · intro h; have := ne2 h; simpa using this

theorem kept2_pop {pl ps : Nat} (W : World) (q : Nat) (v : Value) : Kept2 pl ps W ((W.drewN q).setCell ⟨pl, 0, none⟩ v) :=
  (Kept2.of_below (p := pl) (q := ps) (below_drewN W.heap.size W q)).trans (Kept2.set_left _ _ _)

theorem last_take (path : List (List UInt8)) (m : Nat) (h0 : 0 < m) (h : m ≤ path.length) : (path.take m).getLastD [] = path.getD (m - 1) [] := by
  rw [List.getLastD_eq_getLast?, List.getLast?_take, if_neg (by omega)]
  simp [List.getD, List.getElem?_eq_getElem (show m - 1 < path.length by omega)]

set_option maxHeartbeats 1000000 in
set_option maxRecDepth 100000 in
theorem next_any (W : World) (ps pl g off c : Nat) (path : List (List UInt8)) (m : Nat) (short : Bool) (h : PInv W ps pl g off c path m short) (hne : ∀ s ∈ path, s ≠ []) :
    Calls Tryz.prog 90 #[.pointer (some ⟨ps, 0, none⟩)] W fun e w' => e = .returned (.string ⟨((path.take m).getLastD []).toArray⟩) ∧ PInv w' ps pl g off c path (m - 1) (short || decide (m = 0)) ∧ Kept2 pl ps W w' := by
  by_cases h0 : m = 0
  · subst h0
    have h1 := h.mark true
    obtain ⟨a, l0, _⟩ := h.l0
    have p0 := h.p0; have p1 := h.p1; have f1 := h.f1
    have C := Lib.hid (pop_zero W pl a c l0)
    have K := Lib.hid (Kept2.set_right (p := pl) (q := ps) W 1 (.bool true))
    have H1 := Lib.hid h1
    clear h h1 l0
    cases short
    all_goals
      go_enter Tryz.func90, Tryz.ntmps90
      go_wp2_with fail
      refine C.out.mono ?_
      rintro e w' ⟨rfl, rfl⟩
      go_wp2_with fail
      go_ret
      exact ⟨rfl, H1.out, K.out⟩
  · obtain ⟨s, hs⟩ : ∃ s, Hid ((path.take m).getLastD [] = s) := ⟨_, rfl⟩
    have hlt : m - 1 < path.length := by have := h.hm; omega
    have hs2 : path.getD (m - 1) [] = s := by rw [← last_take path m (by omega) h.hm, hs.out]
    have hsn : s ≠ [] := hne s (by rw [← hs2]; simp [List.getD, List.getElem?_eq_getElem hlt])
    have hsb : (s == []) = false := by simpa using hsn
    rw [hs.out]
    obtain ⟨a, l0, la⟩ := h.l0
    obtain rfl := la (by omega)
    have hcell := h.cells (m - 1) hlt
    rw [hs2] at hcell
    have C := Lib.hid (pop_some W pl g off m c s (by omega) (by have := h.hm; have := h.hc; omega) (by have := h.hm; have := h.hx; omega) l0 h.lf hcell)
    have H := Lib.hid h
    have p0 := h.p0
    have z : decide (m = 0) = false := by simpa using h0
    rw [z, Bool.or_false]
    clear h hcell l0 la hs hs2 z
    go_enter Tryz.func90, Tryz.ntmps90
    go_wp2_with fail
    refine C.out.mono ?_
    rintro e w' ⟨rfl, q, rfl⟩
    have H2 := Lib.hid (H.out.pop q (by omega))
    have K := Lib.hid (kept2_pop (pl := pl) (ps := ps) W q (.slice (some ⟨g, off, none⟩) (m - 1) c))
    generalize (W.drewN q).setCell ⟨pl, 0, none⟩ (.slice (some ⟨g, off, none⟩) (m - 1) c) = W2 at H2 K ⊢
    have p1 := H2.out.p1; have f1 := H2.out.f1
    have H3 := Lib.hid (H2.out.mark short)
    have K2 := Lib.hid (K.out.trans (Kept2.set_right (p := pl) (q := ps) W2 1 (.bool short)))
    cases short
    all_goals
      go_wp2_with fail
      go_ret
      exact ⟨rfl, H3.out, K2.out⟩
end Go.Proofs.YteoclpjbeadkpaaGreatDoor
/- WALKS: tree's done, proper. -/
namespace Go.Proofs.YteoclpjbeadkpaaGreatDoor
open Go.RowKit

set_option maxHeartbeats 1000000 in
set_option maxRecDepth 100000 in
theorem done_any (W : World) (ps pl g off c : Nat) (path : List (List UInt8)) (m : Nat) (short : Bool) (h : PInv W ps pl g off c path m short) :
    Calls Tryz.prog 91 #[.pointer (some ⟨ps, 0, none⟩)] W fun e w' => e = .returned (.bool (!short && m == 0)) ∧ w' = W := by
  obtain ⟨a, l0, _⟩ := h.l0
  have p0 := h.p0; have p1 := h.p1
  have hm := h.hm; have hx := h.hx
  have z : ((m : Int) == 0) = (m == 0) := by
    by_cases e : m = 0
    · subst e; rfl
    · rw [beq_eq_false_iff_ne.mpr e, beq_eq_false_iff_ne]; omega
  have Z := Lib.hid z
  clear h z
  cases short
  all_goals
    go_enter Tryz.func91, Tryz.ntmps91
    go_wp2_with fail
    go_ret
    first | exact ⟨rfl, rfl⟩ | exact ⟨by rw [← Z.out]; rfl, rfl⟩

theorem isC2 (l : List UInt8) (b : Bool) (hl : l.length ≤ 140737488355328) (hb : Hid (Dg.isL l = b)) (w : World) : Calls Tryz.prog 58 #[.string ⟨l.toArray⟩] w fun e w' => e = .returned (.bool b) ∧ Below w.heap.size w w' := by
  have h := is_any l w hl
  rw [hb.out] at h
  exact h

set_option maxHeartbeats 1000000 in
theorem odd1_any (l : List UInt8) (hl : l.length ≤ 140737488355328) (w : World) : Calls Tryz.prog 123 #[.string ⟨l.toArray⟩] w fun e w' => e = .returned (.bool (!Dg.isL l)) ∧ Below w.heap.size w w' := by
  obtain ⟨b, hb⟩ : ∃ b, Hid (Dg.isL l = b) := ⟨_, rfl⟩
  rw [hb.out]
  go_enter Tryz.func123, Tryz.ntmps123
  go_wp2_with fail
  refine (isC2 l b hl hb _).mono ?_
  rintro e w1 ⟨rfl, c⟩
  go_wp2_with fail
  go_ret
  exact ⟨rfl, c⟩

/-- The first element that is no digest. -/
def oddAt (ss : List (List UInt8)) : Int := match ss.findIdx? (fun s => !Dg.isL s) with | some k => k | none => -1
theorem oddAt_ge (ss : List (List UInt8)) : decide (0 ≤ oddAt ss) = !(ss.all Dg.isL) := by
  unfold oddAt
  cases h : ss.findIdx? (fun s => !Dg.isL s) with
  | none =>
    rw [List.findIdx?_eq_none_iff] at h
    have : ss.all Dg.isL = true := by
      rw [List.all_eq_true]; intro s hs; have := h s hs; simpa using this
    rw [this]; rfl
  | some k =>
    have h2 := (List.findIdx?_eq_some_iff_getElem.mp h)
    obtain ⟨hk, hp, _⟩ := h2
    have : ss.all Dg.isL = false := by
      rw [List.all_eq_false]; exact ⟨_, List.getElem_mem hk, by simpa using hp⟩
    rw [this]
    simp

theorem oddAt_at (ss : List (List UInt8)) (k : Nat) (h : k < ss.length) (h1 : (ss.take k).all Dg.isL = true) (h2 : Dg.isL (ss.getD k []) = false) : oddAt ss = k := by
  unfold oddAt
  have e : ss.findIdx? (fun s => !Dg.isL s) = some k := by
    rw [List.findIdx?_eq_some_iff_getElem]
    refine ⟨h, ?_, fun j hj => ?_⟩
    · simp [List.getD, List.getElem?_eq_getElem h] at h2; simp [h2]
    · have hm : ss[j]'(by omega) ∈ ss.take k := by
        rw [List.mem_take_iff_getElem]; exact ⟨j, by omega, rfl⟩
      have := List.all_eq_true.mp h1 _ hm
      simp [this]
  rw [e]
theorem oddAt_none (ss : List (List UInt8)) (h1 : ss.all Dg.isL = true) : oddAt ss = -1 := by
  unfold oddAt
  have e : ss.findIdx? (fun s => !Dg.isL s) = none := by
    rw [List.findIdx?_eq_none_iff]; intro s hs; simp [List.all_eq_true.mp h1 s hs]
  rw [e]
theorem all_step (ss : List (List UInt8)) (k : Nat) (h : k < ss.length) (h1 : (ss.take k).all Dg.isL = true) (h2 : Dg.isL (ss.getD k []) = true) : (ss.take (k + 1)).all Dg.isL = true := by
  rw [List.take_succ_eq_append_getElem h, List.all_append, h1]
  simp [List.getD, List.getElem?_eq_getElem h] at h2
  simp [h2]

set_option maxHeartbeats 1000000 in
set_option maxRecDepth 100000 in
theorem idxDig_any (ss : List (List UInt8)) (v : Value) (w : World) (hv : HasStrs w v ss) (hn : ss.length ≤ 140737488355328) (hm : Mod ss) :
    Calls Tryz.prog 156 #[v, .func (.func 123) #[] #[]] w fun e w' => e = .returned (.int .i64 (oddAt ss)) ∧ Below w.heap.size w w' := by
  rcases hv with ⟨rfl, a, c, rfl⟩ | ⟨h0, b, off, c, rfl, hlt, hc⟩
  · go_enter Tryz.func156, Tryz.ntmps156
    go_wp2_with fail
    refine wp_loop_rounds 1 ?_
    rw [rounds_succ]
    go_wp2_with fail
    go_ret
    exact ⟨rfl, Below.refl _ _⟩
  · have hm2 : ∀ j, j < ss.length → (ss.getD j []).length ≤ 140737488355328 := fun j hj => by
      have := hm (ss[j]) (List.getElem_mem hj)
      simp [List.getD, List.getElem?_eq_getElem hj]; omega
    clear hm
    go_enter Tryz.func156, Tryz.ntmps156
    go_wp2_with fail
    go_loopw [8] (fun i wr => ∃ k : Nat, k ≤ ss.length ∧ i = .int .i64 k ∧ Hid ((ss.take k).all Dg.isL = true) ∧ Below w.heap.size w wr) (fun i _ => ss.length - (intOf i).toNat)
    case atStart => exact ⟨0, by omega, rfl, rfl, Below.refl _ _⟩
    case round =>
      obtain ⟨k, hk, rfl, hall, hb⟩ := hrel
      by_cases hkl : k < ss.length
      · have hck := (hb.cell (p := ⟨b, off + k, none⟩) hlt).trans (hc k hkl)
        have hl := hm2 k hkl
        have hsz := hb.size
        cases hs : Dg.isL (ss.getD k [])
        · have he := Lib.hid (oddAt_at ss k hkl hall.out hs)
          have HS := Lib.hid hs
          clear hs hall hc hm2
          generalize ss.getD k [] = s at hck hl HS
          go_wp2_with fail
          refine (odd1_any s hl _).mono ?_
          rintro e w1 ⟨rfl, c1⟩
          rw [HS.out]
          have hb2 := hb.trans (c1.mono hsz)
          go_wp2_with fail
          go_ret
          exact ⟨by rw [he.out]; rfl, hb2⟩
        · have he := Lib.hid (all_step ss k hkl hall.out hs)
          have HS := Lib.hid hs
          clear hs hall hc hm2
          generalize ss.getD k [] = s at hck hl HS
          go_wp2_with fail
          refine (odd1_any s hl _).mono ?_
          rintro e w1 ⟨rfl, c1⟩
          rw [HS.out]
          have hb2 := hb.trans (c1.mono hsz)
          go_wp2_with fail
          go_roundw
          case rel => exact ⟨k + 1, by omega, by go_num, he, hb2⟩
          case measure => simp [intOf]; omega
      · obtain rfl : k = ss.length := by omega
        have he : Hid (oddAt ss = -1) := by
          have h := hall.out
          rw [List.take_length] at h
          exact oddAt_none ss h
        clear hc hm2 hall
        go_wp2_with fail
        go_ret
        exact ⟨by rw [he.out]; rfl, hb⟩

set_option maxHeartbeats 1000000 in
theorem proper_any (ss : List (List UInt8)) (v : Value) (w : World) (hv : HasStrs w v ss) (hn : ss.length ≤ 140737488355328) (hm : Mod ss) :
    Calls Tryz.prog 88 #[v] w fun e w' => e = .returned (.bool (ss.all Dg.isL)) ∧ Below w.heap.size w w' := by
  obtain ⟨a, c, rfl⟩ := hv.shape
  obtain ⟨x, hx⟩ : ∃ x, Hid (oddAt ss = x) := ⟨_, rfl⟩
  have hz := oddAt_ge ss
  rw [hx.out] at hz
  have HZ := Lib.hid hz
  have C : ∀ W, Below w.heap.size w W → Calls Tryz.prog 122 #[.slice a ss.length c, .func (.func 123) #[] #[]] W fun e w' => e = .returned (.bool (decide (0 ≤ x))) ∧ Below W.heap.size W w' := by
    intro W hW
    have C0 := Lib.hid (idxDig_any ss _ W (hv.below hW (Nat.le_refl _)) hn hm)
    rw [hx.out] at C0
    clear hz hx hv
    go_enter Tryz.func122, Tryz.ntmps122
    go_wp2_with fail
    refine C0.out.mono ?_
    rintro e w1 ⟨rfl, c1⟩
    go_wp2_with fail
    go_ret
    exact ⟨rfl, c1⟩
  have CC := Lib.hid C
  clear C hz hx hv
  go_enter Tryz.func88, Tryz.ntmps88
  go_wp2_with fail
  refine (CC.out _ (Below.refl _ _)).mono ?_
  rintro e w1 ⟨rfl, c1⟩
  rw [HZ.out]
  go_wp2_with fail
  go_ret
  exact ⟨by simp, c1⟩
end Go.Proofs.YteoclpjbeadkpaaGreatDoor
/- WALKS: tree.Check and its closure. -/
namespace Go.Proofs.YteoclpjbeadkpaaGreatDoor
open Go.RowKit

/-- What the closure of tree.Check finds. -/
structure CInv (W : World) (aL aP aU ps pl g off c : Nat) (leaf : List UInt8) (path : List (List UInt8)) (m : Nat) (short : Bool) : Prop where
  inv : PInv W ps pl g off c path m short
  cL : W.cell? ⟨aL, 0, none⟩ = some (.string ⟨leaf.toArray⟩)
  cP : W.cell? ⟨aP, 0, none⟩ = some (.pointer (some ⟨ps, 0, none⟩))
  cU : W.cell? ⟨aU, 0, none⟩ = some (.func (.func 89) #[] #[.pointer (some ⟨aL, 0, none⟩), .pointer (some ⟨aP, 0, none⟩), .pointer (some ⟨aU, 0, none⟩)])
  nL : aL ≠ pl ∧ aL ≠ ps ∧ aL < W.heap.size
  nP : aP ≠ pl ∧ aP ≠ ps ∧ aP < W.heap.size
  nU : aU ≠ pl ∧ aU ≠ ps ∧ aU < W.heap.size
theorem CInv.kept {W W' : World} {aL aP aU ps pl g off c : Nat} {leaf : List UInt8} {path : List (List UInt8)} {m : Nat} {short : Bool} (h : CInv W aL aP aU ps pl g off c leaf path m short) (k : Kept2 pl ps W W') {m' : Nat} {short' : Bool} (hi : PInv W' ps pl g off c path m' short') :
    CInv W' aL aP aU ps pl g off c leaf path m' short' := by
  obtain ⟨_, cL, cP, cU, ⟨l1, l2, l3⟩, ⟨p1, p2, p3⟩, ⟨u1, u2, u3⟩⟩ := h
  have hs := k.2.2.2.1
  exact ⟨hi, (k.cell l3 l1 l2).trans cL, (k.cell p3 p1 p2).trans cP, (k.cell u3 u1 u2).trans cU, ⟨l1, l2, by omega⟩, ⟨p1, p2, by omega⟩, ⟨u1, u2, by omega⟩⟩
theorem PInv.kept {W W' : World} {ps pl g off c : Nat} {path : List (List UInt8)} {m : Nat} {short : Bool} (h : PInv W ps pl g off c path m short) (hb : Below W.heap.size W W') : PInv W' ps pl g off c path m short := by
  obtain ⟨p0, p1, f1, ⟨a, l0, la⟩, lf, cells, hm, hc, hx, ne1, ne2, lt1, lt2⟩ := h
  have hs := hb.size
  refine ⟨?_, ?_, ?_, ⟨a, ?_, la⟩, ?_, ?_, hm, hc, hx, ne1, ?_, by omega, by omega⟩
  · exact (hb.cell (p := ⟨ps, 0, none⟩) lt1).trans p0
  · exact (hb.cell (p := ⟨ps, 1, none⟩) lt1).trans p1
  · rw [← f1]; simp [World.frozen?, hb.block ps lt1]
  · exact (hb.cell (p := ⟨pl, 0, none⟩) lt2).trans l0
  · rw [← lf]; simp [World.frozen?, hb.block pl lt2]
  · intro j hj
    exact (hb.cell (p := ⟨g, off + j, none⟩) (ne2 (by omega)).2.2).trans (cells j hj)
  · intro h; have := ne2 h; exact ⟨this.1, this.2.1, by omega⟩

/-- the table of the powers of ten, in blocks below B -/
def TabB (B : Nat) (w : World) : Prop := Lib.TabBelow Tryz.prog B w "internal/strconv.uint64pow10" .u64 Lib.pow10Tab
theorem TabB.here {B : Nat} {w : World} (h : TabB B w) : Tab w := Lib.TabBelow.here h
theorem TabB.on {B : Nat} {w w' : World} (h : TabB B w) (hb : Below B w w') : TabB B w' := Lib.TabBelow.on h hb
theorem Tab.toB {w : World} (h : Tab w) : TabB w.heap.size w := Lib.tabBelow_of_tabIs h
theorem up_fin {m L : Nat} {short : Bool} : (short || decide (m = 0) || decide (m - 1 < L)) = (short || decide (m < 1 + L)) := by
  rw [Bool.or_assoc]
  congr 1
  by_cases h : m = 0
  · subst h; simp; omega
  · simp [h]; omega
theorem up_fin2 {m L : Nat} : m - 1 - L = m - (1 + L) := by omega

theorem nodeL_length (a b : List UInt8) : (Tr.nodeL a b).length = 16 := Dg.sumL_length _
theorem upL_length (n i : Nat) (d : List UInt8) (p : List (List UInt8)) : (Tr.upL n i (Tr.leafL d) p).length ≤ 35184372088832 := by
  by_cases h : n ≤ 1
  · rw [Tr.upL_one _ _ _ _ h]
    have : (Tr.leafL d).length = 16 := Dg.sumL_length _
    omega
  · by_cases c : i < Tr.half n
    · rw [Tr.upL_left _ _ _ _ (by omega) c, nodeL_length]; decide
    · rw [Tr.upL_right _ _ _ _ (by omega) (by omega), nodeL_length]; decide

set_option maxHeartbeats 1000000 in
set_option maxRecDepth 100000 in
theorem up_rec (path : List (List UInt8)) (leaf : List UInt8) (hp : ∀ s ∈ path, Dg.isL s = true) (hl : leaf.length ≤ 35184372088832) (aL aP aU ps pl g off c B : Nat) (hBl : B ≤ pl) (hBs : B ≤ ps) :
    ∀ (n i m : Nat) (short : Bool) (W : World), n ≤ 1000000 → i < n → TabB B W → CInv W aL aP aU ps pl g off c leaf path m short →
    Calls Tryz.prog 89 #[.int .i64 (n : Int), .int .i64 (i : Int), .pointer (some ⟨aL, 0, none⟩), .pointer (some ⟨aP, 0, none⟩), .pointer (some ⟨aU, 0, none⟩)] W fun e w' =>
      e = .returned (.string ⟨(Tr.upL n i (Tr.leafL leaf) (path.take m)).toArray⟩) ∧ PInv w' ps pl g off c path (m - Tr.lenL n i) (short || decide (m < Tr.lenL n i)) ∧ Kept2 pl ps W w' := by
  intro n
  induction n using Nat.strongRecOn with
  | _ n ih =>
    intro i m short W hn hi ht hC
    by_cases h1 : n ≤ 1
    · obtain rfl : n = 1 := by omega
      obtain rfl : i = 0 := by omega
      rw [Tr.upL_one 1 0 _ _ (by decide), Tr.lenL_one 1 0 (by decide), Nat.sub_zero, show decide (m < 0) = false by simp, Bool.or_false]
      have hJ : (Dg.joinL [Tr.tagLeaf, leaf]).length ≤ 140737488355328 := by
        have := joinL_two Tr.tagLeaf leaf
        have e : Tr.tagLeaf.length = 4 := rfl
        omega
      have C := Lib.hid (listNew (w := W) (W := W) [Tr.tagLeaf, leaf] (Tr.leafL leaf) ht.here (Below.refl _ _) (by simp) hJ rfl)
      have cL := hC.cL
      have HI := Lib.hid hC.inv
      clear hC ih
      go_enter Tryz.func89, Tryz.ntmps89
      go_wp2_with fail
      refine C.out.mono ?_
      rintro e w1 ⟨rfl, c1⟩
      go_wp2_with fail
      go_ret
      exact ⟨rfl, HI.out.kept c1, Kept2.of_below c1⟩
    · have hk := Tr.half_bounds (n := n) (by omega)
      have HH := Lib.hid (half_any n (by omega) (by omega))
      have hne : ∀ s ∈ path, s ≠ [] := fun s hs e => by
        have := hp s hs; rw [e] at this; cases this
      have HI : Hid (PInv W.drew ps pl g off c path m short) := hC.inv.kept (Below.refl _ _).drew
      have CN := Lib.hid (next_any W.drew ps pl g off c path m short HI.out hne)
      have hsl : ((path.take m).getLastD []).length ≤ 35184372088832 := by
        by_cases hm0 : m = 0
        · subst hm0; simp
        · rw [last_take path m (by omega) hC.inv.hm]
          have hlt : m - 1 < path.length := by have := hC.inv.hm; omega
          have := hp (path.getD (m - 1) []) (by simp [List.getD, List.getElem?_eq_getElem hlt])
          unfold Dg.isL at this
          rw [Bool.and_eq_true] at this
          have := eq_of_beq this.1
          omega
      have hdl : path.take (m - 1) = (path.take m).dropLast := by
        have := hC.inv.hm
        rw [List.dropLast_eq_take, List.take_take, List.length_take]
        congr 1; omega
      by_cases hik : i < Tr.half n
      · have hu := Tr.upL_left n i (Tr.leafL leaf) (path.take m) (by omega) hik
        have hlen := Tr.lenL_left n i (by omega) hik
        have IH := Lib.hid (ih (Tr.half n) (by omega) i (m - 1) (short || decide (m = 0)))
        rw [← hdl] at hu
        rw [hlen]
        obtain ⟨y, hy⟩ : ∃ y, Hid (Tr.upL n i (Tr.leafL leaf) (path.take m) = y) := ⟨_, rfl⟩
        rw [hy.out]
        rw [hy.out] at hu
        obtain ⟨x, hx⟩ : ∃ x, Hid (Tr.upL (Tr.half n) i (Tr.leafL leaf) (path.take (m - 1)) = x) := ⟨_, rfl⟩
        have hxl : x.length ≤ 35184372088832 := by rw [← hx.out]; exact upL_length _ _ _ _
        rw [hx.out] at hu IH
        generalize (path.take m).getLastD [] = side at hu CN hsl
        generalize Tr.half n = k at *
        generalize Tr.lenL k i = L at *
        have cP := hC.cP; have cU := hC.cU
        have HC := Lib.hid hC
        clear hC hdl hlen ih hy hx
        have HU := Lib.hid hu.symm
        clear hu
        have cP1 : W.drew.cell? ⟨aP, 0, none⟩ = some (.pointer (some ⟨ps, 0, none⟩)) := cP
        go_enter Tryz.func89, Tryz.ntmps89
        go_wp2_with fail
        go_region_held3 (fun X => X.cell? ⟨aP, 0, none⟩ = some (.pointer (some ⟨ps, 0, none⟩))) (first | exact cP | exact cP1 | assumption) (first | (go_at_call 67; with_reducible refine (HH.out _).mono ?_; rintro e w' ⟨rfl, rfl⟩) | (go_at_call 90; with_reducible refine CN.out.mono ?_; rintro e w' ⟨rfl, hI2, hK2⟩; have hcP2 := (hK2.cell (o := 0) HC.out.nP.2.2 HC.out.nP.1 HC.out.nP.2.1).trans cP1))
        have hCb := HC.out.kept (Kept2.trans (Kept2.of_below (p := pl) (q := ps) (Below.refl W.heap.size W).drew) hK2) hI2
        have bw := (Kept2.trans (Kept2.of_below (p := pl) (q := ps) (Below.refl W.heap.size W).drew) hK2)
        have hB : B ≤ W.heap.size := by have := HC.out.inv.lt2; omega
        have ht1 := ht.on (bw.below hBl hBs hB)
        have cU1 := hCb.cU
        have HB := Lib.hid hCb
        have KB := Lib.hid bw
        clear hCb bw hI2 hK2 hcP2 CN HI cP1 cP HH
        go_wp2_with fail
        refine (IH.out _ (by omega) hik ht1 HB.out).mono ?_
        rintro e w2 ⟨rfl, hI3, hK3⟩
        have hB2 : B ≤ w'.heap.size := by have := HB.out.inv.lt2; omega
        have ht2 := ht1.on (hK3.below hBl hBs hB2)
        go_wp2_with fail
        refine (node_any x side y w2 ht2.here hxl hsl HU).mono ?_
        rintro e w3 ⟨rfl, c3⟩
        have hI4 := hI3.kept c3
        rw [up_fin, up_fin2] at hI4
        go_wp2_with fail
        go_ret
        exact ⟨rfl, hI4, (KB.out.trans hK3).trans (Kept2.of_below c3)⟩
      · have hu := Tr.upL_right n i (Tr.leafL leaf) (path.take m) (by omega) (by omega)
        have hlen := Tr.lenL_right n i (by omega) (by omega)
        have IH := Lib.hid (ih (n - Tr.half n) (by omega) (i - Tr.half n) (m - 1) (short || decide (m = 0)))
        rw [← hdl] at hu
        rw [hlen]
        obtain ⟨y, hy⟩ : ∃ y, Hid (Tr.upL n i (Tr.leafL leaf) (path.take m) = y) := ⟨_, rfl⟩
        rw [hy.out]
        rw [hy.out] at hu
        obtain ⟨x, hx⟩ : ∃ x, Hid (Tr.upL (n - Tr.half n) (i - Tr.half n) (Tr.leafL leaf) (path.take (m - 1)) = x) := ⟨_, rfl⟩
        have hxl : x.length ≤ 35184372088832 := by rw [← hx.out]; exact upL_length _ _ _ _
        rw [hx.out] at hu IH
        generalize (path.take m).getLastD [] = side at hu CN hsl
        generalize Tr.half n = k at *
        have e1 : ((n - k : Nat) : Int) = (n : Int) - (k : Int) := by omega
        have e2 : ((i - k : Nat) : Int) = (i : Int) - (k : Int) := by omega
        rw [e1, e2] at IH
        clear e1 e2
        generalize Tr.lenL (n - k) (i - k) = L at *
        have cP := hC.cP; have cU := hC.cU
        have HC := Lib.hid hC
        clear hC hdl hlen ih hy hx
        have HU := Lib.hid hu.symm
        clear hu
        have cP1 : W.drew.cell? ⟨aP, 0, none⟩ = some (.pointer (some ⟨ps, 0, none⟩)) := cP
        go_enter Tryz.func89, Tryz.ntmps89
        go_wp2_with fail
        go_region_held3 (fun X => X.cell? ⟨aP, 0, none⟩ = some (.pointer (some ⟨ps, 0, none⟩))) (first | exact cP | exact cP1 | assumption) (first | (go_at_call 67; with_reducible refine (HH.out _).mono ?_; rintro e w' ⟨rfl, rfl⟩) | (go_at_call 90; with_reducible refine CN.out.mono ?_; rintro e w' ⟨rfl, hI2, hK2⟩; have hcP2 := (hK2.cell (o := 0) HC.out.nP.2.2 HC.out.nP.1 HC.out.nP.2.1).trans cP1))
        have hCb := HC.out.kept (Kept2.trans (Kept2.of_below (p := pl) (q := ps) (Below.refl W.heap.size W).drew) hK2) hI2
        have bw := (Kept2.trans (Kept2.of_below (p := pl) (q := ps) (Below.refl W.heap.size W).drew) hK2)
        have hB : B ≤ W.heap.size := by have := HC.out.inv.lt2; omega
        have ht1 := ht.on (bw.below hBl hBs hB)
        have cU1 := hCb.cU
        have HB := Lib.hid hCb
        have KB := Lib.hid bw
        clear hCb bw hI2 hK2 hcP2 CN HI cP1 cP HH
        go_wp2_with fail
        refine (IH.out _ (by omega) (by omega) ht1 HB.out).mono ?_
        rintro e w2 ⟨rfl, hI3, hK3⟩
        have hB2 : B ≤ w'.heap.size := by have := HB.out.inv.lt2; omega
        have ht2 := ht1.on (hK3.below hBl hBs hB2)
        go_wp2_with fail
        refine (node_any side x y w2 ht2.here hsl hxl HU).mono ?_
        rintro e w3 ⟨rfl, c3⟩
        have hI4 := hI3.kept c3
        rw [up_fin, up_fin2] at hI4
        go_wp2_with fail
        go_ret
        exact ⟨rfl, hI4, (KB.out.trans hK3).trans (Kept2.of_below c3)⟩
end Go.Proofs.YteoclpjbeadkpaaGreatDoor
/- WALK: tree.Check. -/
namespace Go.Proofs.YteoclpjbeadkpaaGreatDoor
open Go.RowKit

theorem clone_any (ss : List (List UInt8)) (v : Value) (w : World) (hv : HasStrsC w v ss) (hN : ss.length ≤ 8796093022207) :
    Calls Tryz.prog 87 #[v] w fun e w' => ∃ u, e = .returned u ∧ OwnS w.heap.size w' u ss ∧ Below w.heap.size w w' := by
  by_cases h0 : ss.length = 0
  · have e : ss = [] := List.length_eq_zero_iff.mp h0
    subst e
    obtain ⟨_, a, c, rfl, _, _⟩ := hv
    cases a with
    | none =>
      refine (Tryz.slices_Clone_string_nil 0 c w).mono ?_
      rintro e w' ⟨rfl, rfl⟩
      exact ⟨_, rfl, OwnS.nil _ _, Below.refl _ _⟩
    | some a =>
      refine (Tryz.slices_Clone_string_zero a c w).mono ?_
      rintro e w' ⟨v', rfl, hown, _, hb⟩
      exact ⟨_, rfl, hown, hb⟩
  · obtain ⟨b, off, c, rfl, hc, hmx, hb, hcell⟩ := hv.parts (by omega)
    refine (Tryz.slices_Clone_string b off ss.length c (ss.map fun s => (⟨s.toArray⟩ : ByteArray)) w (by simp) (by omega) (fun j hj => ?_)).mono ?_
    · rw [List.length_map] at hj
      rw [hcell j hj]
      simp [List.getD, List.getElem?_eq_getElem hj]
    · rintro e w' ⟨v', rfl, hown, _, hb'⟩
      refine ⟨_, rfl, ?_, hb'⟩
      unfold OwnS
      rw [List.take_of_length_le (by simp), List.map_map] at hown
      exact hown

def funU (aL aP aU : Nat) : Value := .func (.func 89) #[] #[.pointer (some ⟨aL, 0, none⟩), .pointer (some ⟨aP, 0, none⟩), .pointer (some ⟨aU, 0, none⟩)]
theorem cell_of_heap {w : World} {b i : Nat} {cs : Array Value} {t : TypeId} {fr : Nat × Nat} (h : w.heap[b]? = some (.cells cs t fr)) : w.cell? ⟨b, i, none⟩ = cs[i]? := by simp [World.cell?, h]
theorem free_of_heap {w : World} {b i : Nat} {cs : Array Value} {t : TypeId} (h : w.heap[b]? = some (.cells cs t (0, 0))) : w.frozen? ⟨b, i, none⟩ = false := by simp [World.frozen?, h]
theorem heap_alloc_lt (w : World) (o : Obj) (j : Nat) (h : j < w.heap.size) : (w.alloc o).heap[j]? = w.heap[j]? := by
  show (w.heap.push o)[j]? = _
  rw [Array.getElem?_push, if_neg (Nat.ne_of_lt h)]
theorem heap_alloc_at (w : World) (o : Obj) : (w.alloc o).heap[w.heap.size]? = some o := by
  show (w.heap.push o)[w.heap.size]? = _
  simp
theorem size_alloc (w : World) (o : Obj) : (w.alloc o).heap.size = w.heap.size + 1 := by
  show (w.heap.push o).size = _
  simp

theorem cinv_start {w w1 w2 : World} {leaf : List UInt8} {path : List (List UInt8)} {ua : Option Addr} {uc : Nat} (hown : OwnS (w.alloc (.cells #[.string ⟨leaf.toArray⟩] 9)).heap.size w1 (.slice ua path.length uc) path) (hx : path.length ≤ 140737488355328)
    (cA : Below (w.alloc (.cells #[.string ⟨leaf.toArray⟩] 9)).heap.size (w.alloc (.cells #[.string ⟨leaf.toArray⟩] 9)) w1)
    (cB : Below (w1.alloc (.cells #[.slice ua path.length uc] 118)).heap.size (w1.alloc (.cells #[.slice ua path.length uc] 118)) w2) (t1 t2 t3 : TypeId) :
    ∃ g off, CInv (((w2.alloc (.cells #[.pointer (some ⟨w1.heap.size, 0, none⟩), .bool false] t1)).alloc (.cells #[.pointer (some ⟨w2.heap.size, 0, none⟩)] t2)).alloc (.cells #[funU w.heap.size (w2.heap.size + 1) (w2.heap.size + 1 + 1)] t3))
      w.heap.size (w2.heap.size + 1) (w2.heap.size + 1 + 1) w2.heap.size w1.heap.size g off uc leaf path path.length false := by
  have s1 := cA.size; have s2 := cB.size
  rw [size_alloc] at s1 s2
  obtain ⟨W3, hW3⟩ : ∃ W, W = ((w2.alloc (.cells #[.pointer (some ⟨w1.heap.size, 0, none⟩), .bool false] t1)).alloc (.cells #[.pointer (some ⟨w2.heap.size, 0, none⟩)] t2)).alloc (.cells #[funU w.heap.size (w2.heap.size + 1) (w2.heap.size + 1 + 1)] t3) := ⟨_, rfl⟩
  rw [← hW3]
  have z1 : (w2.alloc (.cells #[.pointer (some ⟨w1.heap.size, 0, none⟩), .bool false] t1)).heap.size = w2.heap.size + 1 := size_alloc _ _
  have z2 : ((w2.alloc (.cells #[.pointer (some ⟨w1.heap.size, 0, none⟩), .bool false] t1)).alloc (.cells #[.pointer (some ⟨w2.heap.size, 0, none⟩)] t2)).heap.size = w2.heap.size + 1 + 1 := by rw [size_alloc, size_alloc]
  have z3 : W3.heap.size = w2.heap.size + 1 + 1 + 1 := by rw [hW3, size_alloc, size_alloc, size_alloc]
  have old : ∀ j, j < w2.heap.size → W3.heap[j]? = w2.heap[j]? := fun j hj => by
    rw [hW3, heap_alloc_lt _ _ _ (by rw [z2]; omega), heap_alloc_lt _ _ _ (by rw [z1]; omega), heap_alloc_lt _ _ _ hj]
  have hS : W3.heap[w2.heap.size]? = some (.cells #[.pointer (some ⟨w1.heap.size, 0, none⟩), .bool false] t1) := by
    rw [hW3, heap_alloc_lt _ _ _ (by rw [z2]; omega), heap_alloc_lt _ _ _ (by rw [z1]; omega)]; exact heap_alloc_at _ _
  have hP : W3.heap[w2.heap.size + 1]? = some (.cells #[.pointer (some ⟨w2.heap.size, 0, none⟩)] t2) := by
    have h := heap_alloc_at (w2.alloc (.cells #[.pointer (some ⟨w1.heap.size, 0, none⟩), .bool false] t1)) (.cells #[.pointer (some ⟨w2.heap.size, 0, none⟩)] t2)
    rw [z1] at h
    rw [hW3, heap_alloc_lt _ _ _ (by rw [z2]; omega)]; exact h
  have hU : W3.heap[w2.heap.size + 1 + 1]? = some (.cells #[funU w.heap.size (w2.heap.size + 1) (w2.heap.size + 1 + 1)] t3) := by
    have h := heap_alloc_at ((w2.alloc (.cells #[.pointer (some ⟨w1.heap.size, 0, none⟩), .bool false] t1)).alloc (.cells #[.pointer (some ⟨w2.heap.size, 0, none⟩)] t2)) (.cells #[funU w.heap.size (w2.heap.size + 1) (w2.heap.size + 1 + 1)] t3)
    rw [z2] at h
    rw [hW3]; exact h
  have hL : W3.heap[w.heap.size]? = some (.cells #[.string ⟨leaf.toArray⟩] 9) := by
    rw [old _ (by omega), cB.block _ (by rw [size_alloc]; omega), heap_alloc_lt _ _ _ (by omega), cA.block _ (by rw [size_alloc]; omega)]; exact heap_alloc_at _ _
  have hD : W3.heap[w1.heap.size]? = some (.cells #[.slice ua path.length uc] 118) := by
    rw [old _ (by omega), cB.block _ (by rw [size_alloc]; omega)]; exact heap_alloc_at _ _
  have hone : ∀ g off, (0 < path.length → ua = some ⟨g, off, none⟩) → (∀ j, j < path.length → W3.cell? ⟨g, off + j, none⟩ = some (.string ⟨(path.getD j []).toArray⟩)) → path.length ≤ uc → (0 < path.length → w.heap.size < g ∧ g < w1.heap.size) →
      CInv W3 w.heap.size (w2.heap.size + 1) (w2.heap.size + 1 + 1) w2.heap.size w1.heap.size g off uc leaf path path.length false := by
    intro g off h1 h2 h3 h4
    refine ⟨⟨?_, ?_, free_of_heap hS, ⟨ua, ?_, h1⟩, free_of_heap hD, h2, Nat.le_refl _, h3, hx, by omega, fun h => ?_, by omega, by omega⟩, ?_, ?_, ?_, ⟨by omega, by omega, by omega⟩, ⟨by omega, by omega, by omega⟩, ⟨by omega, by omega, by omega⟩⟩
    · rw [cell_of_heap hS]; rfl
    · rw [cell_of_heap hS]; rfl
    · rw [cell_of_heap hD]; rfl
    · have := h4 h; exact ⟨by omega, by omega, by omega⟩
    · rw [cell_of_heap hL]; rfl
    · rw [cell_of_heap hP]; rfl
    · rw [cell_of_heap hU]; rfl
  rcases hown.2 with ⟨h0, hz⟩ | ⟨g, cap, cur, hv, hB, hg, hnc, hcm, hcur, htake⟩
  · exact ⟨0, 0, hone 0 0 (fun h => by omega) (fun j hj => by omega) (by omega) (fun h => by omega)⟩
  · injection hv with e1 e2 e3
    subst e1; subst e3
    have hglt : g < w1.heap.size := (Array.getElem?_eq_some_iff.mp hg).1
    rw [size_alloc] at hB
    have hg3 : W3.heap[g]? = some (.cells cur 9 (0, 0)) := by
      rw [old _ (by omega), cB.block _ (by rw [size_alloc]; omega), heap_alloc_lt _ _ _ hglt]; exact hg
    refine ⟨g, 0, hone g 0 (fun _ => rfl) (fun j hj => ?_) hnc (fun _ => ⟨by omega, hglt⟩)⟩
    rw [Nat.zero_add, cell_of_heap hg3]
    have e : (cur.toList.take (path.length * 1))[j]? = some (Value.string ⟨(path.getD j []).toArray⟩) := by
      rw [htake]; simp [List.getD, List.getElem?_eq_getElem hj]
    rw [List.getElem?_take_of_lt (by omega)] at e
    simpa using e

theorem check_eq (root : List UInt8) (n i : Int) (leaf : List UInt8) (path : List (List UInt8)) (c1 : n ≤ 1000000) (c2 : 0 ≤ i) (c3 : i < n) (c4 : path.all Dg.isL = true) :
    Tr.checkL root n i leaf path = ((Tr.upL n.toNat i.toNat (Tr.leafL leaf) path == root) && (!decide (path.length < Tr.lenL n.toNat i.toNat) && (path.length - Tr.lenL n.toNat i.toNat == 0))) := by
  unfold Tr.checkL
  rw [decide_eq_true c1, decide_eq_true c2, decide_eq_true c3, c4]
  simp only [Bool.true_and]
  rw [Bool.and_comm]
  congr 1
  by_cases h : path.length = Tr.lenL n.toNat i.toNat
  · rw [h]; simp
  · rw [beq_eq_false_iff_ne.mpr h]
    by_cases h2 : path.length < Tr.lenL n.toNat i.toNat
    · simp [h2]
    · have h3 : ¬ path.length - Tr.lenL n.toNat i.toNat = 0 := by omega
      rw [beq_eq_false_iff_ne.mpr h3]; simp

set_option maxHeartbeats 1000000 in
set_option maxRecDepth 100000 in
theorem check_any (root leaf : List UInt8) (n i : Int) (path : List (List UInt8)) (v : Value) (w : World) (ht : Tab w) (hv : HasStrsC w v path) (hm : Mod path) (hN : path.length ≤ 8796093022207) (hl : leaf.length ≤ 35184372088832)
    (hn0 : -9223372036854775808 ≤ n) (hn1 : n ≤ 9223372036854775807) (hi0 : -9223372036854775808 ≤ i) (hi1 : i ≤ 9223372036854775807) :
    Calls Tryz.prog 49 #[.string ⟨root.toArray⟩, .int .i64 n, .int .i64 i, .string ⟨leaf.toArray⟩, v] w fun e w' => e = .returned (.bool (Tr.checkL root n i leaf path)) ∧ Below w.heap.size w w' := by
  have CC : ∀ W, Below w.heap.size w W → Calls Tryz.prog 87 #[v] W fun e w' => ∃ u, e = .returned u ∧ OwnS W.heap.size w' u path ∧ Below W.heap.size W w' := fun W hW => clone_any path v W (hv.below hW (Nat.le_refl _)) hN
  have CC := Lib.hid CC
  have bA : Below w.heap.size w (w.alloc (.cells #[.string ⟨leaf.toArray⟩] 9)) := (Below.refl _ _).alloc (Nat.le_refl _) _
  by_cases c1 : n ≤ 1000000
  · by_cases c2 : 0 ≤ i
    · by_cases c3 : i < n
      · cases c4 : path.all Dg.isL
        · have HR : Hid (Tr.checkL root n i leaf path = false) := by unfold Hid Tr.checkL; rw [c4]; simp
          rw [HR.out]
          have C4 := Lib.hid c4; clear c4
          go_enter Tryz.func49, Tryz.ntmps49
          go_wp2_with fail
          refine (CC.out _ bA).mono ?_
          rintro e w1 ⟨u, rfl, hown, cA⟩
          obtain ⟨ua, uc, rfl⟩ := hown.shape
          have b1 := below_next bA cA
          go_wp2_with fail
          have hsP := hown.has (by omega)
          have b2 : Below w.heap.size w (w1.alloc (.cells #[.slice ua path.length uc] 118)) := below_next b1 ((Below.refl _ _).alloc (Nat.le_refl _) _)
          have hsP2 : HasStrsC (w1.alloc (.cells #[.slice ua path.length uc] 118)) (.slice ua path.length uc) path := hsP.below (B := w1.heap.size) ((Below.refl _ _).alloc (Nat.le_refl _) _) (Nat.le_refl _)
          refine (proper_any path _ _ hsP2.1 (by omega) hm).mono ?_
          rintro e w2 ⟨rfl, cB⟩
          rw [C4.out]
          have b3 := below_next b2 cB
          go_wp2_with fail
          go_ret
          exact ⟨rfl, b3⟩
        · have HL : ∀ s ∈ path, Dg.isL s = true := List.all_eq_true.mp c4
          have hck := check_eq root n i leaf path c1 c2 c3 c4
          have C4 := Lib.hid c4; clear c4
          obtain ⟨n, rfl⟩ := Int.eq_ofNat_of_zero_le (show 0 ≤ n by omega)
          obtain ⟨i, rfl⟩ := Int.eq_ofNat_of_zero_le c2
          rw [Int.toNat_natCast, Int.toNat_natCast] at hck
          have UP := Lib.hid (fun (aL aP aU ps pl g off c B : Nat) (hBl : B ≤ pl) (hBs : B ≤ ps) W => up_rec path leaf HL hl aL aP aU ps pl g off c B hBl hBs n i path.length false W (by omega) (by omega))
          rw [List.take_length] at UP
          obtain ⟨x, hx⟩ : ∃ x, Hid (Tr.upL n i (Tr.leafL leaf) path = x) := ⟨_, rfl⟩
          rw [hx.out] at UP hck
          obtain ⟨L, hL⟩ : ∃ L, Hid (Tr.lenL n i = L) := ⟨_, rfl⟩
          rw [hL.out] at UP hck
          rw [Bool.false_or] at UP
          cases hxr : (x == root)
          · rw [hxr] at hck
            have HX := Lib.hid hxr
            rw [Bool.false_and] at hck; rw [hck]
            go_enter Tryz.func49, Tryz.ntmps49
            go_wp2_with fail
            refine (CC.out _ bA).mono ?_
            rintro e w1 ⟨u, rfl, hown, cA⟩
            obtain ⟨ua, uc, rfl⟩ := hown.shape
            have b1 := below_next bA cA
            go_wp2_with fail
            have hsP := hown.has (by omega)
            have b2 : Below w.heap.size w (w1.alloc (.cells #[.slice ua path.length uc] 118)) := below_next b1 ((Below.refl _ _).alloc (Nat.le_refl _) _)
            have hsP2 : HasStrsC (w1.alloc (.cells #[.slice ua path.length uc] 118)) (.slice ua path.length uc) path := hsP.below (B := w1.heap.size) ((Below.refl _ _).alloc (Nat.le_refl _) _) (Nat.le_refl _)
            refine (proper_any path _ _ hsP2.1 (by omega) hm).mono ?_
            rintro e w2 ⟨rfl, cB⟩
            rw [C4.out]
            have b3 := below_next b2 cB
            go_wp2_with fail
            obtain ⟨g, off, hCI⟩ := cinv_start hown (by omega) cA cB 122 119 123
            have b4 : Below w.heap.size w (((w2.alloc (.cells #[.pointer (some ⟨w1.heap.size, 0, none⟩), .bool false] 122)).alloc (.cells #[.pointer (some ⟨w2.heap.size, 0, none⟩)] 119)).alloc (.cells #[funU w.heap.size (w2.heap.size + 1) (w2.heap.size + 1 + 1)] 123)) :=
              ((b3.alloc b3.size _).alloc (by rw [size_alloc]; have := b3.size; omega) _).alloc (by rw [size_alloc, size_alloc]; have := b3.size; omega) _
            refine (UP.out _ _ _ _ _ _ _ _ w.heap.size (by have := b1.size; omega) (by have := b3.size; omega) _ (ht.toB.on b4) hCI).mono ?_
            rintro e w5 ⟨rfl, hI, hK⟩
            have hCI2 := hCI.kept hK hI
            have cP := hCI2.cP
            have b5 := b4.trans (hK.below (by have := b1.size; omega) (by have := b3.size; omega) b4.size)
            go_wp2_with fail
            go_ret
            exact ⟨rfl, b5⟩
          · rw [hxr] at hck
            have HX := Lib.hid hxr
            rw [Bool.true_and] at hck; rw [hck]
            go_enter Tryz.func49, Tryz.ntmps49
            go_wp2_with fail
            refine (CC.out _ bA).mono ?_
            rintro e w1 ⟨u, rfl, hown, cA⟩
            obtain ⟨ua, uc, rfl⟩ := hown.shape
            have b1 := below_next bA cA
            go_wp2_with fail
            have hsP := hown.has (by omega)
            have b2 : Below w.heap.size w (w1.alloc (.cells #[.slice ua path.length uc] 118)) := below_next b1 ((Below.refl _ _).alloc (Nat.le_refl _) _)
            have hsP2 : HasStrsC (w1.alloc (.cells #[.slice ua path.length uc] 118)) (.slice ua path.length uc) path := hsP.below (B := w1.heap.size) ((Below.refl _ _).alloc (Nat.le_refl _) _) (Nat.le_refl _)
            refine (proper_any path _ _ hsP2.1 (by omega) hm).mono ?_
            rintro e w2 ⟨rfl, cB⟩
            rw [C4.out]
            have b3 := below_next b2 cB
            go_wp2_with fail
            obtain ⟨g, off, hCI⟩ := cinv_start hown (by omega) cA cB 122 119 123
            have b4 : Below w.heap.size w (((w2.alloc (.cells #[.pointer (some ⟨w1.heap.size, 0, none⟩), .bool false] 122)).alloc (.cells #[.pointer (some ⟨w2.heap.size, 0, none⟩)] 119)).alloc (.cells #[funU w.heap.size (w2.heap.size + 1) (w2.heap.size + 1 + 1)] 123)) :=
              ((b3.alloc b3.size _).alloc (by rw [size_alloc]; have := b3.size; omega) _).alloc (by rw [size_alloc, size_alloc]; have := b3.size; omega) _
            refine (UP.out _ _ _ _ _ _ _ _ w.heap.size (by have := b1.size; omega) (by have := b3.size; omega) _ (ht.toB.on b4) hCI).mono ?_
            rintro e w5 ⟨rfl, hI, hK⟩
            have hCI2 := hCI.kept hK hI
            have cP := hCI2.cP
            have b5 := b4.trans (hK.below (by have := b1.size; omega) (by have := b3.size; omega) b4.size)
            go_wp2_with fail
            refine (done_any w5 _ _ _ _ _ _ _ _ hCI2.inv).mono ?_
            rintro e w6 ⟨rfl, rfl⟩
            go_wp2_with fail
            go_ret
            exact ⟨rfl, b5⟩
      · have HR : Hid (Tr.checkL root n i leaf path = false) := by unfold Hid Tr.checkL; rw [show decide (i < n) = false by simpa using c3]; simp
        rw [HR.out]
        go_enter Tryz.func49, Tryz.ntmps49
        go_wp2_with fail
        refine (CC.out _ bA).mono ?_
        rintro e w1 ⟨u, rfl, hown, cA⟩
        obtain ⟨ua, uc, rfl⟩ := hown.shape
        have b1 := below_next bA cA
        go_wp2_with fail
        go_ret
        exact ⟨rfl, b1.trans ((Below.refl _ _).alloc b1.size _)⟩
    · have HR : Hid (Tr.checkL root n i leaf path = false) := by unfold Hid Tr.checkL; rw [show decide (0 ≤ i) = false by simpa using c2]; simp
      rw [HR.out]
      go_enter Tryz.func49, Tryz.ntmps49
      go_wp2_with fail
      refine (CC.out _ bA).mono ?_
      rintro e w1 ⟨u, rfl, hown, cA⟩
      obtain ⟨ua, uc, rfl⟩ := hown.shape
      have b1 := below_next bA cA
      go_wp2_with fail
      go_ret
      exact ⟨rfl, b1.trans ((Below.refl _ _).alloc b1.size _)⟩
  · have HR : Hid (Tr.checkL root n i leaf path = false) := by unfold Hid Tr.checkL; rw [show decide (n ≤ 1000000) = false by simpa using c1]; simp
    rw [HR.out]
    go_enter Tryz.func49, Tryz.ntmps49
    go_wp2_with fail
    refine (CC.out _ bA).mono ?_
    rintro e w1 ⟨u, rfl, hown, cA⟩
    obtain ⟨ua, uc, rfl⟩ := hown.shape
    have b1 := below_next bA cA
    go_wp2_with fail
    go_ret
    exact ⟨rfl, b1.trans ((Below.refl _ _).alloc b1.size _)⟩
end Go.Proofs.YteoclpjbeadkpaaGreatDoor
