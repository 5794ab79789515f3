/- The texts HdBase RfInts HdPlain HdCalls HdWalk TdShort RowBase RowOpen, merged: walks and plain laws that the statements of layer 44 use. -/
import Derived.Test.YteoclpjbeadkpaaGreatDoorMpG
import Derived.Test.YteoclpjbeadkpaaGreatDoorMpA
import Derived.Test.YteoclpjbeadkpaaGreatDoorTie
import Derived.Test.YteoclpjbeadkpaaGreatDoorCards
import Derived.Test.YteoclpjbeadkpaaGreatDoorMpB
import Derived.ProofKit
import Derived.OpenShut
import Derived.SizedLaws
import Derived.Deep.DeepHandedRow
import Derived.Lib.LaidTab
import Derived.Lib.SmallJoins
set_option linter.unusedSimpArgs false
set_option linter.unusedVariables false
/- WALK: example (the laws of layer 44); what it is on the plain side. -/
namespace Go.Proofs.YteoclpjbeadkpaaGreatDoor
open Go.RowKit Go.Shelf Go.Maps

def exL : List Co.It := [⟨2, [97], [], [49], [110], [115], false⟩, ⟨2, [98], [], [], [], [], true⟩, ⟨2, [99], [], [], [], [], false⟩]

set_option maxHeartbeats 4000000 in
set_option maxRecDepth 100000 in
theorem example_any (w : World) : Calls Tryz.prog 40 #[] w fun e w' => ∃ a c, e = .returned (.agg #[.slice a 3 c]) ∧ HasIts w' (.slice a 3 c) exL ∧ 3 ≤ c ∧ Below w.heap.size w w' := by
  go_enter Tryz.func40, Tryz.ntmps40
  go_wp2_with fail
  have h0 : ((w.alloc (.cells #[.slice (some ⟨w.heap.size + 1, 0, none⟩) 3 3] 24)).alloc (.cells #[.int .i64 2, .string ⟨#[97]⟩, .string ⟨#[]⟩, .string ⟨#[49]⟩, .string ⟨#[110]⟩, .string ⟨#[115]⟩, .bool false, .int .i64 2, .string ⟨#[98]⟩, .string ⟨#[]⟩, .string ⟨#[]⟩, .string ⟨#[]⟩, .string ⟨#[]⟩, .bool true, .int .i64 2, .string ⟨#[99]⟩, .string ⟨#[]⟩, .string ⟨#[]⟩, .string ⟨#[]⟩, .string ⟨#[]⟩, .bool false] 26)).heap[w.heap.size]? = some (.cells #[.slice (some ⟨w.heap.size + 1, 0, none⟩) 3 3] 24 (0, 0)) := (heap_alloc_lt _ _ _ (by simp)).trans (heap_alloc_at w _)
  have h1 : ((w.alloc (.cells #[.slice (some ⟨w.heap.size + 1, 0, none⟩) 3 3] 24)).alloc (.cells #[.int .i64 2, .string ⟨#[97]⟩, .string ⟨#[]⟩, .string ⟨#[49]⟩, .string ⟨#[110]⟩, .string ⟨#[115]⟩, .bool false, .int .i64 2, .string ⟨#[98]⟩, .string ⟨#[]⟩, .string ⟨#[]⟩, .string ⟨#[]⟩, .string ⟨#[]⟩, .bool true, .int .i64 2, .string ⟨#[99]⟩, .string ⟨#[]⟩, .string ⟨#[]⟩, .string ⟨#[]⟩, .string ⟨#[]⟩, .bool false] 26)).heap[w.heap.size + 1]? = some (.cells #[.int .i64 2, .string ⟨#[97]⟩, .string ⟨#[]⟩, .string ⟨#[49]⟩, .string ⟨#[110]⟩, .string ⟨#[115]⟩, .bool false, .int .i64 2, .string ⟨#[98]⟩, .string ⟨#[]⟩, .string ⟨#[]⟩, .string ⟨#[]⟩, .string ⟨#[]⟩, .bool true, .int .i64 2, .string ⟨#[99]⟩, .string ⟨#[]⟩, .string ⟨#[]⟩, .string ⟨#[]⟩, .string ⟨#[]⟩, .bool false] 26 (0, 0)) := by
    have e := heap_alloc_at (w.alloc (.cells #[.slice (some ⟨w.heap.size + 1, 0, none⟩) 3 3] 24)) (.cells #[.int .i64 2, .string ⟨#[97]⟩, .string ⟨#[]⟩, .string ⟨#[49]⟩, .string ⟨#[110]⟩, .string ⟨#[115]⟩, .bool false, .int .i64 2, .string ⟨#[98]⟩, .string ⟨#[]⟩, .string ⟨#[]⟩, .string ⟨#[]⟩, .string ⟨#[]⟩, .bool true, .int .i64 2, .string ⟨#[99]⟩, .string ⟨#[]⟩, .string ⟨#[]⟩, .string ⟨#[]⟩, .string ⟨#[]⟩, .bool false] 26)
    rw [World.size_alloc] at e
    exact e
  have b : Below w.heap.size w ((w.alloc (.cells #[.slice (some ⟨w.heap.size + 1, 0, none⟩) 3 3] 24)).alloc (.cells #[.int .i64 2, .string ⟨#[97]⟩, .string ⟨#[]⟩, .string ⟨#[49]⟩, .string ⟨#[110]⟩, .string ⟨#[115]⟩, .bool false, .int .i64 2, .string ⟨#[98]⟩, .string ⟨#[]⟩, .string ⟨#[]⟩, .string ⟨#[]⟩, .string ⟨#[]⟩, .bool true, .int .i64 2, .string ⟨#[99]⟩, .string ⟨#[]⟩, .string ⟨#[]⟩, .string ⟨#[]⟩, .string ⟨#[]⟩, .bool false] 26)) := ((Below.refl _ w).alloc (Nat.le_refl _) _).alloc (by simp) _
  obtain ⟨Z, hZ⟩ : ∃ Z, (w.alloc (.cells #[.slice (some ⟨w.heap.size + 1, 0, none⟩) 3 3] 24)).alloc (.cells #[.int .i64 2, .string ⟨#[97]⟩, .string ⟨#[]⟩, .string ⟨#[49]⟩, .string ⟨#[110]⟩, .string ⟨#[115]⟩, .bool false, .int .i64 2, .string ⟨#[98]⟩, .string ⟨#[]⟩, .string ⟨#[]⟩, .string ⟨#[]⟩, .string ⟨#[]⟩, .bool true, .int .i64 2, .string ⟨#[99]⟩, .string ⟨#[]⟩, .string ⟨#[]⟩, .string ⟨#[]⟩, .string ⟨#[]⟩, .bool false] 26) = Z := ⟨_, rfl⟩
  rw [hZ] at h0 h1 b ⊢
  clear hZ
  have y0 := cell_of_heap (i := 0) h0
  refine bodyPost_ret (v := .agg #[.slice (some ⟨w.heap.size + 1, 0, none⟩) 3 3]) (by simp [results, Tryz.f40, go_sem, y0]) rfl ⟨_, _, rfl, ?_, Nat.le_refl _, b⟩
  refine Or.inr ⟨by decide, w.heap.size + 1, 0, 3, rfl, (Array.getElem?_eq_some_iff.1 h1).1, fun j hj => ?_⟩
  match j, hj with
  | 0, _ => exact ⟨cell_of_heap h1, cell_of_heap h1, cell_of_heap h1, cell_of_heap h1, cell_of_heap h1, cell_of_heap h1, cell_of_heap h1⟩
  | 1, _ => exact ⟨cell_of_heap h1, cell_of_heap h1, cell_of_heap h1, cell_of_heap h1, cell_of_heap h1, cell_of_heap h1, cell_of_heap h1⟩
  | 2, _ => exact ⟨cell_of_heap h1, cell_of_heap h1, cell_of_heap h1, cell_of_heap h1, cell_of_heap h1, cell_of_heap h1, cell_of_heap h1⟩
  | (n + 3), h => exact absurd h (by show ¬ (n + 3 < 3); omega)
end Go.Proofs.YteoclpjbeadkpaaGreatDoor
/- WALK: pandectref44.Ints. -/
namespace Go.Proofs.YteoclpjbeadkpaaGreatDoor
open Go.RowKit Go.Shelf Go.Maps

/-- A slice of numbers in memory. -/
def HasI (w : World) (v : Value) (xs : List Int) : Prop :=
  (xs = [] ∧ ∃ a c, v = .slice a 0 c) ∨ (0 < xs.length ∧ ∃ b off c, v = .slice (some ⟨b, off, none⟩) xs.length c ∧ b < w.heap.size ∧ ∀ j, j < xs.length → w.cell? ⟨b, off + j, none⟩ = some (.int .i64 (xs.getD j 0)))
theorem HasI.shape {w : World} {v : Value} {xs : List Int} (h : HasI w v xs) : ∃ a c, v = .slice a xs.length c := by
  rcases h with ⟨rfl, a, c, rfl⟩ | ⟨_, b, off, c, rfl, _⟩
  · exact ⟨a, c, rfl⟩
  · exact ⟨_, c, rfl⟩
theorem HasI.below {w w' : World} {v : Value} {xs : List Int} (h : HasI w v xs) {B : Nat} (hb : Below B w w') (hB : w.heap.size ≤ B) : HasI w' v xs := by
  rcases h with h | ⟨h0, b, off, c, rfl, hlt, hc⟩
  · exact Or.inl h
  · exact Or.inr ⟨h0, b, off, c, rfl, Nat.lt_of_lt_of_le hlt hb.size, fun j hj => (hb.cell (p := ⟨b, off + j, none⟩) (by show b < B; omega)).trans (hc j hj)⟩
theorem OwnI.has {B : Nat} {w : World} {v : Value} {xs : List Int} (h : OwnI B w v xs) : HasI w v xs := by
  rcases h.2 with ⟨rfl, h0⟩ | ⟨g, cap, cur, rfl, hB, hg, hnc, hcm, hcur, htake⟩
  · have e : xs = [] := List.length_eq_zero_iff.mp h0
    subst e
    exact Or.inl ⟨rfl, _, _, rfl⟩
  · by_cases h0 : xs.length = 0
    · have e : xs = [] := List.length_eq_zero_iff.mp h0
      subst e
      exact Or.inl ⟨rfl, _, _, rfl⟩
    · have hlt : g < w.heap.size := (Array.getElem?_eq_some_iff.mp hg).1
      refine Or.inr ⟨by omega, g, 0, cap, rfl, hlt, fun j hj => ?_⟩
      rw [Nat.zero_add, show w.cell? ⟨g, j, none⟩ = cur[j]? by simp [World.cell?, hg]]
      have e : (cur.toList.take (xs.length * 1))[j]? = some (Value.int .i64 (xs.getD j 0)) := by
        rw [htake]; simp [List.getD, List.getElem?_eq_getElem hj]
      rw [List.getElem?_take_of_lt (by omega)] at e
      simpa using e
theorem take_sameI {ss tt : List Int} {k : Nat} {s : Int} (h : ss.take k = tt.take k) (hl : ss.length = tt.length) (hk : k < ss.length) (h1 : ss.getD k 0 = s) (h2 : tt.getD k 0 = s) : ss.take (k + 1) = tt.take (k + 1) := by
  rw [List.take_succ_eq_append_getElem hk, List.take_succ_eq_append_getElem (by omega), h]
  simp only [List.getD, List.getElem?_eq_getElem hk, List.getElem?_eq_getElem (show k < tt.length by omega), Option.getD_some] at h1 h2
  rw [h1, h2]

set_option maxHeartbeats 400000 in
theorem ints_any (ss tt : List Int) (v u : Value) (w : World) (hv : HasI w v ss) (hu : HasI w u tt) (hn : ss.length ≤ 140737488355328) (hn2 : tt.length ≤ 140737488355328) :
    Calls Tryz.prog 28 #[v, u] w fun e w' => e = .returned (.bool (ss == tt)) ∧ ∃ q, w' = w.drewN q := by
  by_cases hl : ss.length = tt.length
  · rcases hv with ⟨rfl, a, c, rfl⟩ | ⟨h0, b, off, c, rfl, hlt, hc⟩
    · obtain ⟨a2, c2, rfl⟩ := hu.shape
      have htt : tt = [] := List.eq_nil_of_length_eq_zero (by rw [← hl]; rfl)
      subst htt
      clear hu hl hn hn2
      go_enter Tryz.func28, Tryz.ntmps28
      go_wp2_with fail
      refine wp_loop_rounds 1 ?_
      rw [rounds_succ]
      go_wp2_with fail
      go_ret
      exact ⟨rfl, 0, rfl⟩
    · rcases hu with ⟨rfl, a, c, rfl⟩ | ⟨h02, b2, off2, c2, rfl, hlt2, hc2⟩
      · rw [List.length_nil] at hl; omega
      · rw [← hl] at hc2 ⊢
        clear h02 hn2
        have HL := Lib.hid hl; clear hl
        go_enter Tryz.func28, Tryz.ntmps28
        go_wp2_with fail
        go_loopw [5] (fun i wr => ∃ k q : Nat, k ≤ ss.length ∧ i = .int .i64 (k : Int) ∧ wr = w.drewN q ∧ ss.take k = tt.take k) (fun i _ => ss.length - (intOf i).toNat)
        case atStart => exact ⟨0, 0, by omega, rfl, rfl, by simp⟩
        case round =>
          obtain ⟨k, q, hk, rfl, rfl, ha⟩ := hrel
          have HA := Lib.hid ha; clear ha
          by_cases hkl : k < ss.length
          · have hck := hc k hkl
            have hck2 := hc2 k hkl
            generalize hs : ss.getD k 0 = s at *
            generalize ht : tt.getD k 0 = t at *
            have HS := Lib.hid hs; have HT := Lib.hid ht; clear hs ht hc hc2
            go_wp2_with fail
            go_quiet (fail)
            by_cases hst : s = t
            · subst hst
              have hb : (s != s) = false := by simp
              rw [hb]; clear hb
              go_wp2
              go_roundw
              case rel => exact ⟨k + 1, q + nq, by omega, by go_num, rfl, take_sameI HA.out HL.out hkl HS.out HT.out⟩
              case measure => simp [intOf]; omega
            · have hb : (s != t) = true := by simpa using hst
              rw [hb]; clear hb
              have HF : Hid ((ss == tt) = false) := by
                unfold Hid
                rw [beq_eq_false_iff_ne]
                intro e
                rw [e, HT.out] at HS
                exact hst HS.out.symm
              go_wp2
              go_ret
              exact ⟨by rw [HF.out]; rfl, q + nq, World.drewN_drewN _ _ _⟩
          · obtain rfl : k = ss.length := by omega
            have HF : Hid ((ss == tt) = true) := by
              unfold Hid
              have h1 := HA.out
              rw [List.take_length, HL.out, List.take_length] at h1
              rw [h1, beq_self_eq_true]
            clear hc hc2
            go_wp2_with fail
            go_ret
            exact ⟨by rw [HF.out]; rfl, q, rfl⟩
  · have hb : ((ss.length : Int) != (tt.length : Int)) = true := by rw [bne_iff_ne]; omega
    have HF : Hid ((ss == tt) = false) := by
      unfold Hid
      rw [beq_eq_false_iff_ne]
      intro e; rw [e] at hl; exact hl rfl
    obtain ⟨a, c, rfl⟩ := hv.shape
    obtain ⟨a2, c2, rfl⟩ := hu.shape
    clear hv hu hl
    go_enter Tryz.func28, Tryz.ntmps28
    go_wp2_with fail
    go_ret
    exact ⟨by rw [HF.out]; rfl, 0, rfl⟩

end Go.Proofs.YteoclpjbeadkpaaGreatDoor
/- PLAIN: what the head of the laws of layer 44 computes. -/
namespace Go.Proofs.YteoclpjbeadkpaaGreatDoor
open Go.RowKit

def exRoot : List UInt8 := Tr.rootL (Co.leavesL exL)
def othRoot : List UInt8 := Tr.rootL []
def offKey : List UInt8 := Se.pubL officeL
def sgL (wrong : Bool) (day cnt : Int) (root : List UInt8) : List (List UInt8) := Se.sigL (secL wrong) (Pf.msgL day cnt root)
def exP : Pf.Pr := ⟨2, 0, ⟨2, [97], [], [], [110], [115], false⟩, Tr.pathL (Co.leavesL exL) 0⟩

theorem make_a : Pf.makeL exL [97] = (exP, 0) := by kernel_rfl
theorem make_b : Pf.makeL exL [98] = (Pf.zeroPr, 16) := by kernel_rfl
theorem make_x : Pf.makeL exL [120] = (Pf.zeroPr, 11) := by kernel_rfl
theorem ex_check : Pf.checkL exRoot exP = true := by decide +kernel
theorem ex_isL : Dg.isL exRoot = true := by decide +kernel
theorem oth_isL : Dg.isL othRoot = true := by decide +kernel
theorem oth_ne : exRoot ≠ othRoot := by decide +kernel
theorem ver_own (d c : Int) (r : List UInt8) : Se.verL offKey (Pf.msgL d c r) (sgL false d c r) = true := Se.ver_sig officeL _
theorem ver_day : Se.verL offKey (Pf.msgL 6 2 exRoot) (sgL false 5 2 exRoot) = false := by decide +kernel
theorem ver_key : Se.verL offKey (Pf.msgL 7 2 exRoot) (sgL true 7 2 exRoot) = false := by decide +kernel

def exRd : Pf.Rd := [(5, 2, exRoot)]
theorem learn_1 : Pf.learnL offKey [] 5 2 exRoot (sgL false 5 2 exRoot) = (exRd, 0) := by
  unfold Pf.learnL
  rw [if_neg (by rw [ex_isL]; decide), ver_own, if_neg (by decide)]
  rfl
theorem learn_2 : Pf.learnL offKey exRd 5 2 exRoot (sgL false 5 2 exRoot) = (exRd, 0) := by
  unfold Pf.learnL
  rw [if_neg (by rw [ex_isL]; decide), ver_own, if_neg (by decide), show Pf.findL exRd 5 = some (2, exRoot) from rfl]
  simp
theorem learn_3 : Pf.learnL offKey exRd 5 2 othRoot (sgL false 5 2 othRoot) = (exRd, 23) := by
  unfold Pf.learnL
  rw [if_neg (by rw [oth_isL]; decide), ver_own, if_neg (by decide), show Pf.findL exRd 5 = some (2, exRoot) from rfl]
  simp [oth_ne]
theorem learn_4 : Pf.learnL offKey exRd 6 2 exRoot (sgL false 5 2 exRoot) = (exRd, 19) := by
  unfold Pf.learnL
  rw [if_neg (by rw [ex_isL]; decide), ver_day, if_pos rfl]
theorem learn_5 : Pf.learnL offKey exRd 7 2 exRoot (sgL true 7 2 exRoot) = (exRd, 19) := by
  unfold Pf.learnL
  rw [if_neg (by rw [ex_isL]; decide), ver_key, if_pos rfl]
theorem was_1 : Pf.wasL exRd 5 exP = 0 := by
  unfold Pf.wasL
  rw [show Pf.findL exRd 5 = some (2, exRoot) from rfl]
  simp only [ex_check]
  rfl
theorem was_2 : Pf.wasL exRd 6 exP = 11 := by
  unfold Pf.wasL
  rw [show Pf.findL exRd 6 = none from rfl]
theorem was_3 : Pf.wasL exRd 5 Pf.zeroPr = 21 := by
  unfold Pf.wasL
  rw [show Pf.findL exRd 5 = some (2, exRoot) from rfl]
  rfl
theorem days_1 : Pf.daysL exRd = [5] := by decide +kernel
end Go.Proofs.YteoclpjbeadkpaaGreatDoor
/- The calls of the head of the laws of layer 44, at its own arguments; what a write to a reader's map keeps. -/
namespace Go.Proofs.YteoclpjbeadkpaaGreatDoor
open Go.RowKit Go.Shelf Go.Maps

theorem MapAt.ne {W : World} {m n : Nat} {es : Pf.Rd} (h : MapAt W m n es) {b : Nat} {vs : Array Value} {t : TypeId} {fr : Nat × Nat} (hb : W.heap[b]? = some (.cells vs t fr)) : b ≠ m := by
  rintro rfl
  obtain ⟨D, ⟨es', clock, h1, _⟩, _⟩ := h
  rw [h1] at hb
  cases hb
theorem map_heap {W W' : World} {m n : Nat} {es : Pf.Rd} (h : MapAt W m n es) (g : W.grownBy W' (some m)) {b : Nat} {vs : Array Value} {t : TypeId} {fr : Nat × Nat} (hb : W.heap[b]? = some (.cells vs t fr)) : W'.heap[b]? = some (.cells vs t fr) :=
  (g.block b (Array.getElem?_eq_some_iff.1 hb).1 (fun e => h.ne hb (by injection e))).trans hb
theorem map_cell {W W' : World} {m n : Nat} {es : Pf.Rd} (h : MapAt W m n es) (g : W.grownBy W' (some m)) {b i : Nat} {v : Value} (hc : W.cell? ⟨b, i, none⟩ = some v) : W'.cell? ⟨b, i, none⟩ = some v := by
  unfold World.cell? at hc
  cases hb : W.heap[b]? with
  | none => simp [hb] at hc
  | some o =>
    cases o with
    | cells vs t fr => exact (cell_same ((map_heap h g hb).trans hb.symm) i).trans (by unfold World.cell?; exact hc)
    | _ => simp [hb] at hc
theorem HasIts.grown {W W' : World} {m n : Nat} {es : Pf.Rd} {v : Value} {l : List Co.It} (h : HasIts W v l) (hm : MapAt W m n es) (g : W.grownBy W' (some m)) : HasIts W' v l := by
  rcases h with h | ⟨h0, b, off, c, rfl, hlt, hc⟩
  · exact Or.inl h
  · refine Or.inr ⟨h0, b, off, c, rfl, Nat.lt_of_lt_of_le hlt g.size, fun j hj => ?_⟩
    obtain ⟨f0, f1, f2, f3, f4, f5, f6⟩ := hc j hj
    exact ⟨map_cell hm g f0, map_cell hm g f1, map_cell hm g f2, map_cell hm g f3, map_cell hm g f4, map_cell hm g f5, map_cell hm g f6⟩
theorem HasStrsC.grown {W W' : World} {m n : Nat} {es : Pf.Rd} {v : Value} {ss : List (List UInt8)} (h : HasStrsC W v ss) (hm : MapAt W m n es) (g : W.grownBy W' (some m)) : HasStrsC W' v ss := by
  refine ⟨?_, h.2⟩
  rcases h.1 with h | ⟨h0, b, off, c, e, hlt, hc⟩
  · exact Or.inl h
  · exact Or.inr ⟨h0, b, off, c, e, Nat.lt_of_lt_of_le hlt g.size, fun j hj => map_cell hm g (hc j hj)⟩
theorem HasI.grown {W W' : World} {m n : Nat} {es : Pf.Rd} {v : Value} {xs : List Int} (h : HasI W v xs) (hm : MapAt W m n es) (g : W.grownBy W' (some m)) : HasI W' v xs := by
  rcases h with h | ⟨h0, b, off, c, e, hlt, hc⟩
  · exact Or.inl h
  · exact Or.inr ⟨h0, b, off, c, e, Nat.lt_of_lt_of_le hlt g.size, fun j hj => map_cell hm g (hc j hj)⟩

theorem exOk : CodeOk2 exL := by
  refine ⟨⟨?_, by decide⟩, ?_⟩
  · intro x hx; simp [exL] at hx; rcases hx with rfl | rfl | rfl <;> exact ⟨⟨by decide, by decide⟩, by decide⟩
  · intro x hx; simp [exL] at hx; rcases hx with rfl | rfl | rfl <;> exact ⟨by decide, by decide, by decide, by decide⟩
theorem exLeaves_mod : Mod (Co.leavesL exL) := by
  intro t ht
  have h : (Co.leavesL exL).all (fun t => decide (t.length ≤ 1000)) = true := by decide +kernel
  rw [List.all_eq_true] at h
  have := h t ht
  simp only [decide_eq_true_eq] at this
  omega
theorem exP_ok : PrOk exP := by
  have h : exP.path.all (fun t => decide (t.length ≤ 1000)) = true := by decide +kernel
  refine ⟨⟨by decide, by decide, by decide, by decide⟩, fun t ht => ?_, by decide +kernel, by decide, by decide, by decide, by decide⟩
  rw [List.all_eq_true] at h
  have := h t ht
  simp only [decide_eq_true_eq] at this
  omega
theorem zeroP_ok : PrOk Pf.zeroPr := ⟨⟨by decide, by decide, by decide, by decide⟩, fun t ht => (by cases ht), by decide, by decide, by decide, by decide, by decide⟩

theorem hLeaves (a : Option Addr) (c : Nat) (W : World) (ht : Tab W) (hv : HasIts W (.slice a 3 c) exL) :
    Calls Tryz.prog 32 #[.agg #[.slice a 3 c]] W fun e w' => ∃ u, e = .returned u ∧ HasStrsC w' u (Co.leavesL exL) ∧ Below W.heap.size W w' := by
  refine (leaves_any exL _ W ht hv exOk).mono ?_
  rintro e w' ⟨u, rfl, h, b⟩
  exact ⟨u, rfl, OwnS.has h (by decide +kernel), b⟩
theorem hRoot (u : Value) (W : World) (ht : Tab W) (hv : HasStrsC W u (Co.leavesL exL)) : Calls Tryz.prog 33 #[u] W fun e w' => e = .returned (.string ⟨exRoot.toArray⟩) ∧ Below W.heap.size W w' :=
  root_any _ u exRoot W ht hv exLeaves_mod rfl
theorem hRootN (W : World) (ht : Tab W) : Calls Tryz.prog 33 #[.slice none 0 0] W fun e w' => e = .returned (.string ⟨othRoot.toArray⟩) ∧ Below W.heap.size W w' :=
  root_any [] _ othRoot W ht ⟨Or.inl ⟨rfl, none, 0, rfl⟩, none, 0, rfl, Nat.le_refl _, by decide⟩ (fun s hs => by cases hs) rfl
theorem hMakeA (a : Option Addr) (c : Nat) (W : World) (ht : Tab W) (hv : HasIts W (.slice a 3 c) exL) (hc : 3 ≤ c) :
    Calls Tryz.prog 14 #[.agg #[.slice a 3 c], .string ⟨#[97]⟩] W fun e w' => ∃ xa xn xc, e = .returned (.tuple #[.agg #[.int .i64 2, .int .i64 0, .int .i64 2, .string ⟨#[97]⟩, .string ⟨#[]⟩, .string ⟨#[]⟩, .string ⟨#[110]⟩, .string ⟨#[115]⟩, .bool false, .slice xa xn xc], .int .i64 0]) ∧ HasStrsC w' (.slice xa xn xc) exP.path ∧ Below W.heap.size W w' := by
  refine (make_any exL _ [97] W ht hv ⟨a, c, rfl, hc⟩ exOk).mono ?_
  rintro e w' ⟨pv, rfl, h, b⟩
  rw [make_a] at h ⊢
  obtain ⟨xa, xc, rfl⟩ := h.1.shape
  exact ⟨xa, _, xc, rfl, h, b⟩
theorem hMakeB (a : Option Addr) (c : Nat) (W : World) (ht : Tab W) (hv : HasIts W (.slice a 3 c) exL) (hc : 3 ≤ c) :
    Calls Tryz.prog 14 #[.agg #[.slice a 3 c], .string ⟨#[98]⟩] W fun e w' => ∃ xa xc, e = .returned (.tuple #[.agg #[.int .i64 0, .int .i64 0, .int .i64 0, .string ⟨#[]⟩, .string ⟨#[]⟩, .string ⟨#[]⟩, .string ⟨#[]⟩, .string ⟨#[]⟩, .bool false, .slice xa 0 xc], .int .i64 16]) ∧ Below W.heap.size W w' := by
  refine (make_any exL _ [98] W ht hv ⟨a, c, rfl, hc⟩ exOk).mono ?_
  rintro e w' ⟨pv, rfl, h, b⟩
  rw [make_b] at h ⊢
  obtain ⟨xa, xc, rfl⟩ := h.1.shape
  exact ⟨xa, xc, rfl, b⟩
theorem hMakeX (a : Option Addr) (c : Nat) (W : World) (ht : Tab W) (hv : HasIts W (.slice a 3 c) exL) (hc : 3 ≤ c) :
    Calls Tryz.prog 14 #[.agg #[.slice a 3 c], .string ⟨#[120]⟩] W fun e w' => ∃ xa xc, e = .returned (.tuple #[.agg #[.int .i64 0, .int .i64 0, .int .i64 0, .string ⟨#[]⟩, .string ⟨#[]⟩, .string ⟨#[]⟩, .string ⟨#[]⟩, .string ⟨#[]⟩, .bool false, .slice xa 0 xc], .int .i64 11]) ∧ Below W.heap.size W w' := by
  refine (make_any exL _ [120] W ht hv ⟨a, c, rfl, hc⟩ exOk).mono ?_
  rintro e w' ⟨pv, rfl, h, b⟩
  rw [make_x] at h ⊢
  obtain ⟨xa, xc, rfl⟩ := h.1.shape
  exact ⟨xa, xc, rfl, b⟩
theorem isL_len {l : List UInt8} (h : Dg.isL l = true) : l.length = 16 := by
  unfold Dg.isL at h
  simp only [Bool.and_eq_true, beq_iff_eq] at h
  exact h.1
theorem hSigned (day : Int) (root : List UInt8) (wrong : Bool) (W : World) (ht : Tab W) (hd0 : 0 ≤ day) (hd1 : day ≤ 1000000) (hr : Dg.isL root = true) :
    Calls Tryz.prog 21 #[.agg #[.int .i64 day, .int .i64 2, .string ⟨root.toArray⟩, .bool wrong]] W fun e w' => ∃ a c pa pc, e = .returned (.tuple #[.string ⟨offKey.toArray⟩, .agg #[.int .i64 0, .slice a 18 c, .slice pa 0 pc]]) ∧ HasStrsC w' (.slice a 18 c) (sgL wrong day 2 root) ∧ Below W.heap.size W w' := by
  refine (signed_any day 2 root wrong W ht (by omega) (by omega) (by omega) (by omega) (by rw [isL_len hr]; decide) offKey rfl _ rfl).mono ?_
  rintro e w' ⟨sv, rfl, ⟨a, c, pa, pc, rfl, h⟩, b⟩
  exact ⟨a, c, pa, pc, rfl, h, b⟩
theorem hCheck (xa : Option Addr) (xn xc : Nat) (W : World) (ht : Tab W) (hv : HasStrsC W (.slice xa xn xc) exP.path) :
    Calls Tryz.prog 17 #[.string ⟨exRoot.toArray⟩, .agg #[.int .i64 2, .int .i64 0, .int .i64 2, .string ⟨#[97]⟩, .string ⟨#[]⟩, .string ⟨#[]⟩, .string ⟨#[110]⟩, .string ⟨#[115]⟩, .bool false, .slice xa xn xc]] W fun e w' => e = .returned (.bool true) ∧ Below W.heap.size W w' :=
  checkP_any exRoot exP _ true W ht hv exP_ok ex_check
theorem hLearn (day : Int) (root : List UInt8) (wrong : Bool) (day2 : Int) (a : Option Addr) (c : Nat) (pa : Option Addr) (pc : Nat) (rb m n : Nat) (es : Pf.Rd) (W : World) (r : Pf.Rd × Int) (ht : Tab W) (hr : ReaderAt W rb m n offKey es) (hs : HasStrsC W (.slice a 18 c) (sgL wrong day2 2 root))
    (hd0 : 0 ≤ day) (hd1 : day ≤ 1000000) (hl : Dg.isL root = true) (hn : n < 1000000) (hres : Pf.learnL offKey es day 2 root (sgL wrong day2 2 root) = r) :
    Calls Tryz.prog 24 #[.pointer (some ⟨rb, 0, none⟩), .int .i64 day, .int .i64 2, .string ⟨root.toArray⟩, .agg #[.int .i64 0, .slice a 18 c, .slice pa 0 pc]] W fun e w' => e = .returned (.int .i64 r.2) ∧ ReaderAt w' rb m (n + 1) offKey r.1 ∧ W.grownBy w' (some m) :=
  learn_any offKey root day 2 _ _ rb m n es W ht hr ⟨a, c, pa, pc, rfl, hs⟩ (sigOk _ _) (by omega) (by omega) (by omega) (by omega) (by rw [isL_len hl]; decide) hn r hres
theorem hWas (day r : Int) (xa : Option Addr) (xn xc rb m n : Nat) (W : World) (ht : Tab W) (hr : ReaderAt W rb m n offKey exRd) (hv : HasStrsC W (.slice xa xn xc) exP.path) (hd0 : 0 ≤ day) (hd1 : day ≤ 1000000) (hres : Pf.wasL exRd day exP = r) :
    Calls Tryz.prog 26 #[.pointer (some ⟨rb, 0, none⟩), .int .i64 day, .agg #[.int .i64 2, .int .i64 0, .int .i64 2, .string ⟨#[97]⟩, .string ⟨#[]⟩, .string ⟨#[]⟩, .string ⟨#[110]⟩, .string ⟨#[115]⟩, .bool false, .slice xa xn xc]] W fun e w' => e = .returned (.int .i64 r) ∧ Below W.heap.size W w' :=
  was_any offKey day exP _ rb m n exRd W ht hr hv exP_ok (by omega) (by omega) r hres
theorem hWasZ (rb m n : Nat) (W : World) (ht : Tab W) (hr : ReaderAt W rb m n offKey exRd) :
    Calls Tryz.prog 26 #[.pointer (some ⟨rb, 0, none⟩), .int .i64 5, .agg #[.int .i64 0, .int .i64 0, .int .i64 0, .string ⟨#[]⟩, .string ⟨#[]⟩, .string ⟨#[]⟩, .string ⟨#[]⟩, .string ⟨#[]⟩, .bool false, .slice none 0 0]] W fun e w' => e = .returned (.int .i64 21) ∧ Below W.heap.size W w' :=
  was_any offKey 5 Pf.zeroPr _ rb m n exRd W ht hr ⟨Or.inl ⟨rfl, none, 0, rfl⟩, none, 0, rfl, Nat.le_refl _, by decide⟩ zeroP_ok (by omega) (by omega) 21 was_3
theorem hWasN (xa : Option Addr) (xn xc : Nat) (W : World) :
    Calls Tryz.prog 26 #[.pointer none, .int .i64 5, .agg #[.int .i64 2, .int .i64 0, .int .i64 2, .string ⟨#[97]⟩, .string ⟨#[]⟩, .string ⟨#[]⟩, .string ⟨#[110]⟩, .string ⟨#[115]⟩, .bool false, .slice xa xn xc]] W fun e w' => e = .returned (.int .i64 1) ∧ Below W.heap.size W w' :=
  was_nil 5 exP _ W
theorem hDays (rb m n : Nat) (W : World) (hr : ReaderAt W rb m n offKey exRd) (hn : n ≤ 1000000) :
    Calls Tryz.prog 29 #[.pointer (some ⟨rb, 0, none⟩)] W fun e w' => ∃ v, e = .returned v ∧ HasI w' v [5] ∧ Below W.heap.size W w' := by
  refine (days_any offKey rb m n exRd W hr hn).mono ?_
  rintro e w' ⟨v, rfl, h, b⟩
  rw [days_1] at h
  exact ⟨v, rfl, OwnI.has h, b⟩
theorem hInts (v : Value) (c : Nat) (W : World) (hv : HasI W v [5]) :
    Calls Tryz.prog 28 #[v, .slice (some ⟨W.heap.size, 0, none⟩) 1 c] (W.alloc (.cells #[.int .i64 5] 3)) fun e w' => e = .returned (.bool true) ∧ Below W.heap.size W w' := by
  refine (ints_any [5] [5] v _ _ (hv.below ((Below.refl _ W).alloc (Nat.le_refl _) _) (Nat.le_refl _)) (Or.inr ⟨by decide, W.heap.size, 0, c, rfl, by simp, fun j hj => ?_⟩) (by decide) (by decide)).mono ?_
  · match j, hj with
    | 0, _ => exact cell_of_heap (heap_alloc_at W _)
    | (n + 1), h => exact absurd h (by show ¬ (n + 1 < 1); omega)
  · rintro e w' ⟨rfl, q, rfl⟩
    exact ⟨rfl, ((Below.refl _ W).alloc (Nat.le_refl _) _).trans (below_drewN _ _ _)⟩
end Go.Proofs.YteoclpjbeadkpaaGreatDoor
/- WALK: the head of the laws of layer 44. -/
namespace Go.Proofs.YteoclpjbeadkpaaGreatDoor
open Go.RowKit Go.Shelf Go.Maps

set_option maxHeartbeats 16000000 in
set_option maxRecDepth 100000 in
theorem head44_any (w : World) (ht : Tab w) : Calls Tryz.prog 10 #[] w fun e w' => e = .returned (.bool true) ∧ Below w.heap.size w w' := by
  have hmm := @run_makeMap Tryz.prog
  go_enter Tryz.func10, Tryz.ntmps10
  have bel := Below.refl w.heap.size w
  have Hbel := Lib.hid bel
  clear bel
  go_wp2_with fail
  have bel := Hbel.out
  clear Hbel
  refine (example_any _).mono ?_
  rintro e w1 ⟨ea, ec, rfl, its, hec, c⟩
  replace bel := below_next bel c
  clear c
  have Hbel := Lib.hid bel
  have Hits := Lib.hid its
  clear bel its
  go_wp2_with fail
  have bel := Hbel.out
  have its := Hits.out
  clear Hbel Hits
  obtain ⟨w2, hw⟩ : ∃ z, w1.alloc (.cells #[.slice ea 3 ec] 24) = z := ⟨_, rfl⟩
  have c : Below w1.heap.size w1 w2 := by rw [← hw]; exact (Below.refl _ _).alloc (Nat.le_refl _) _
  have mc : w2.heap[w1.heap.size]? = some (.cells #[.slice ea 3 ec] 24 (0, 0)) := by rw [← hw]; exact heap_alloc_at _ _
  rw [hw]
  clear hw
  replace bel := below_next bel c
  replace its := its.below c (Nat.le_refl _)
  clear c
  obtain ⟨bc, hb⟩ : ∃ b, w1.heap.size = b := ⟨_, rfl⟩
  rw [hb] at mc ⊢
  clear hb
  refine (hLeaves ea ec _ (ht.below bel (Nat.le_refl _)) its).mono ?_
  rintro e w3 ⟨u, rfl, lv, c⟩
  replace bel := below_next bel c
  replace its := its.below c (Nat.le_refl _)
  replace mc := (c.block _ (Array.getElem?_eq_some_iff.1 mc).1).trans mc
  clear c
  have Hbel := Lib.hid bel
  have Hits := Lib.hid its
  have Hmc := Lib.hid mc
  have Hlv := Lib.hid lv
  clear bel its mc lv
  go_wp2_with fail
  have bel := Hbel.out
  have its := Hits.out
  have mc := Hmc.out
  have lv := Hlv.out
  clear Hbel Hits Hmc Hlv
  refine (hRoot u _ (ht.below bel (Nat.le_refl _)) lv).mono ?_
  rintro e w4 ⟨rfl, c⟩
  replace bel := below_next bel c
  replace its := its.below c (Nat.le_refl _)
  replace mc := (c.block _ (Array.getElem?_eq_some_iff.1 mc).1).trans mc
  replace lv := lv.below c (Nat.le_refl _)
  clear c
  clear lv
  have q_mc_0 := cell_of_heap (i := 0) mc
  have Hbel := Lib.hid bel
  have Hits := Lib.hid its
  have Hmc := Lib.hid mc
  clear bel its mc
  go_wp2_with fail
  have bel := Hbel.out
  have its := Hits.out
  have mc := Hmc.out
  clear Hbel Hits Hmc
  clear q_mc_0
  refine (hMakeA ea ec _ (ht.below bel (Nat.le_refl _)) its hec).mono ?_
  rintro e w5 ⟨xa, xn, xc, rfl, pth, c⟩
  replace bel := below_next bel c
  replace its := its.below c (Nat.le_refl _)
  replace mc := (c.block _ (Array.getElem?_eq_some_iff.1 mc).1).trans mc
  clear c
  have q_mc_0 := cell_of_heap (i := 0) ((heap_alloc_lt w5 (.cells #[.int .i64 2, .int .i64 0, .int .i64 2, .string ⟨#[97]⟩, .string ⟨#[]⟩, .string ⟨#[]⟩, .string ⟨#[110]⟩, .string ⟨#[115]⟩, .bool false, .slice xa xn xc] 29) _ (Array.getElem?_eq_some_iff.1 mc).1).trans mc)
  have Hbel := Lib.hid bel
  have Hits := Lib.hid its
  have Hmc := Lib.hid mc
  have Hpth := Lib.hid pth
  clear bel its mc pth
  go_wp2_with fail
  have bel := Hbel.out
  have its := Hits.out
  have mc := Hmc.out
  have pth := Hpth.out
  clear Hbel Hits Hmc Hpth
  clear q_mc_0
  obtain ⟨w6, hw⟩ : ∃ z, w5.alloc (.cells #[.int .i64 2, .int .i64 0, .int .i64 2, .string ⟨#[97]⟩, .string ⟨#[]⟩, .string ⟨#[]⟩, .string ⟨#[110]⟩, .string ⟨#[115]⟩, .bool false, .slice xa xn xc] 29) = z := ⟨_, rfl⟩
  have c : Below w5.heap.size w5 w6 := by rw [← hw]; exact (Below.refl _ _).alloc (Nat.le_refl _) _
  have mp : w6.heap[w5.heap.size]? = some (.cells #[.int .i64 2, .int .i64 0, .int .i64 2, .string ⟨#[97]⟩, .string ⟨#[]⟩, .string ⟨#[]⟩, .string ⟨#[110]⟩, .string ⟨#[115]⟩, .bool false, .slice xa xn xc] 29 (0, 0)) := by rw [← hw]; exact heap_alloc_at _ _
  rw [hw]
  clear hw
  replace bel := below_next bel c
  replace its := its.below c (Nat.le_refl _)
  replace mc := (c.block _ (Array.getElem?_eq_some_iff.1 mc).1).trans mc
  replace pth := pth.below c (Nat.le_refl _)
  clear c
  obtain ⟨bp, hb⟩ : ∃ b, w5.heap.size = b := ⟨_, rfl⟩
  rw [hb] at mp ⊢
  clear hb
  refine (hMakeB ea ec _ (ht.below bel (Nat.le_refl _)) its hec).mono ?_
  rintro e w7 ⟨ya, yc, rfl, c⟩
  replace bel := below_next bel c
  replace its := its.below c (Nat.le_refl _)
  replace mc := (c.block _ (Array.getElem?_eq_some_iff.1 mc).1).trans mc
  replace pth := pth.below c (Nat.le_refl _)
  replace mp := (c.block _ (Array.getElem?_eq_some_iff.1 mp).1).trans mp
  clear c
  have q_mc_0 := cell_of_heap (i := 0) ((heap_alloc_lt w7 (.cells #[.int .i64 0, .int .i64 0, .int .i64 0, .string ⟨#[]⟩, .string ⟨#[]⟩, .string ⟨#[]⟩, .string ⟨#[]⟩, .string ⟨#[]⟩, .bool false, .slice ya 0 yc] 29) _ (Array.getElem?_eq_some_iff.1 mc).1).trans mc)
  have Hbel := Lib.hid bel
  have Hits := Lib.hid its
  have Hmc := Lib.hid mc
  have Hpth := Lib.hid pth
  have Hmp := Lib.hid mp
  clear bel its mc pth mp
  go_wp2_with fail
  have bel := Hbel.out
  have its := Hits.out
  have mc := Hmc.out
  have pth := Hpth.out
  have mp := Hmp.out
  clear Hbel Hits Hmc Hpth Hmp
  clear q_mc_0
  obtain ⟨w8, hw⟩ : ∃ z, w7.alloc (.cells #[.int .i64 0, .int .i64 0, .int .i64 0, .string ⟨#[]⟩, .string ⟨#[]⟩, .string ⟨#[]⟩, .string ⟨#[]⟩, .string ⟨#[]⟩, .bool false, .slice ya 0 yc] 29) = z := ⟨_, rfl⟩
  have c : Below w7.heap.size w7 w8 := by rw [← hw]; exact (Below.refl _ _).alloc (Nat.le_refl _) _
  have my : w8.heap[w7.heap.size]? = some (.cells #[.int .i64 0, .int .i64 0, .int .i64 0, .string ⟨#[]⟩, .string ⟨#[]⟩, .string ⟨#[]⟩, .string ⟨#[]⟩, .string ⟨#[]⟩, .bool false, .slice ya 0 yc] 29 (0, 0)) := by rw [← hw]; exact heap_alloc_at _ _
  rw [hw]
  clear hw
  replace bel := below_next bel c
  replace its := its.below c (Nat.le_refl _)
  replace mc := (c.block _ (Array.getElem?_eq_some_iff.1 mc).1).trans mc
  replace pth := pth.below c (Nat.le_refl _)
  replace mp := (c.block _ (Array.getElem?_eq_some_iff.1 mp).1).trans mp
  clear c
  obtain ⟨by_, hb⟩ : ∃ b, w7.heap.size = b := ⟨_, rfl⟩
  rw [hb] at my ⊢
  clear hb
  clear my
  refine (hMakeX ea ec _ (ht.below bel (Nat.le_refl _)) its hec).mono ?_
  rintro e w9 ⟨za, zc, rfl, c⟩
  replace bel := below_next bel c
  replace its := its.below c (Nat.le_refl _)
  replace mc := (c.block _ (Array.getElem?_eq_some_iff.1 mc).1).trans mc
  replace pth := pth.below c (Nat.le_refl _)
  replace mp := (c.block _ (Array.getElem?_eq_some_iff.1 mp).1).trans mp
  clear c
  have q_mc_0 := cell_of_heap (i := 0) ((heap_alloc_lt w9 (.cells #[.int .i64 0, .int .i64 0, .int .i64 0, .string ⟨#[]⟩, .string ⟨#[]⟩, .string ⟨#[]⟩, .string ⟨#[]⟩, .string ⟨#[]⟩, .bool false, .slice za 0 zc] 29) _ (Array.getElem?_eq_some_iff.1 mc).1).trans mc)
  have Hbel := Lib.hid bel
  have Hits := Lib.hid its
  have Hmc := Lib.hid mc
  have Hpth := Lib.hid pth
  have Hmp := Lib.hid mp
  clear bel its mc pth mp
  go_wp2_with fail
  have bel := Hbel.out
  have its := Hits.out
  have mc := Hmc.out
  have pth := Hpth.out
  have mp := Hmp.out
  clear Hbel Hits Hmc Hpth Hmp
  clear q_mc_0
  obtain ⟨w10, hw⟩ : ∃ z, w9.alloc (.cells #[.int .i64 0, .int .i64 0, .int .i64 0, .string ⟨#[]⟩, .string ⟨#[]⟩, .string ⟨#[]⟩, .string ⟨#[]⟩, .string ⟨#[]⟩, .bool false, .slice za 0 zc] 29) = z := ⟨_, rfl⟩
  have c : Below w9.heap.size w9 w10 := by rw [← hw]; exact (Below.refl _ _).alloc (Nat.le_refl _) _
  have mz : w10.heap[w9.heap.size]? = some (.cells #[.int .i64 0, .int .i64 0, .int .i64 0, .string ⟨#[]⟩, .string ⟨#[]⟩, .string ⟨#[]⟩, .string ⟨#[]⟩, .string ⟨#[]⟩, .bool false, .slice za 0 zc] 29 (0, 0)) := by rw [← hw]; exact heap_alloc_at _ _
  rw [hw]
  clear hw
  replace bel := below_next bel c
  replace its := its.below c (Nat.le_refl _)
  replace mc := (c.block _ (Array.getElem?_eq_some_iff.1 mc).1).trans mc
  replace pth := pth.below c (Nat.le_refl _)
  replace mp := (c.block _ (Array.getElem?_eq_some_iff.1 mp).1).trans mp
  clear c
  obtain ⟨bz, hb⟩ : ∃ b, w9.heap.size = b := ⟨_, rfl⟩
  rw [hb] at mz ⊢
  clear hb
  clear mz
  clear mc
  clear its
  refine (hSigned 5 exRoot false _ (ht.below bel (Nat.le_refl _)) (by omega) (by omega) ex_isL).mono ?_
  rintro e w11 ⟨s1a, s1c, s1p, s1q, rfl, g1, c⟩
  replace bel := below_next bel c
  replace pth := pth.below c (Nat.le_refl _)
  replace mp := (c.block _ (Array.getElem?_eq_some_iff.1 mp).1).trans mp
  clear c
  have Hbel := Lib.hid bel
  have Hpth := Lib.hid pth
  have Hmp := Lib.hid mp
  have Hg1 := Lib.hid g1
  clear bel pth mp g1
  go_wp2_with fail
  have bel := Hbel.out
  have pth := Hpth.out
  have mp := Hmp.out
  have g1 := Hg1.out
  clear Hbel Hpth Hmp Hg1
  obtain ⟨w12, hw⟩ : ∃ z, w11.alloc (.cells #[.int .i64 0, .slice s1a 18 s1c, .slice s1p 0 s1q] 42) = z := ⟨_, rfl⟩
  have c : Below w11.heap.size w11 w12 := by rw [← hw]; exact (Below.refl _ _).alloc (Nat.le_refl _) _
  have m1 : w12.heap[w11.heap.size]? = some (.cells #[.int .i64 0, .slice s1a 18 s1c, .slice s1p 0 s1q] 42 (0, 0)) := by rw [← hw]; exact heap_alloc_at _ _
  rw [hw]
  clear hw
  replace bel := below_next bel c
  replace pth := pth.below c (Nat.le_refl _)
  replace mp := (c.block _ (Array.getElem?_eq_some_iff.1 mp).1).trans mp
  replace g1 := g1.below c (Nat.le_refl _)
  clear c
  obtain ⟨b1, hb⟩ : ∃ b, w11.heap.size = b := ⟨_, rfl⟩
  rw [hb] at m1 ⊢
  clear hb
  refine (hRootN _ (ht.below bel (Nat.le_refl _))).mono ?_
  rintro e w13 ⟨rfl, c⟩
  replace bel := below_next bel c
  replace pth := pth.below c (Nat.le_refl _)
  replace mp := (c.block _ (Array.getElem?_eq_some_iff.1 mp).1).trans mp
  replace g1 := g1.below c (Nat.le_refl _)
  replace m1 := (c.block _ (Array.getElem?_eq_some_iff.1 m1).1).trans m1
  clear c
  have Hbel := Lib.hid bel
  have Hpth := Lib.hid pth
  have Hmp := Lib.hid mp
  have Hg1 := Lib.hid g1
  have Hm1 := Lib.hid m1
  clear bel pth mp g1 m1
  go_wp2_with fail
  have bel := Hbel.out
  have pth := Hpth.out
  have mp := Hmp.out
  have g1 := Hg1.out
  have m1 := Hm1.out
  clear Hbel Hpth Hmp Hg1 Hm1
  refine (hSigned 5 othRoot false _ (ht.below bel (Nat.le_refl _)) (by omega) (by omega) oth_isL).mono ?_
  rintro e w14 ⟨s2a, s2c, s2p, s2q, rfl, g2, c⟩
  replace bel := below_next bel c
  replace pth := pth.below c (Nat.le_refl _)
  replace mp := (c.block _ (Array.getElem?_eq_some_iff.1 mp).1).trans mp
  replace g1 := g1.below c (Nat.le_refl _)
  replace m1 := (c.block _ (Array.getElem?_eq_some_iff.1 m1).1).trans m1
  clear c
  have Hbel := Lib.hid bel
  have Hpth := Lib.hid pth
  have Hmp := Lib.hid mp
  have Hg1 := Lib.hid g1
  have Hm1 := Lib.hid m1
  have Hg2 := Lib.hid g2
  clear bel pth mp g1 m1 g2
  go_wp2_with fail
  have bel := Hbel.out
  have pth := Hpth.out
  have mp := Hmp.out
  have g1 := Hg1.out
  have m1 := Hm1.out
  have g2 := Hg2.out
  clear Hbel Hpth Hmp Hg1 Hm1 Hg2
  obtain ⟨w15, hw⟩ : ∃ z, w14.alloc (.cells #[.int .i64 0, .slice s2a 18 s2c, .slice s2p 0 s2q] 42) = z := ⟨_, rfl⟩
  have c : Below w14.heap.size w14 w15 := by rw [← hw]; exact (Below.refl _ _).alloc (Nat.le_refl _) _
  have m2 : w15.heap[w14.heap.size]? = some (.cells #[.int .i64 0, .slice s2a 18 s2c, .slice s2p 0 s2q] 42 (0, 0)) := by rw [← hw]; exact heap_alloc_at _ _
  rw [hw]
  clear hw
  replace bel := below_next bel c
  replace pth := pth.below c (Nat.le_refl _)
  replace mp := (c.block _ (Array.getElem?_eq_some_iff.1 mp).1).trans mp
  replace g1 := g1.below c (Nat.le_refl _)
  replace m1 := (c.block _ (Array.getElem?_eq_some_iff.1 m1).1).trans m1
  replace g2 := g2.below c (Nat.le_refl _)
  clear c
  obtain ⟨b2, hb⟩ : ∃ b, w14.heap.size = b := ⟨_, rfl⟩
  rw [hb] at m2 ⊢
  clear hb
  refine (hSigned 7 exRoot true _ (ht.below bel (Nat.le_refl _)) (by omega) (by omega) ex_isL).mono ?_
  rintro e w16 ⟨s3a, s3c, s3p, s3q, rfl, g3, c⟩
  replace bel := below_next bel c
  replace pth := pth.below c (Nat.le_refl _)
  replace mp := (c.block _ (Array.getElem?_eq_some_iff.1 mp).1).trans mp
  replace g1 := g1.below c (Nat.le_refl _)
  replace m1 := (c.block _ (Array.getElem?_eq_some_iff.1 m1).1).trans m1
  replace g2 := g2.below c (Nat.le_refl _)
  replace m2 := (c.block _ (Array.getElem?_eq_some_iff.1 m2).1).trans m2
  clear c
  have Hbel := Lib.hid bel
  have Hpth := Lib.hid pth
  have Hmp := Lib.hid mp
  have Hg1 := Lib.hid g1
  have Hm1 := Lib.hid m1
  have Hg2 := Lib.hid g2
  have Hm2 := Lib.hid m2
  have Hg3 := Lib.hid g3
  clear bel pth mp g1 m1 g2 m2 g3
  go_wp2_with fail
  have bel := Hbel.out
  have pth := Hpth.out
  have mp := Hmp.out
  have g1 := Hg1.out
  have m1 := Hm1.out
  have g2 := Hg2.out
  have m2 := Hm2.out
  have g3 := Hg3.out
  clear Hbel Hpth Hmp Hg1 Hm1 Hg2 Hm2 Hg3
  obtain ⟨w17, hw⟩ : ∃ z, w16.alloc (.cells #[.int .i64 0, .slice s3a 18 s3c, .slice s3p 0 s3q] 42) = z := ⟨_, rfl⟩
  have c : Below w16.heap.size w16 w17 := by rw [← hw]; exact (Below.refl _ _).alloc (Nat.le_refl _) _
  have m3 : w17.heap[w16.heap.size]? = some (.cells #[.int .i64 0, .slice s3a 18 s3c, .slice s3p 0 s3q] 42 (0, 0)) := by rw [← hw]; exact heap_alloc_at _ _
  rw [hw]
  clear hw
  replace bel := below_next bel c
  replace pth := pth.below c (Nat.le_refl _)
  replace mp := (c.block _ (Array.getElem?_eq_some_iff.1 mp).1).trans mp
  replace g1 := g1.below c (Nat.le_refl _)
  replace m1 := (c.block _ (Array.getElem?_eq_some_iff.1 m1).1).trans m1
  replace g2 := g2.below c (Nat.le_refl _)
  replace m2 := (c.block _ (Array.getElem?_eq_some_iff.1 m2).1).trans m2
  replace g3 := g3.below c (Nat.le_refl _)
  clear c
  obtain ⟨b3, hb⟩ : ∃ b, w16.heap.size = b := ⟨_, rfl⟩
  rw [hb] at m3 ⊢
  clear hb
  refine (newR_any offKey _).mono ?_
  rintro e w18 ⟨rfl, rd, c⟩
  obtain ⟨rb, hrb⟩ : ∃ r, w17.heap.size + 1 = r := ⟨_, rfl⟩
  obtain ⟨rm, hrm⟩ : ∃ r, w17.heap.size = r := ⟨_, rfl⟩
  have hrw : w.heap.size ≤ rm := by rw [← hrm]; exact bel.size
  rw [hrb, hrm] at rd
  rw [hrb]
  clear hrb hrm
  replace bel := below_next bel c
  replace pth := pth.below c (Nat.le_refl _)
  replace mp := (c.block _ (Array.getElem?_eq_some_iff.1 mp).1).trans mp
  replace g1 := g1.below c (Nat.le_refl _)
  replace m1 := (c.block _ (Array.getElem?_eq_some_iff.1 m1).1).trans m1
  replace g2 := g2.below c (Nat.le_refl _)
  replace m2 := (c.block _ (Array.getElem?_eq_some_iff.1 m2).1).trans m2
  replace g3 := g3.below c (Nat.le_refl _)
  replace m3 := (c.block _ (Array.getElem?_eq_some_iff.1 m3).1).trans m3
  clear c
  have q_mp_0 := cell_of_heap (i := 0) mp
  have q_mp_1 := cell_of_heap (i := 1) mp
  have q_mp_2 := cell_of_heap (i := 2) mp
  have q_mp_3 := cell_of_heap (i := 3) mp
  have q_mp_4 := cell_of_heap (i := 4) mp
  have q_mp_5 := cell_of_heap (i := 5) mp
  have q_mp_6 := cell_of_heap (i := 6) mp
  have q_mp_7 := cell_of_heap (i := 7) mp
  have q_mp_8 := cell_of_heap (i := 8) mp
  have q_mp_9 := cell_of_heap (i := 9) mp
  have Hbel := Lib.hid bel
  have Hpth := Lib.hid pth
  have Hmp := Lib.hid mp
  have Hg1 := Lib.hid g1
  have Hm1 := Lib.hid m1
  have Hg2 := Lib.hid g2
  have Hm2 := Lib.hid m2
  have Hg3 := Lib.hid g3
  have Hm3 := Lib.hid m3
  have Hrd := Lib.hid rd
  clear bel pth mp g1 m1 g2 m2 g3 m3 rd
  go_wp2_with fail
  have bel := Hbel.out
  have pth := Hpth.out
  have mp := Hmp.out
  have g1 := Hg1.out
  have m1 := Hm1.out
  have g2 := Hg2.out
  have m2 := Hm2.out
  have g3 := Hg3.out
  have m3 := Hm3.out
  have rd := Hrd.out
  clear Hbel Hpth Hmp Hg1 Hm1 Hg2 Hm2 Hg3 Hm3 Hrd
  clear q_mp_0 q_mp_1 q_mp_2 q_mp_3 q_mp_4 q_mp_5 q_mp_6 q_mp_7 q_mp_8 q_mp_9
  refine (hCheck xa xn xc _ (ht.below bel (Nat.le_refl _)) pth).mono ?_
  rintro e w19 ⟨rfl, c⟩
  replace bel := below_next bel c
  replace pth := pth.below c (Nat.le_refl _)
  replace mp := (c.block _ (Array.getElem?_eq_some_iff.1 mp).1).trans mp
  replace g1 := g1.below c (Nat.le_refl _)
  replace m1 := (c.block _ (Array.getElem?_eq_some_iff.1 m1).1).trans m1
  replace g2 := g2.below c (Nat.le_refl _)
  replace m2 := (c.block _ (Array.getElem?_eq_some_iff.1 m2).1).trans m2
  replace g3 := g3.below c (Nat.le_refl _)
  replace m3 := (c.block _ (Array.getElem?_eq_some_iff.1 m3).1).trans m3
  replace rd := rd.below c
  clear c
  have q_m1_0 := cell_of_heap (i := 0) m1
  have q_m1_1 := cell_of_heap (i := 1) m1
  have q_m1_2 := cell_of_heap (i := 2) m1
  have Hbel := Lib.hid bel
  have Hpth := Lib.hid pth
  have Hmp := Lib.hid mp
  have Hg1 := Lib.hid g1
  have Hm1 := Lib.hid m1
  have Hg2 := Lib.hid g2
  have Hm2 := Lib.hid m2
  have Hg3 := Lib.hid g3
  have Hm3 := Lib.hid m3
  have Hrd := Lib.hid rd
  clear bel pth mp g1 m1 g2 m2 g3 m3 rd
  go_wp2_with fail
  have bel := Hbel.out
  have pth := Hpth.out
  have mp := Hmp.out
  have g1 := Hg1.out
  have m1 := Hm1.out
  have g2 := Hg2.out
  have m2 := Hm2.out
  have g3 := Hg3.out
  have m3 := Hm3.out
  have rd := Hrd.out
  clear Hbel Hpth Hmp Hg1 Hm1 Hg2 Hm2 Hg3 Hm3 Hrd
  clear q_m1_0 q_m1_1 q_m1_2
  have mm := rd.2.1
  refine (hLearn 5 exRoot false 5 s1a s1c s1p s1q rb rm _ _ _ _ (ht.below bel (Nat.le_refl _)) rd g1 (by omega) (by omega) ex_isL (by omega) learn_1).mono ?_
  rintro e w20 ⟨rfl, rd2, g⟩
  replace bel := bel.grown g bel.size (fun k e => by injection e with e; omega)
  replace pth := pth.grown mm g
  replace mp := map_heap mm g mp
  replace g1 := g1.grown mm g
  replace m1 := map_heap mm g m1
  replace g2 := g2.grown mm g
  replace m2 := map_heap mm g m2
  replace g3 := g3.grown mm g
  replace m3 := map_heap mm g m3
  clear g mm
  clear rd
  have rd := rd2
  clear rd2
  have q_m1_0 := cell_of_heap (i := 0) m1
  have q_m1_1 := cell_of_heap (i := 1) m1
  have q_m1_2 := cell_of_heap (i := 2) m1
  have Hbel := Lib.hid bel
  have Hpth := Lib.hid pth
  have Hmp := Lib.hid mp
  have Hg1 := Lib.hid g1
  have Hm1 := Lib.hid m1
  have Hg2 := Lib.hid g2
  have Hm2 := Lib.hid m2
  have Hg3 := Lib.hid g3
  have Hm3 := Lib.hid m3
  have Hrd := Lib.hid rd
  clear bel pth mp g1 m1 g2 m2 g3 m3 rd
  go_wp2_with fail
  have bel := Hbel.out
  have pth := Hpth.out
  have mp := Hmp.out
  have g1 := Hg1.out
  have m1 := Hm1.out
  have g2 := Hg2.out
  have m2 := Hm2.out
  have g3 := Hg3.out
  have m3 := Hm3.out
  have rd := Hrd.out
  clear Hbel Hpth Hmp Hg1 Hm1 Hg2 Hm2 Hg3 Hm3 Hrd
  clear q_m1_0 q_m1_1 q_m1_2
  have mm := rd.2.1
  refine (hLearn 5 exRoot false 5 s1a s1c s1p s1q rb rm _ _ _ _ (ht.below bel (Nat.le_refl _)) rd g1 (by omega) (by omega) ex_isL (by omega) learn_2).mono ?_
  rintro e w21 ⟨rfl, rd2, g⟩
  replace bel := bel.grown g bel.size (fun k e => by injection e with e; omega)
  replace pth := pth.grown mm g
  replace mp := map_heap mm g mp
  replace g1 := g1.grown mm g
  replace m1 := map_heap mm g m1
  replace g2 := g2.grown mm g
  replace m2 := map_heap mm g m2
  replace g3 := g3.grown mm g
  replace m3 := map_heap mm g m3
  clear g mm
  clear rd
  have rd := rd2
  clear rd2
  have q_m2_0 := cell_of_heap (i := 0) m2
  have q_m2_1 := cell_of_heap (i := 1) m2
  have q_m2_2 := cell_of_heap (i := 2) m2
  have Hbel := Lib.hid bel
  have Hpth := Lib.hid pth
  have Hmp := Lib.hid mp
  have Hg1 := Lib.hid g1
  have Hm1 := Lib.hid m1
  have Hg2 := Lib.hid g2
  have Hm2 := Lib.hid m2
  have Hg3 := Lib.hid g3
  have Hm3 := Lib.hid m3
  have Hrd := Lib.hid rd
  clear bel pth mp g1 m1 g2 m2 g3 m3 rd
  go_wp2_with fail
  have bel := Hbel.out
  have pth := Hpth.out
  have mp := Hmp.out
  have g1 := Hg1.out
  have m1 := Hm1.out
  have g2 := Hg2.out
  have m2 := Hm2.out
  have g3 := Hg3.out
  have m3 := Hm3.out
  have rd := Hrd.out
  clear Hbel Hpth Hmp Hg1 Hm1 Hg2 Hm2 Hg3 Hm3 Hrd
  clear q_m2_0 q_m2_1 q_m2_2
  have mm := rd.2.1
  refine (hLearn 5 othRoot false 5 s2a s2c s2p s2q rb rm _ _ _ _ (ht.below bel (Nat.le_refl _)) rd g2 (by omega) (by omega) oth_isL (by omega) learn_3).mono ?_
  rintro e w22 ⟨rfl, rd2, g⟩
  replace bel := bel.grown g bel.size (fun k e => by injection e with e; omega)
  replace pth := pth.grown mm g
  replace mp := map_heap mm g mp
  replace g1 := g1.grown mm g
  replace m1 := map_heap mm g m1
  replace g2 := g2.grown mm g
  replace m2 := map_heap mm g m2
  replace g3 := g3.grown mm g
  replace m3 := map_heap mm g m3
  clear g mm
  clear rd
  have rd := rd2
  clear rd2
  have q_m1_0 := cell_of_heap (i := 0) m1
  have q_m1_1 := cell_of_heap (i := 1) m1
  have q_m1_2 := cell_of_heap (i := 2) m1
  have Hbel := Lib.hid bel
  have Hpth := Lib.hid pth
  have Hmp := Lib.hid mp
  have Hg1 := Lib.hid g1
  have Hm1 := Lib.hid m1
  have Hg2 := Lib.hid g2
  have Hm2 := Lib.hid m2
  have Hg3 := Lib.hid g3
  have Hm3 := Lib.hid m3
  have Hrd := Lib.hid rd
  clear bel pth mp g1 m1 g2 m2 g3 m3 rd
  go_wp2_with fail
  have bel := Hbel.out
  have pth := Hpth.out
  have mp := Hmp.out
  have g1 := Hg1.out
  have m1 := Hm1.out
  have g2 := Hg2.out
  have m2 := Hm2.out
  have g3 := Hg3.out
  have m3 := Hm3.out
  have rd := Hrd.out
  clear Hbel Hpth Hmp Hg1 Hm1 Hg2 Hm2 Hg3 Hm3 Hrd
  clear q_m1_0 q_m1_1 q_m1_2
  have mm := rd.2.1
  refine (hLearn 6 exRoot false 5 s1a s1c s1p s1q rb rm _ _ _ _ (ht.below bel (Nat.le_refl _)) rd g1 (by omega) (by omega) ex_isL (by omega) learn_4).mono ?_
  rintro e w23 ⟨rfl, rd2, g⟩
  replace bel := bel.grown g bel.size (fun k e => by injection e with e; omega)
  replace pth := pth.grown mm g
  replace mp := map_heap mm g mp
  replace g1 := g1.grown mm g
  replace m1 := map_heap mm g m1
  replace g2 := g2.grown mm g
  replace m2 := map_heap mm g m2
  replace g3 := g3.grown mm g
  replace m3 := map_heap mm g m3
  clear g mm
  clear rd
  have rd := rd2
  clear rd2
  have q_m3_0 := cell_of_heap (i := 0) m3
  have q_m3_1 := cell_of_heap (i := 1) m3
  have q_m3_2 := cell_of_heap (i := 2) m3
  have Hbel := Lib.hid bel
  have Hpth := Lib.hid pth
  have Hmp := Lib.hid mp
  have Hg1 := Lib.hid g1
  have Hm1 := Lib.hid m1
  have Hg2 := Lib.hid g2
  have Hm2 := Lib.hid m2
  have Hg3 := Lib.hid g3
  have Hm3 := Lib.hid m3
  have Hrd := Lib.hid rd
  clear bel pth mp g1 m1 g2 m2 g3 m3 rd
  go_wp2_with fail
  have bel := Hbel.out
  have pth := Hpth.out
  have mp := Hmp.out
  have g1 := Hg1.out
  have m1 := Hm1.out
  have g2 := Hg2.out
  have m2 := Hm2.out
  have g3 := Hg3.out
  have m3 := Hm3.out
  have rd := Hrd.out
  clear Hbel Hpth Hmp Hg1 Hm1 Hg2 Hm2 Hg3 Hm3 Hrd
  clear q_m3_0 q_m3_1 q_m3_2
  have mm := rd.2.1
  refine (hLearn 7 exRoot true 7 s3a s3c s3p s3q rb rm _ _ _ _ (ht.below bel (Nat.le_refl _)) rd g3 (by omega) (by omega) ex_isL (by omega) learn_5).mono ?_
  rintro e w24 ⟨rfl, rd2, g⟩
  replace bel := bel.grown g bel.size (fun k e => by injection e with e; omega)
  replace pth := pth.grown mm g
  replace mp := map_heap mm g mp
  replace g1 := g1.grown mm g
  replace m1 := map_heap mm g m1
  replace g2 := g2.grown mm g
  replace m2 := map_heap mm g m2
  replace g3 := g3.grown mm g
  replace m3 := map_heap mm g m3
  clear g mm
  clear rd
  have rd := rd2
  clear rd2
  clear m1
  clear m2
  clear m3
  clear g1
  clear g2
  clear g3
  have q_mp_0 := cell_of_heap (i := 0) mp
  have q_mp_1 := cell_of_heap (i := 1) mp
  have q_mp_2 := cell_of_heap (i := 2) mp
  have q_mp_3 := cell_of_heap (i := 3) mp
  have q_mp_4 := cell_of_heap (i := 4) mp
  have q_mp_5 := cell_of_heap (i := 5) mp
  have q_mp_6 := cell_of_heap (i := 6) mp
  have q_mp_7 := cell_of_heap (i := 7) mp
  have q_mp_8 := cell_of_heap (i := 8) mp
  have q_mp_9 := cell_of_heap (i := 9) mp
  have Hbel := Lib.hid bel
  have Hpth := Lib.hid pth
  have Hmp := Lib.hid mp
  have Hrd := Lib.hid rd
  clear bel pth mp rd
  go_wp2_with fail
  have bel := Hbel.out
  have pth := Hpth.out
  have mp := Hmp.out
  have rd := Hrd.out
  clear Hbel Hpth Hmp Hrd
  clear q_mp_0 q_mp_1 q_mp_2 q_mp_3 q_mp_4 q_mp_5 q_mp_6 q_mp_7 q_mp_8 q_mp_9
  refine (hWas 5 0 xa xn xc rb rm _ _ (ht.below bel (Nat.le_refl _)) rd pth (by omega) (by omega) was_1).mono ?_
  rintro e w25 ⟨rfl, c⟩
  replace bel := below_next bel c
  replace pth := pth.below c (Nat.le_refl _)
  replace mp := (c.block _ (Array.getElem?_eq_some_iff.1 mp).1).trans mp
  replace rd := rd.below c
  clear c
  have q_mp_0 := cell_of_heap (i := 0) mp
  have q_mp_1 := cell_of_heap (i := 1) mp
  have q_mp_2 := cell_of_heap (i := 2) mp
  have q_mp_3 := cell_of_heap (i := 3) mp
  have q_mp_4 := cell_of_heap (i := 4) mp
  have q_mp_5 := cell_of_heap (i := 5) mp
  have q_mp_6 := cell_of_heap (i := 6) mp
  have q_mp_7 := cell_of_heap (i := 7) mp
  have q_mp_8 := cell_of_heap (i := 8) mp
  have q_mp_9 := cell_of_heap (i := 9) mp
  have Hbel := Lib.hid bel
  have Hpth := Lib.hid pth
  have Hmp := Lib.hid mp
  have Hrd := Lib.hid rd
  clear bel pth mp rd
  go_wp2_with fail
  have bel := Hbel.out
  have pth := Hpth.out
  have mp := Hmp.out
  have rd := Hrd.out
  clear Hbel Hpth Hmp Hrd
  clear q_mp_0 q_mp_1 q_mp_2 q_mp_3 q_mp_4 q_mp_5 q_mp_6 q_mp_7 q_mp_8 q_mp_9
  refine (hWas 6 11 xa xn xc rb rm _ _ (ht.below bel (Nat.le_refl _)) rd pth (by omega) (by omega) was_2).mono ?_
  rintro e w26 ⟨rfl, c⟩
  replace bel := below_next bel c
  replace pth := pth.below c (Nat.le_refl _)
  replace mp := (c.block _ (Array.getElem?_eq_some_iff.1 mp).1).trans mp
  replace rd := rd.below c
  clear c
  have Hbel := Lib.hid bel
  have Hpth := Lib.hid pth
  have Hmp := Lib.hid mp
  have Hrd := Lib.hid rd
  clear bel pth mp rd
  go_wp2_with fail
  have bel := Hbel.out
  have pth := Hpth.out
  have mp := Hmp.out
  have rd := Hrd.out
  clear Hbel Hpth Hmp Hrd
  refine (hWasZ rb rm _ _ (ht.below bel (Nat.le_refl _)) rd).mono ?_
  rintro e w27 ⟨rfl, c⟩
  replace bel := below_next bel c
  replace pth := pth.below c (Nat.le_refl _)
  replace mp := (c.block _ (Array.getElem?_eq_some_iff.1 mp).1).trans mp
  replace rd := rd.below c
  clear c
  have Hbel := Lib.hid bel
  have Hpth := Lib.hid pth
  have Hmp := Lib.hid mp
  have Hrd := Lib.hid rd
  clear bel pth mp rd
  go_wp2_with fail
  have bel := Hbel.out
  have pth := Hpth.out
  have mp := Hmp.out
  have rd := Hrd.out
  clear Hbel Hpth Hmp Hrd
  refine (hDays rb rm _ _ rd (by omega)).mono ?_
  rintro e w28 ⟨dv, rfl, di, c⟩
  replace bel := below_next bel c
  replace pth := pth.below c (Nat.le_refl _)
  replace mp := (c.block _ (Array.getElem?_eq_some_iff.1 mp).1).trans mp
  replace rd := rd.below c
  clear c
  have Hbel := Lib.hid bel
  have Hpth := Lib.hid pth
  have Hmp := Lib.hid mp
  have Hrd := Lib.hid rd
  have Hdi := Lib.hid di
  clear bel pth mp rd di
  go_wp2_with fail
  have bel := Hbel.out
  have pth := Hpth.out
  have mp := Hmp.out
  have rd := Hrd.out
  have di := Hdi.out
  clear Hbel Hpth Hmp Hrd Hdi
  refine (hInts dv _ _ di).mono ?_
  rintro e w29 ⟨rfl, c⟩
  replace bel := below_next bel c
  replace pth := pth.below c (Nat.le_refl _)
  replace mp := (c.block _ (Array.getElem?_eq_some_iff.1 mp).1).trans mp
  replace rd := rd.below c
  replace di := di.below c (Nat.le_refl _)
  clear c
  have q_mp_0 := cell_of_heap (i := 0) mp
  have q_mp_1 := cell_of_heap (i := 1) mp
  have q_mp_2 := cell_of_heap (i := 2) mp
  have q_mp_3 := cell_of_heap (i := 3) mp
  have q_mp_4 := cell_of_heap (i := 4) mp
  have q_mp_5 := cell_of_heap (i := 5) mp
  have q_mp_6 := cell_of_heap (i := 6) mp
  have q_mp_7 := cell_of_heap (i := 7) mp
  have q_mp_8 := cell_of_heap (i := 8) mp
  have q_mp_9 := cell_of_heap (i := 9) mp
  have Hbel := Lib.hid bel
  have Hpth := Lib.hid pth
  have Hmp := Lib.hid mp
  have Hrd := Lib.hid rd
  have Hdi := Lib.hid di
  clear bel pth mp rd di
  go_wp2_with fail
  have bel := Hbel.out
  have pth := Hpth.out
  have mp := Hmp.out
  have rd := Hrd.out
  have di := Hdi.out
  clear Hbel Hpth Hmp Hrd Hdi
  clear q_mp_0 q_mp_1 q_mp_2 q_mp_3 q_mp_4 q_mp_5 q_mp_6 q_mp_7 q_mp_8 q_mp_9
  refine (hWasN xa xn xc _).mono ?_
  rintro e w30 ⟨rfl, c⟩
  replace bel := below_next bel c
  replace pth := pth.below c (Nat.le_refl _)
  replace mp := (c.block _ (Array.getElem?_eq_some_iff.1 mp).1).trans mp
  replace rd := rd.below c
  replace di := di.below c (Nat.le_refl _)
  clear c
  have Hbel := Lib.hid bel
  have Hpth := Lib.hid pth
  have Hmp := Lib.hid mp
  have Hrd := Lib.hid rd
  have Hdi := Lib.hid di
  clear bel pth mp rd di
  go_wp2_with fail
  have bel := Hbel.out
  have pth := Hpth.out
  have mp := Hmp.out
  have rd := Hrd.out
  have di := Hdi.out
  clear Hbel Hpth Hmp Hrd Hdi
  refine (days_nil _).mono ?_
  rintro e w31 ⟨rfl, c⟩
  replace bel := below_next bel c
  replace pth := pth.below c (Nat.le_refl _)
  replace mp := (c.block _ (Array.getElem?_eq_some_iff.1 mp).1).trans mp
  replace rd := rd.below c
  replace di := di.below c (Nat.le_refl _)
  clear c
  have Hbel := Lib.hid bel
  have Hpth := Lib.hid pth
  have Hmp := Lib.hid mp
  have Hrd := Lib.hid rd
  have Hdi := Lib.hid di
  clear bel pth mp rd di
  go_wp2_with fail
  have bel := Hbel.out
  have pth := Hpth.out
  have mp := Hmp.out
  have rd := Hrd.out
  have di := Hdi.out
  clear Hbel Hpth Hmp Hrd Hdi
  go_ret
  exact ⟨rfl, bel⟩
end Go.Proofs.YteoclpjbeadkpaaGreatDoor
/- WALK: short (the laws of layer 44), pandectref03.Few at the seals of layer 44. -/
namespace Go.Proofs.YteoclpjbeadkpaaGreatDoor
open Go.RowKit Go.Shelf Go.Maps

/-- What a reader is told. -/
structure Td where
  day : Int
  cnt : Int
  root : List UInt8
  wrong : Bool
def tdV (t : Td) : Value := .agg #[.int .i64 t.day, .int .i64 t.cnt, .string ⟨t.root.toArray⟩, .bool t.wrong]
def TdAt (w : World) (b off : Nat) (t : Td) : Prop := w.cell? ⟨b, off, none⟩ = some (.int .i64 t.day) ∧ w.cell? ⟨b, off + 1, none⟩ = some (.int .i64 t.cnt) ∧ w.cell? ⟨b, off + 2, none⟩ = some (.string ⟨t.root.toArray⟩) ∧ w.cell? ⟨b, off + 3, none⟩ = some (.bool t.wrong)
def HasTds (w : World) (v : Value) (l : List Td) : Prop :=
  (l = [] ∧ ∃ a c, v = .slice a 0 c) ∨ (0 < l.length ∧ ∃ b off c, v = .slice (some ⟨b, off, none⟩) l.length c ∧ b < w.heap.size ∧ ∀ (j : Nat) (h : j < l.length), TdAt w b (off + j * 4) l[j])
theorem TdAt.below {w w' : World} {b off : Nat} {t : Td} (h : TdAt w b off t) {B : Nat} (hb : Below B w w') (hB : b < B) : TdAt w' b off t := by
  obtain ⟨h0, h1, h2, h3⟩ := h
  exact ⟨(hb.cell (p := ⟨b, off, none⟩) hB).trans h0, (hb.cell (p := ⟨b, off + 1, none⟩) hB).trans h1, (hb.cell (p := ⟨b, off + 2, none⟩) hB).trans h2, (hb.cell (p := ⟨b, off + 3, none⟩) hB).trans h3⟩
theorem HasTds.below {w w' : World} {v : Value} {l : List Td} (h : HasTds w v l) {B : Nat} (hb : Below B w w') (hB : w.heap.size ≤ B) : HasTds w' v l := by
  rcases h with h | ⟨h0, b, off, c, rfl, hlt, hc⟩
  · exact Or.inl h
  · exact Or.inr ⟨h0, b, off, c, rfl, Nat.lt_of_lt_of_le hlt hb.size, fun j hj => (hc j hj).below hb (by omega)⟩
theorem HasTds.shape {w : World} {v : Value} {l : List Td} (h : HasTds w v l) : ∃ a c, v = .slice a l.length c := by
  rcases h with ⟨rfl, a, c, rfl⟩ | ⟨_, b, off, c, rfl, _⟩
  · exact ⟨a, c, rfl⟩
  · exact ⟨_, c, rfl⟩
def shortL (l : List Td) (n : Nat) : Bool := decide (l.length ≤ n) && l.all fun t => decide (t.root.length ≤ 100)

set_option maxHeartbeats 1000000 in
set_option maxRecDepth 100000 in
theorem short_any (l : List Td) (n : Nat) (v : Value) (w : World) (hv : HasTds w v l) (hl : l.length ≤ 140737488355328) (hn : n ≤ 1000) (hr : ∀ t ∈ l, t.root.length ≤ 140737488355328) (b : Bool) (hb : Hid (shortL l n = b)) :
    Calls Tryz.prog 13 #[v, .int .i64 (n : Int)] w fun e w' => e = .returned (.bool b) ∧ Below w.heap.size w w' := by
  obtain ⟨a, c, hve⟩ := hv.shape
  by_cases hln : l.length ≤ n
  · rcases hv with ⟨rfl, a, c, rfl⟩ | ⟨h0, bb, off, c, rfl, hlt, hc⟩
    · have hb2 : Hid (b = true) := by unfold Hid; rw [← hb.out]; unfold shortL; simp
      clear hb hve
      go_enter Tryz.func13, Tryz.ntmps13
      go_wp2_with fail
      refine wp_loop_rounds 1 ?_
      rw [rounds_succ]
      go_wp2_with fail
      go_ret
      exact ⟨by rw [hb2.out]; rfl, Below.refl _ _⟩
    · clear hve
      go_enter Tryz.func13, Tryz.ntmps13
      go_wp2_with fail
      go_loop [5] (fun i => ∃ k : Nat, k ≤ l.length ∧ i = .int .i64 (k : Int) ∧ (l.take k).all (fun t => decide (t.root.length ≤ 100)) = true) (fun i => l.length - (intOf i).toNat)
      case atStart => exact ⟨0, by omega, rfl, by simp⟩
      case round =>
        obtain ⟨k, hk, rfl, ha⟩ := hrel
        have HA := Lib.hid ha; clear ha
        have hli : (l.length : Int) ≤ (n : Int) := by omega
        by_cases hkl : k < l.length
        · obtain ⟨f0, f1, f2, f3⟩ := hc k hkl
          have hrk := hr _ (List.getElem_mem hkl)
          obtain ⟨t, ht0⟩ : ∃ t, l[k] = t := ⟨_, rfl⟩
          have ht := Lib.hid ht0
          rw [ht0] at f0 f1 f2 f3 hrk
          clear ht0
          have HST : Hid ((l.take (k + 1)).all (fun t => decide (t.root.length ≤ 100)) = decide (t.root.length ≤ 100)) := by
            unfold Hid
            rw [List.take_succ_eq_append_getElem hkl, List.all_append, HA.out, ht.out]; simp
          by_cases ht1 : t.root.length ≤ 100
          · go_wp2_with fail
            go_round
            case rel => exact ⟨k + 1, by omega, by go_num, by rw [HST.out]; simpa using ht1⟩
            case measure => simp [intOf]; omega
          · have hb2 : Hid (b = false) := by
              unfold Hid; rw [← hb.out]; unfold shortL
              have h1 : (l.all fun t => decide (t.root.length ≤ 100)) = false := by
                rw [List.all_eq_false]
                exact ⟨t, by rw [← ht.out]; exact List.getElem_mem hkl, by simpa using ht1⟩
              rw [h1]; simp
            go_wp2_with fail
            go_ret
            exact ⟨by rw [hb2.out]; rfl, Below.refl _ _⟩
        · obtain rfl : k = l.length := by omega
          have hb2 : Hid (b = true) := by
            unfold Hid; rw [← hb.out]; unfold shortL
            have h1 := HA.out
            rw [List.take_length] at h1
            rw [h1]; simpa using hln
          go_wp2_with fail
          go_ret
          exact ⟨by rw [hb2.out]; rfl, Below.refl _ _⟩
  · have hb2 : Hid (b = false) := by
      unfold Hid; rw [← hb.out]; unfold shortL
      rw [decide_eq_false hln]; rfl
    subst hve
    have hli : ¬ (l.length : Int) ≤ (n : Int) := by omega
    have hli2 : (0 : Int) < (l.length : Int) := by omega
    clear hv hb
    go_enter Tryz.func13, Tryz.ntmps13
    go_wp2_with fail
    refine wp_loop_rounds 1 ?_
    rw [rounds_succ]
    go_wp2_with fail
    go_ret
    exact ⟨by rw [hb2.out]; rfl, Below.refl _ _⟩
end Go.Proofs.YteoclpjbeadkpaaGreatDoor
/- WHAT ALL ROWS OF THIS SEAT SHARE: the arguments opened, the table out of the listed variables, a world for the witness. -/
namespace Go.Proofs.YteoclpjbeadkpaaGreatDoor
open Go.ChangeShapes Go.WideShapes Go.ChangeAt Go.RowKit
open Go.ChangeMaps (open_string)

theorem own : ownKnob Tryz.prog.godebug = none := by kernel_rfl
theorem laidOut : laidOutB Tryz.prog = true := by kernel_rfl
theorem cellsString : Tryz.prog.cellsOf 9 = 1 := by kernel_rfl
theorem bytesString : Tryz.prog.bytesOf 9 = 16 := by kernel_rfl

/-- the sizes that a list has by the form's own reach -/
def Sized (ss : List (List UInt8)) : Prop := ss.length ≤ 140737488355328 ∧ ∀ j, j < ss.length → (ss.getD j []).length ≤ 9223372036854775807

theorem bytes_eta (s : ByteArray) : (⟨s.data.toList.toArray⟩ : ByteArray) = s := by simp
theorem strs_open {H : Type} {enc : TypeId × Value → H} {W : World} {sp : Nat → Bool} {held : Bool} {a : Option Addr} {len cap : Nat} {d : DataW H} {p : List MemPlace}
    (h : DataW.Trod enc Tryz.prog W 0 sp held 27 (.slice a len cap) d p) (hsz : ∀ elems spare, d = .slice elems spare → (elems.length + spare.length) * Tryz.prog.bytesOf 9 ≤ reachBytes) :
    ∃ ss, HasStrs W (.slice a len cap) ss ∧ Sized ss := by
  obtain ⟨fuel, hf⟩ := h
  rcases open_strings Tryz.underlying27 Tryz.underlying9 cellsString hf with ⟨hcs, _⟩ | ⟨x, l, c, ss, hcs, _, hl, hm, hz, hx, hcell, hwz⟩
  · simp [Value.cells] at hcs
    obtain ⟨rfl, rfl, rfl⟩ := hcs
    exact ⟨[], Or.inl ⟨rfl, _, _, rfl⟩, by simp, by simp⟩
  · simp [Value.cells] at hcs
    obtain ⟨rfl, rfl, rfl⟩ := hcs
    have hb := hsz _ _ (congrArg Prod.fst hx)
    rw [bytesString] at hb
    have hll : len ≤ ss.length := by rw [hz]; split <;> omega
    simp only [strs, List.length_map, List.length_take, List.length_drop, reachBytes] at hb
    have hlen : ((ss.take len).map fun s => s.data.toList).length = len := by simp; omega
    have hget : ∀ j, j < len → ((ss.take len).map fun s => s.data.toList).getD j [] = (ss.getD j ByteArray.empty).data.toList := by
      intro j hj
      simp [List.getD, hj, List.getElem?_eq_getElem (show j < ss.length by omega)]
    refine ⟨(ss.take len).map fun s => s.data.toList, ?_, by rw [hlen]; omega, ?_⟩
    · by_cases h0 : len = 0
      · subst h0
        exact Or.inl ⟨by simp, _, _, rfl⟩
      · have hc0 := hcell 0 (by omega)
        obtain ⟨b, off, spot⟩ := x
        have hspot : spot = none := by simpa [Addr.add] using World.cell?_spot hc0
        subst hspot
        refine Or.inr ⟨by omega, b, off, cap, by rw [hlen], by simpa [Addr.add] using block_lt_of_cell hc0, fun j hj => ?_⟩
        rw [hget j (by omega), bytes_eta, ← hcell j (by omega), add_plain]
    · intro j hj
      rw [hget j (by omega), ← Lib.size_eq]
      have := hwz (ss.getD j ByteArray.empty) (by
        have hj2 : j < ss.length := by omega
        simp [List.getD, List.getElem?_eq_getElem hj2])
      unfold maxLen at this
      exact this

/-- one listed variable's reading -/
def VarReads (P : Program) (w : World) (n : String) (d : DataW Unit) : Prop :=
  ∃ g t cs fuel p, P.globalNamed n = some g ∧ (P.globals[g]?).map (·.type) = some t ∧ w.var? P n = some cs ∧ DataW.trod (fun _ => ()) P w 0 (fun _ => true) false fuel t cs.toList = some (d, p)
theorem laidVars_reads {P : Program} {w : World} : ∀ {l : List (String × DataW Unit)} {ps : List MemPlace}, DataW.LaidVars P w l ps → ∀ n d, (n, d) ∈ l → VarReads P w n d
  | [], _, _, _, _, hm => by cases hm
  | (n', d') :: r, ps, h, n, d, hm => by
    obtain ⟨g, t, cs, fuel, p, q, h1, h2, h3, h4, h5, _⟩ := h
    rcases List.mem_cons.1 hm with e | e
    · cases e
      exact ⟨g, t, cs, fuel, p, h1, h2, h3, h4⟩
    · exact laidVars_reads h5 n d e
theorem tab_type : (Tryz.prog.globals[0]?).map (·.type) = some 202 := by kernel_rfl
theorem tab_cells : Tryz.prog.cellsOf 202 = 20 := by kernel_rfl
theorem tab_cell : Tryz.prog.cellsOf 145 = 1 := by kernel_rfl
theorem tab_of {W : World} {l : List (String × DataW Unit)} (h : laidMet Tryz.prog l W) (hm : ("internal/strconv.uint64pow10", Rows.laid_internal_strconv_uint64pow10) ∈ l) : Tab W := by
  obtain ⟨ps, hv, _⟩ := h
  obtain ⟨g, t, cs, fuel, p, hg, ht, hvar, hd⟩ := laidVars_reads hv _ _ hm
  obtain rfl := Option.some.inj (gTab10.symm.trans hg)
  obtain rfl := Option.some.inj (tab_type.symm.trans ht)
  have e : (Rows.laid_internal_strconv_uint64pow10 : DataW Unit) = Lib.tabData .u64 Lib.pow10Tab := by kernel_rfl
  rw [e] at hd
  unfold Tab Lib.TabIs
  rw [hvar, ← Lib.cells_of_tab Tryz.underlying202 Tryz.underlying145 tab_cell tab_cells hd]

/-- the cells that read as a datum of plain numbers -/
def cellsOfD : DataW Unit → List Value
  | .lit (.int k n) => [.int k n]
  | .agg l => cellsOfL l
  | _ => []
where cellsOfL : List (DataW Unit) → List Value
  | [] => []
  | d :: r => cellsOfD d ++ cellsOfL r
def layAt (h : Array Obj) (g : Nat) (d : DataW Unit) : Array Obj := h.modify g fun
  | .cells _ t frozen => .cells (cellsOfD d).toArray t frozen
  | o => o
/-- the settled world's memory, the five tables holding what their initialisers lay -/
noncomputable def laidHeap (os : Os) : Array Obj :=
  layAt (layAt (layAt (layAt (layAt (World.holding Tryz.prog os ⟨#[], #[], []⟩).heap 4 Rows.laid_math_bits_deBruijn32tab) 5 Rows.laid_math_bits_deBruijn64tab) 0 Rows.laid_internal_strconv_uint64pow10) 3 Rows.laid_unicode_utf8_acceptRanges) 2 Rows.laid_unicode_utf8_first
/-- a world for the witness -/
noncomputable def laidWorld (os : Os) : World := { World.holding Tryz.prog os ⟨#[], #[], []⟩ with heap := laidHeap os }
end Go.Proofs.YteoclpjbeadkpaaGreatDoor
/- THE ARGUMENTS OF THE LAWS OF LAYER 44, OPENED: what a reader is told, items, codes, proofs. -/
namespace Go.Proofs.YteoclpjbeadkpaaGreatDoor
open Go.ChangeShapes Go.WideShapes Go.ChangeAt Go.RowKit Go.Deep
open Go.ChangeMaps (open_string)

section
variable {H : Type}
/-- No size in a datum is beyond the form's reach. -/
def Wt (t : TypeId) (d : DataW H) : Prop := ∀ n ∈ d.weights Tryz.prog t, n ≤ reachBytes
theorem wt_arg {ts : List TypeId} {ds : List (DataW H)} (h : (DataW.weightsEach Tryz.prog ts ds).all (· ≤ reachBytes) = true) {j : Nat} {t : TypeId} {d : DataW H} (ht : ts[j]? = some t) (hd : ds[j]? = some d) : Wt t d := fun n hn => by
  have := List.all_eq_true.1 h n (DataW.weights_mem_each ht hd n hn)
  simpa using this
theorem wt_struct {t : TypeId} {parts : List (DataW H)} {fs : Array Field} (h : Wt t (.agg parts)) (hu : Tryz.prog.underlying t = some (.struct fs)) {j : Nat} {f : Field} {d : DataW H} (hf : fs[j]? = some f) (hd : parts[j]? = some d) : Wt f.type d := fun n hn => by
  refine h n ?_
  simp only [DataW.weights, hu]
  refine DataW.weights_mem_each (j := j) ?_ hd n hn
  simp [hf]
theorem weightsAll_mem {e : TypeId} : ∀ {l : List (DataW H)} {d : DataW H}, d ∈ l → ∀ n ∈ d.weights Tryz.prog e, n ∈ DataW.weightsAll Tryz.prog e l
  | x :: l, d, hd, n, hn => by
    simp only [DataW.weightsAll, List.mem_append]
    rcases List.mem_cons.1 hd with rfl | h
    · exact Or.inl hn
    · exact Or.inr (weightsAll_mem h n hn)
theorem wt_elem {t e : TypeId} {es sp : List (DataW H)} {d : DataW H} (h : Wt t (.slice es sp)) (hu : Tryz.prog.underlying t = some (.slice e)) (hd : d ∈ es) : Wt e d := fun n hn => by
  refine h n ?_
  simp only [DataW.weights, hu, List.mem_cons, List.mem_append]
  exact Or.inr (Or.inl (weightsAll_mem hd n hn))
theorem wt_len {t e : TypeId} {es sp : List (DataW H)} (h : Wt t (.slice es sp)) (hu : Tryz.prog.underlying t = some (.slice e)) : (es.length + sp.length) * Tryz.prog.bytesOf e ≤ reachBytes :=
  h _ (by simp [DataW.weights, hu])
theorem wt_str {t : TypeId} {b : List UInt8} (h : Wt t (.lit (.string b) : DataW H)) : b.length ≤ 140737488355328 := by
  have := h b.length (by simp [DataW.weights])
  unfold reachBytes at this; omega
end

theorem i64_wf {x : Int} (h : (Lit.int .i64 x).wf = true) : -9223372036854775808 ≤ x ∧ x ≤ 9223372036854775807 := bounds_i64 h
theorem str_mk (s : ByteArray) : s = ⟨(s.data.toList).toArray⟩ := (bytes_eta s).symm

section
variable {H : Type} {enc : TypeId × Value → H} {w : World} {base : Nat} {sp : Nat → Bool} {held : Bool} {fuel : Nat} {cs : List Value} {x : DataW H × List MemPlace}

def tdCells (t : Td) : List Value := [.int .i64 t.day, .int .i64 t.cnt, .string ⟨t.root.toArray⟩, .bool t.wrong]
def TdIn (t : Td) : Prop := -9223372036854775808 ≤ t.day ∧ t.day ≤ 9223372036854775807 ∧ -9223372036854775808 ≤ t.cnt ∧ t.cnt ≤ 9223372036854775807
set_option maxRecDepth 100000 in
theorem told_open (h : DataW.trod enc Tryz.prog w base sp held fuel 46 cs = some x) : ∃ t : Td, cs = tdCells t ∧ TdIn t ∧ (Wt 46 x.1 → t.root.length ≤ 140737488355328) := by
  obtain ⟨xs, n, _, hx, hlen, hxl, hf⟩ := DataW.trod_struct Tryz.underlying46 h
  have hC : Tryz.prog.cellsOf 46 = 4 := by kernel_rfl
  have h3 : Tryz.prog.cellsOf 3 = 1 := by kernel_rfl
  have h9 : Tryz.prog.cellsOf 9 = 1 := by kernel_rfl
  have h4 : Tryz.prog.cellsOf 4 = 1 := by kernel_rfl
  rw [hC] at hlen
  match cs, hlen, xs, hxl with
  | [c0, c1, c2, c3], _, [y0, y1, y2, y3], _ =>
    have g0 : DataW.trod enc Tryz.prog w base sp held n 3 [c0] = some y0 := by simpa [h3, h9, h4] using hf 0 _ rfl
    have g1 : DataW.trod enc Tryz.prog w base sp held n 3 [c1] = some y1 := by simpa [h3, h9, h4] using hf 1 _ rfl
    have g2 : DataW.trod enc Tryz.prog w base sp held n 9 [c2] = some y2 := by simpa [h3, h9, h4] using hf 2 _ rfl
    have g3 : DataW.trod enc Tryz.prog w base sp held n 4 [c3] = some y3 := by simpa [h3, h9, h4] using hf 3 _ rfl
    obtain ⟨a0, e0, z0, w0⟩ := DataW.trod_int Tryz.underlying3 g0
    obtain ⟨a1, e1, z1, w1⟩ := DataW.trod_int Tryz.underlying3 g1
    obtain ⟨a2, e2, z2, w2⟩ := DataW.trod_string Tryz.underlying9 g2
    obtain ⟨a3, e3, z3⟩ := DataW.trod_bool Tryz.underlying4 g3
    cases e0; cases e1; cases e2; cases e3; cases z0; cases z1; cases z2; cases z3
    refine ⟨⟨a0, a1, a2.data.toList, a3⟩, by simp [tdCells], ⟨(i64_wf w0).1, (i64_wf w0).2, (i64_wf w1).1, (i64_wf w1).2⟩, fun hw => ?_⟩
    rw [hx] at hw
    exact wt_str (wt_struct hw Tryz.underlying46 (j := 2) rfl rfl)

def itCells (i : Co.It) : List Value := [.int .i64 i.kind, .string ⟨i.id.toArray⟩, .string ⟨i.parent.toArray⟩, .string ⟨i.number.toArray⟩, .string ⟨i.north.toArray⟩, .string ⟨i.south.toArray⟩, .bool i.gone]
def ItIn (i : Co.It) : Prop := -9223372036854775808 ≤ i.kind ∧ i.kind ≤ 9223372036854775807
def ItSz (i : Co.It) : Prop := i.id.length ≤ 140737488355328 ∧ i.parent.length ≤ 140737488355328 ∧ i.number.length ≤ 140737488355328 ∧ i.north.length ≤ 140737488355328 ∧ i.south.length ≤ 140737488355328
set_option maxRecDepth 100000 in
theorem item_open (h : DataW.trod enc Tryz.prog w base sp held fuel 26 cs = some x) : ∃ i : Co.It, cs = itCells i ∧ ItIn i ∧ (Wt 26 x.1 → ItSz i) := by
  obtain ⟨xs, n, _, hx, hlen, hxl, hf⟩ := DataW.trod_struct Tryz.underlying26 h
  have hC : Tryz.prog.cellsOf 26 = 7 := by kernel_rfl
  have h3 : Tryz.prog.cellsOf 3 = 1 := by kernel_rfl
  have h9 : Tryz.prog.cellsOf 9 = 1 := by kernel_rfl
  have h4 : Tryz.prog.cellsOf 4 = 1 := by kernel_rfl
  rw [hC] at hlen
  match cs, hlen, xs, hxl with
  | [c0, c1, c2, c3, c4, c5, c6], _, [y0, y1, y2, y3, y4, y5, y6], _ =>
    have g0 : DataW.trod enc Tryz.prog w base sp held n 3 [c0] = some y0 := by simpa [h3, h9, h4] using hf 0 _ rfl
    have g1 : DataW.trod enc Tryz.prog w base sp held n 9 [c1] = some y1 := by simpa [h3, h9, h4] using hf 1 _ rfl
    have g2 : DataW.trod enc Tryz.prog w base sp held n 9 [c2] = some y2 := by simpa [h3, h9, h4] using hf 2 _ rfl
    have g3 : DataW.trod enc Tryz.prog w base sp held n 9 [c3] = some y3 := by simpa [h3, h9, h4] using hf 3 _ rfl
    have g4 : DataW.trod enc Tryz.prog w base sp held n 9 [c4] = some y4 := by simpa [h3, h9, h4] using hf 4 _ rfl
    have g5 : DataW.trod enc Tryz.prog w base sp held n 9 [c5] = some y5 := by simpa [h3, h9, h4] using hf 5 _ rfl
    have g6 : DataW.trod enc Tryz.prog w base sp held n 4 [c6] = some y6 := by simpa [h3, h9, h4] using hf 6 _ rfl
    obtain ⟨a0, e0, z0, w0⟩ := DataW.trod_int Tryz.underlying3 g0
    obtain ⟨a1, e1, z1, w1⟩ := DataW.trod_string Tryz.underlying9 g1
    obtain ⟨a2, e2, z2, w2⟩ := DataW.trod_string Tryz.underlying9 g2
    obtain ⟨a3, e3, z3, w3⟩ := DataW.trod_string Tryz.underlying9 g3
    obtain ⟨a4, e4, z4, w4⟩ := DataW.trod_string Tryz.underlying9 g4
    obtain ⟨a5, e5, z5, w5⟩ := DataW.trod_string Tryz.underlying9 g5
    obtain ⟨a6, e6, z6⟩ := DataW.trod_bool Tryz.underlying4 g6
    cases e0; cases e1; cases e2; cases e3; cases e4; cases e5; cases e6; cases z0; cases z1; cases z2; cases z3; cases z4; cases z5; cases z6
    refine ⟨⟨a0, a1.data.toList, a2.data.toList, a3.data.toList, a4.data.toList, a5.data.toList, a6⟩, by simp [itCells], i64_wf w0, fun hw => ?_⟩
    rw [hx] at hw
    exact ⟨wt_str (wt_struct hw Tryz.underlying26 (j := 1) rfl rfl), wt_str (wt_struct hw Tryz.underlying26 (j := 2) rfl rfl), wt_str (wt_struct hw Tryz.underlying26 (j := 3) rfl rfl), wt_str (wt_struct hw Tryz.underlying26 (j := 4) rfl rfl), wt_str (wt_struct hw Tryz.underlying26 (j := 5) rfl rfl)⟩

theorem choose_list {α : Type} (z : α) (n : Nat) (P : Nat → α → Prop) (h : ∀ i, i < n → ∃ a, P i a) : ∃ l : List α, l.length = n ∧ ∀ (i : Nat) (hi : i < l.length), P i l[i] := by
  have h2 : ∀ i, ∃ a, i < n → P i a := fun i => by
    by_cases hi : i < n
    · obtain ⟨a, ha⟩ := h i hi
      exact ⟨a, fun _ => ha⟩
    · exact ⟨z, fun h => absurd h hi⟩
  refine ⟨(List.range n).map fun i => Classical.choose (h2 i), by simp, fun i hi => ?_⟩
  simp only [List.getElem_map, List.getElem_range]
  exact Classical.choose_spec (h2 i) (by simpa using hi)
theorem cell_at {b off o K i j : Nat} (h : o = off + i * K) : ((⟨b, off, none⟩ : Addr).add (i * K)).add j = ⟨b, o + j, none⟩ := by
  subst h; rw [Go.WideShapes.add_plain, Go.WideShapes.add_plain]

set_option maxRecDepth 100000 in
theorem tds_open {a : Option Addr} {len cap : Nat} {d : DataW H} {p : List MemPlace} (h : DataW.Trod enc Tryz.prog w 0 sp held 30 (.slice a len cap) d p) (hw : Wt 30 d) :
    ∃ l, HasTds w (.slice a len cap) l ∧ l.length ≤ 140737488355328 ∧ ∀ t ∈ l, TdIn t ∧ t.root.length ≤ 140737488355328 := by
  have hC : Tryz.prog.cellsOf 46 = 4 := by kernel_rfl
  have hB : Tryz.prog.bytesOf 46 = 40 := by kernel_rfl
  obtain ⟨fuel, hf⟩ := h
  rcases open_slice Tryz.underlying30 hf with ⟨hcs, _⟩ | ⟨x, l, c, m, n, D, Pl, hcs, _, hl, _, hm, hx, hi⟩
  · simp [Value.cells] at hcs
    obtain ⟨rfl, rfl, rfl⟩ := hcs
    exact ⟨[], Or.inl ⟨rfl, _, _, rfl⟩, by simp, by simp⟩
  · simp [Value.cells] at hcs
    obtain ⟨rfl, rfl, rfl⟩ := hcs
    have hd : d = _ := congrArg Prod.fst hx
    have hlm : len ≤ m := by rw [hm]; split <;> omega
    have hlen := wt_len (hd ▸ hw) Tryz.underlying30
    rw [hB] at hlen
    simp only [List.length_map, List.length_range, reachBytes] at hlen
    rw [hC] at hi
    obtain ⟨ts, htl, hts⟩ := choose_list (⟨0, 0, [], false⟩ : Td) len (fun i t => (∀ j, j < 4 → w.cell? ((x.add (i * 4)).add j) = (tdCells t)[j]?) ∧ TdIn t ∧ t.root.length ≤ 140737488355328) (fun i hil => by
      obtain ⟨cs', hc, ht⟩ := hi i (by omega)
      obtain ⟨t, e1, e2, e3⟩ := told_open ht
      obtain ⟨_, hcl, hat⟩ := World.cells?_some hc
      refine ⟨t, fun j hj => ?_, e2, e3 (wt_elem (hd ▸ hw) Tryz.underlying30 (List.mem_map.2 ⟨i, List.mem_range.2 hil, rfl⟩))⟩
      rw [← e1]; exact hat j hj)
    refine ⟨ts, ?_, by omega, fun t ht => ?_⟩
    · by_cases h0 : len = 0
      · subst h0
        exact Or.inl ⟨List.length_eq_zero_iff.mp htl, _, _, rfl⟩
      · have hc0 := (hts 0 (by omega)).1 0 (by decide)
        obtain ⟨b, off, spot⟩ := x
        have hc0' : w.cell? ⟨b, off, spot⟩ = some (.int .i64 (ts[0]'(by omega)).day) := by simpa [Addr.add, tdCells] using hc0
        have hspot : spot = none := World.cell?_spot hc0'
        subst hspot
        refine Or.inr ⟨by omega, b, off, cap, by rw [htl], block_lt_of_cell hc0', fun j hj => ?_⟩
        have hj2 := (hts j hj).1
        have e := fun k (hk : k < 4) => (congrArg w.cell? (cell_at (b := b) (off := off) (K := 4) (i := j) (j := k) rfl)).symm.trans (hj2 k hk)
        exact ⟨e 0 (by decide), e 1 (by decide), e 2 (by decide), e 3 (by decide)⟩
    · obtain ⟨i, hi2, rfl⟩ := List.mem_iff_getElem.mp ht
      exact (hts i hi2).2
set_option maxRecDepth 100000 in
theorem its_open {a : Option Addr} {len cap : Nat} {d : DataW H} {p : List MemPlace} (h : DataW.Trod enc Tryz.prog w 0 sp held 22 (.slice a len cap) d p) (hw : Wt 22 d) :
    ∃ l, HasIts w (.slice a len cap) l ∧ l.length ≤ 140737488355328 ∧ ∀ t ∈ l, ItIn t ∧ ItSz t := by
  have hC : Tryz.prog.cellsOf 26 = 7 := by kernel_rfl
  have hB : Tryz.prog.bytesOf 26 = 96 := by kernel_rfl
  obtain ⟨fuel, hf⟩ := h
  rcases open_slice Tryz.underlying22 hf with ⟨hcs, _⟩ | ⟨x, l, c, m, n, D, Pl, hcs, _, hl, _, hm, hx, hi⟩
  · simp [Value.cells] at hcs
    obtain ⟨rfl, rfl, rfl⟩ := hcs
    exact ⟨[], Or.inl ⟨rfl, _, _, rfl⟩, by simp, by simp⟩
  · simp [Value.cells] at hcs
    obtain ⟨rfl, rfl, rfl⟩ := hcs
    have hd : d = _ := congrArg Prod.fst hx
    have hlm : len ≤ m := by rw [hm]; split <;> omega
    have hlen := wt_len (hd ▸ hw) Tryz.underlying22
    rw [hB] at hlen
    simp only [List.length_map, List.length_range, reachBytes] at hlen
    rw [hC] at hi
    obtain ⟨ts, htl, hts⟩ := choose_list Pf.zeroIt len (fun i t => (∀ j, j < 7 → w.cell? ((x.add (i * 7)).add j) = (itCells t)[j]?) ∧ ItIn t ∧ ItSz t) (fun i hil => by
      obtain ⟨cs', hc, ht⟩ := hi i (by omega)
      obtain ⟨t, e1, e2, e3⟩ := item_open ht
      obtain ⟨_, hcl, hat⟩ := World.cells?_some hc
      refine ⟨t, fun j hj => ?_, e2, e3 (wt_elem (hd ▸ hw) Tryz.underlying22 (List.mem_map.2 ⟨i, List.mem_range.2 hil, rfl⟩))⟩
      rw [← e1]; exact hat j hj)
    refine ⟨ts, ?_, by omega, fun t ht => ?_⟩
    · by_cases h0 : len = 0
      · subst h0
        exact Or.inl ⟨List.length_eq_zero_iff.mp htl, _, _, rfl⟩
      · have hc0 := (hts 0 (by omega)).1 0 (by decide)
        obtain ⟨b, off, spot⟩ := x
        have hc0' : w.cell? ⟨b, off, spot⟩ = some (.int .i64 (ts[0]'(by omega)).kind) := by simpa [Addr.add, itCells] using hc0
        have hspot : spot = none := World.cell?_spot hc0'
        subst hspot
        refine Or.inr ⟨by omega, b, off, cap, by rw [htl], block_lt_of_cell hc0', fun j hj => ?_⟩
        have hj2 := (hts j hj).1
        have e := fun k (hk : k < 7) => (congrArg w.cell? (cell_at (b := b) (off := off) (K := 7) (i := j) (j := k) rfl)).symm.trans (hj2 k hk)
        exact ⟨e 0 (by decide), e 1 (by decide), e 2 (by decide), e 3 (by decide), e 4 (by decide), e 5 (by decide), e 6 (by decide)⟩
    · obtain ⟨i, hi2, rfl⟩ := List.mem_iff_getElem.mp ht
      exact (hts i hi2).2

theorem path_open {v : Value} {d : DataW H} {p : List MemPlace} (h : DataW.Trod enc Tryz.prog w 0 sp held 27 v d p) (hv : ∃ a len cap, v = .slice a len cap) (hw : Wt 27 d) :
    ∃ ss, HasStrsC w v ss ∧ Sized ss := by
  obtain ⟨a, len, cap, rfl⟩ := hv
  obtain ⟨ss, h1, h2⟩ := strs_open h (fun elems spare e => by subst e; exact wt_len hw Tryz.underlying27)
  obtain ⟨a2, c2, e⟩ := h1.shape
  simp only [Value.slice.injEq] at e
  obtain ⟨rfl, rfl, rfl⟩ := e
  obtain ⟨fuel, hf⟩ := h
  refine ⟨ss, ⟨h1, a, cap, rfl, ?_, h2.1⟩, h2⟩
  rcases open_slice Tryz.underlying27 hf with ⟨hcs, _⟩ | ⟨x, l, c, m, n, D, Pl, hcs, _, hl, _⟩
  · simp [Value.cells] at hcs
    simp [hcs]
  · simp [Value.cells] at hcs
    omega

def prCells (p : Pf.Pr) (pv : Value) : List Value := [.int .i64 p.count, .int .i64 p.index, .int .i64 p.item.kind, .string ⟨p.item.id.toArray⟩, .string ⟨p.item.parent.toArray⟩, .string ⟨p.item.number.toArray⟩, .string ⟨p.item.north.toArray⟩, .string ⟨p.item.south.toArray⟩, .bool p.item.gone, pv]
def PrIn (p : Pf.Pr) : Prop := -9223372036854775808 ≤ p.count ∧ p.count ≤ 9223372036854775807 ∧ -9223372036854775808 ≤ p.index ∧ p.index ≤ 9223372036854775807 ∧ ItIn p.item ∧ ItSz p.item ∧ Sized p.path
set_option maxRecDepth 100000 in
theorem proof_open (h : DataW.trod enc Tryz.prog w 0 sp held fuel 29 cs = some x) (hw : Wt 29 x.1) : ∃ (p : Pf.Pr) (pv : Value), cs = prCells p pv ∧ HasStrsC w pv p.path ∧ PrIn p := by
  obtain ⟨xs, n, _, hx, hlen, hxl, hf⟩ := DataW.trod_struct Tryz.underlying29 h
  have hC : Tryz.prog.cellsOf 29 = 10 := by kernel_rfl
  have h3 : Tryz.prog.cellsOf 3 = 1 := by kernel_rfl
  have h26 : Tryz.prog.cellsOf 26 = 7 := by kernel_rfl
  have h27 : Tryz.prog.cellsOf 27 = 1 := by kernel_rfl
  rw [hC] at hlen
  match cs, hlen, xs, hxl with
  | [c0, c1, c2, c3, c4, c5, c6, c7, c8, c9], _, [y0, y1, y2, y3], _ =>
    have g0 : DataW.trod enc Tryz.prog w 0 sp held n 3 [c0] = some y0 := by simpa [h3] using hf 0 _ rfl
    have g1 : DataW.trod enc Tryz.prog w 0 sp held n 3 [c1] = some y1 := by simpa [h3] using hf 1 _ rfl
    have g2 : DataW.trod enc Tryz.prog w 0 sp held n 26 [c2, c3, c4, c5, c6, c7, c8] = some y2 := by simpa [h26] using hf 2 _ rfl
    have g3 : DataW.trod enc Tryz.prog w 0 sp held n 27 [c9] = some y3 := by simpa [h27] using hf 3 _ rfl
    rw [hx] at hw
    have w2 : Wt 26 y2.1 := wt_struct hw Tryz.underlying29 (j := 2) rfl rfl
    have w3 : Wt 27 y3.1 := wt_struct hw Tryz.underlying29 (j := 3) rfl rfl
    obtain ⟨a0, e0, z0, i0⟩ := DataW.trod_int Tryz.underlying3 g0
    obtain ⟨a1, e1, z1, i1⟩ := DataW.trod_int Tryz.underlying3 g1
    obtain ⟨it, e2, i2, i3⟩ := item_open g2
    have hsl : ∃ a len cap, c9 = .slice a len cap := by
      rcases open_slice Tryz.underlying27 g3 with ⟨hcs, _⟩ | ⟨x, l, c, m, n, D, Pl, hcs, _⟩
      · simp at hcs; exact ⟨_, _, _, hcs⟩
      · simp at hcs; exact ⟨_, _, _, hcs⟩
    have hcell : c9.cells = #[c9] := by obtain ⟨a, l, c, rfl⟩ := hsl; rfl
    obtain ⟨ss, p1, p2⟩ := path_open (v := c9) ⟨n, by rw [hcell]; exact g3⟩ hsl w3
    cases e0; cases e1
    simp only [itCells, List.cons.injEq, and_true] at e2
    obtain ⟨rfl, rfl, rfl, rfl, rfl, rfl, rfl⟩ := e2
    exact ⟨⟨a0, a1, it, ss⟩, c9, rfl, p1, (i64_wf i0).1, (i64_wf i0).2, (i64_wf i1).1, (i64_wf i1).2, i2, i3 w2, p2⟩
end
end Go.Proofs.YteoclpjbeadkpaaGreatDoor
