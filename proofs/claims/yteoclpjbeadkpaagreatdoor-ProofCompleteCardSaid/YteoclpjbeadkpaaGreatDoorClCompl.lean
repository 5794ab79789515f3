/- THE STATEMENT ProofComplete: for every input within the form's reach, the five listed tables of Go's library holding what their initialisers lay, the call returns true and leaves the arguments as they were. -/
import Derived.Test.YteoclpjbeadkpaaGreatDoorMpH
import Derived.Test.YteoclpjbeadkpaaGreatDoorMpA
set_option linter.unusedSimpArgs false
set_option linter.unusedVariables false
/- A code among a law's arguments, opened. -/
namespace Go.Proofs.YteoclpjbeadkpaaGreatDoor
open Go.ChangeShapes Go.WideShapes Go.ChangeAt Go.RowKit Go.Deep
open Go.ChangeMaps (open_string)

section
variable {H : Type} {enc : TypeId × Value → H} {w : World} {base : Nat} {sp : Nat → Bool} {held : Bool} {fuel : Nat} {cs : List Value} {x : DataW H × List MemPlace}

set_option maxRecDepth 100000 in
theorem code_open (h : DataW.trod enc Tryz.prog w 0 sp held fuel 24 cs = some x) (hw : Wt 24 x.1) : ∃ (l : List Co.It) (v : Value), cs = [v] ∧ HasIts w v l ∧ l.length ≤ 140737488355328 ∧ (∃ a c, v = .slice a l.length c ∧ l.length ≤ c) ∧ ∀ t ∈ l, ItIn t ∧ ItSz t := by
  obtain ⟨xs, n, _, hx, hlen, hxl, hf⟩ := DataW.trod_struct Tryz.underlying24 h
  have hC : Tryz.prog.cellsOf 24 = 1 := by kernel_rfl
  have h22 : Tryz.prog.cellsOf 22 = 1 := by kernel_rfl
  rw [hC] at hlen
  match cs, hlen, xs, hxl with
  | [c0], _, [y0], _ =>
    have g0 : DataW.trod enc Tryz.prog w 0 sp held n 22 [c0] = some y0 := by simpa [h22] using hf 0 _ rfl
    rw [hx] at hw
    have w0 : Wt 22 y0.1 := wt_struct hw Tryz.underlying24 (j := 0) rfl rfl
    have hsl : ∃ a len cap, c0 = .slice a len cap := by
      rcases open_slice Tryz.underlying22 g0 with ⟨hcs, _⟩ | ⟨x, l, c, m, n, D, Pl, hcs, _⟩
      · simp at hcs; exact ⟨_, _, _, hcs⟩
      · simp at hcs; exact ⟨_, _, _, hcs⟩
    obtain ⟨a, len, cap, rfl⟩ := hsl
    obtain ⟨l, h1, h2, h3⟩ := its_open (a := a) (len := len) (cap := cap) ⟨n, g0⟩ w0
    obtain ⟨a2, c2, e⟩ := h1.shape
    simp only [Value.slice.injEq] at e
    obtain ⟨rfl, rfl, rfl⟩ := e
    refine ⟨l, _, rfl, h1, h2, ⟨a, cap, rfl, ?_⟩, h3⟩
    rcases open_slice Tryz.underlying22 g0 with ⟨hcs, _⟩ | ⟨x, l', c, m, n, D, Pl, hcs, _, hl, _⟩
    · simp at hcs
      simp [hcs]
    · simp at hcs
      omega
end
end Go.Proofs.YteoclpjbeadkpaaGreatDoor
/- WALK: pandectref44.Few (a proof of a moderate size). -/
namespace Go.Proofs.YteoclpjbeadkpaaGreatDoor.Pf
def fewL (p : Pr) : Bool := decide (p.item.id.length + p.item.parent.length + p.item.number.length ≤ 600) && decide (p.item.north.length ≤ 600) && decide (p.item.south.length ≤ 600) && decide (p.path.length ≤ 30) && p.path.all fun t => decide (t.length ≤ 100)
theorem few_iff (p : Pr) : fewL p = true ↔ p.item.id.length + p.item.parent.length + p.item.number.length ≤ 600 ∧ p.item.north.length ≤ 600 ∧ p.item.south.length ≤ 600 ∧ p.path.length ≤ 30 ∧ ∀ t ∈ p.path, t.length ≤ 100 := by
  unfold fewL
  simp only [Bool.and_eq_true, decide_eq_true_eq, List.all_eq_true, and_assoc]
theorem few_false (p : Pr) (h : ¬ (p.item.id.length + p.item.parent.length + p.item.number.length ≤ 600 ∧ p.item.north.length ≤ 600 ∧ p.item.south.length ≤ 600 ∧ p.path.length ≤ 30 ∧ ∀ t ∈ p.path, t.length ≤ 100)) : fewL p = false := by
  cases e : fewL p with
  | false => rfl
  | true => exact absurd ((few_iff p).1 e) h
end Go.Proofs.YteoclpjbeadkpaaGreatDoor.Pf
namespace Go.Proofs.YteoclpjbeadkpaaGreatDoor
open Go.RowKit Go.Shelf Go.Maps

def ItMax (x : Co.It) : Prop := x.id.length ≤ 140737488355328 ∧ x.parent.length ≤ 140737488355328 ∧ x.number.length ≤ 140737488355328 ∧ x.north.length ≤ 140737488355328 ∧ x.south.length ≤ 140737488355328

set_option maxHeartbeats 2000000 in
set_option maxRecDepth 100000 in
theorem few44_any (p : Pf.Pr) (pv : Value) (w : World) (hv : HasStrsC w pv p.path) (hit : ItMax p.item) (hpl : ∀ t ∈ p.path, t.length ≤ 9223372036854775807) (b : Bool) (hb : Hid (Pf.fewL p = b)) :
    Calls Tryz.prog 12 #[prV p pv] w fun e w' => e = .returned (.bool b) ∧ Below w.heap.size w w' := by
  obtain ⟨hvs, pa, pc, rfl, hpc, hpm⟩ := hv
  obtain ⟨count, index, ⟨kind, id, parent, number, north, south, gone⟩, path⟩ := p
  obtain ⟨z1, z2, z3, z4, z5⟩ := hit
  simp only at z1 z2 z3 z4 z5 hvs hpc hpm hpl
  simp only [prV]
  by_cases g0 : id.length + parent.length + number.length ≤ 600
  · skip
    have g0p : (id.length : Int) + (parent.length : Int) + (number.length : Int) ≤ 600 := by omega
    by_cases g1 : north.length ≤ 600
    · skip
      have g1p : (north.length : Int) ≤ 600 := by omega
      by_cases g2 : south.length ≤ 600
      · skip
        have g2p : (south.length : Int) ≤ 600 := by omega
        by_cases g3 : path.length ≤ 30
        · skip
          have g3p : (path.length : Int) ≤ 30 := by omega
          rcases hvs with ⟨rfl, a, c, he⟩ | ⟨h0, bb, off, c, he, hlt, hc⟩
          · cases he
            have hf : Hid (b = true) := by unfold Hid; rw [← hb.out]; exact (Pf.few_iff _).2 ⟨g0, g1, g2, g3, by simp⟩
            clear hb
            go_enter Tryz.func12, Tryz.ntmps12
            go_wp2_with fail
            refine wp_loop_rounds 1 ?_
            rw [rounds_succ]
            go_wp2_with fail
            go_ret
            exact ⟨by rw [hf.out]; rfl, ((Below.refl _ w).alloc (Nat.le_refl _) _).alloc (by simp) _⟩
          · cases he
            have hcb : ∀ W, Below w.heap.size w W → ∀ j, j < path.length → W.cell? ⟨bb, off + j, none⟩ = some (.string ⟨(path.getD j []).toArray⟩) := fun W hW j hj => (hW.cell (p := ⟨bb, off + j, none⟩) hlt).trans (hc j hj)
            have HC := Lib.hid hcb
            clear hcb hc
            go_enter Tryz.func12, Tryz.ntmps12
            go_wp2_with fail
            have hbel : Below w.heap.size w ((w.alloc (.cells #[.int .i64 count, .int .i64 index, .int .i64 kind, .string ⟨id.toArray⟩, .string ⟨parent.toArray⟩, .string ⟨number.toArray⟩, .string ⟨north.toArray⟩, .string ⟨south.toArray⟩, .bool gone, .slice (some ⟨bb, off, none⟩) path.length pc] 29)).alloc (.cells #[.int .i64 kind, .string ⟨id.toArray⟩, .string ⟨parent.toArray⟩, .string ⟨number.toArray⟩, .string ⟨north.toArray⟩, .string ⟨south.toArray⟩, .bool gone] 26)) := ((Below.refl _ w).alloc (Nat.le_refl _) _).alloc (by simp) _
            have hb9 : ((w.alloc (.cells #[.int .i64 count, .int .i64 index, .int .i64 kind, .string ⟨id.toArray⟩, .string ⟨parent.toArray⟩, .string ⟨number.toArray⟩, .string ⟨north.toArray⟩, .string ⟨south.toArray⟩, .bool gone, .slice (some ⟨bb, off, none⟩) path.length pc] 29)).alloc (.cells #[.int .i64 kind, .string ⟨id.toArray⟩, .string ⟨parent.toArray⟩, .string ⟨number.toArray⟩, .string ⟨north.toArray⟩, .string ⟨south.toArray⟩, .bool gone] 26)).cell? ⟨w.heap.size, 9, none⟩ = some (.slice (some ⟨bb, off, none⟩) path.length pc) := cell_of_heap ((heap_alloc_lt _ _ _ (by simp)).trans (heap_alloc_at w _))
            generalize ((w.alloc (.cells #[.int .i64 count, .int .i64 index, .int .i64 kind, .string ⟨id.toArray⟩, .string ⟨parent.toArray⟩, .string ⟨number.toArray⟩, .string ⟨north.toArray⟩, .string ⟨south.toArray⟩, .bool gone, .slice (some ⟨bb, off, none⟩) path.length pc] 29)).alloc (.cells #[.int .i64 kind, .string ⟨id.toArray⟩, .string ⟨parent.toArray⟩, .string ⟨number.toArray⟩, .string ⟨north.toArray⟩, .string ⟨south.toArray⟩, .bool gone] 26)) = W at hbel hb9 ⊢
            have HB := Lib.hid hbel
            clear hbel
            go_loopw [4] (fun i wr => ∃ k : Nat, k ≤ path.length ∧ i = .int .i64 (k : Int) ∧ Hid ((path.take k).all (fun t => decide (t.length ≤ 100)) = true) ∧ W = wr) (fun i _ => path.length - (intOf i).toNat)
            case atStart => exact ⟨0, by omega, rfl, by simp [Hid], rfl⟩
            case round =>
              obtain ⟨k, hk, rfl, HA, rfl⟩ := hrel
              by_cases hkl : k < path.length
              · skip
                have f0 := HC.out _ HB.out k hkl
                have hpk : (path.getD k []).length ≤ 9223372036854775807 := by rw [List.getD_eq_getElem?_getD, List.getElem?_eq_getElem hkl]; exact hpl _ (List.getElem_mem hkl)
                have HS : Hid ((path.take (k + 1)).all (fun t => decide (t.length ≤ 100)) = decide ((path.getD k []).length ≤ 100)) := by
                  unfold Hid
                  rw [List.take_succ_eq_append_getElem hkl, List.all_append, HA.out, List.getD_eq_getElem?_getD, List.getElem?_eq_getElem hkl]; simp
                have HM : Hid (path.getD k [] ∈ path) := by unfold Hid; rw [List.getD_eq_getElem?_getD, List.getElem?_eq_getElem hkl]; exact List.getElem_mem hkl
                generalize path.getD k [] = s at f0 hpk HS HM
                by_cases hs : s.length ≤ 100
                · skip
                  have hsi : (s.length : Int) ≤ 100 := by omega
                  go_wp2_with fail
                  go_roundw
                  case rel => exact ⟨k + 1, by omega, by go_num, by unfold Hid; rw [HS.out]; simpa using hs, trivial⟩
                  case measure => simp [intOf]; omega
                · skip
                  have hsi : 100 < (s.length : Int) := by omega
                  have hf : Hid (b = false) := by unfold Hid; rw [← hb.out]; exact Pf.few_false _ (fun h => hs (h.2.2.2.2 s HM.out))
                  clear hb
                  go_wp2_with fail
                  go_ret
                  exact ⟨by rw [hf.out]; rfl, HB.out⟩
              · skip
                obtain rfl : k = path.length := by omega
                have hf : Hid (b = true) := by
                  unfold Hid; rw [← hb.out]; refine (Pf.few_iff _).2 ⟨g0, g1, g2, g3, fun t hm => ?_⟩
                  have h1 := HA.out
                  rw [List.take_length, List.all_eq_true] at h1
                  simpa using h1 t hm
                clear hb
                go_wp2_with fail
                go_ret
                exact ⟨by rw [hf.out]; rfl, HB.out⟩
        · skip
          have hf : Hid (b = false) := by unfold Hid; rw [← hb.out]; exact Pf.few_false _ (fun h => g3 (h.2.2.2.1))
          clear hb
          have g3n : 30 < (path.length : Int) := by omega
          go_enter Tryz.func12, Tryz.ntmps12
          go_wp2_with fail
          go_ret
          exact ⟨by rw [hf.out]; rfl, ((Below.refl _ w).alloc (Nat.le_refl _) _).alloc (by simp) _⟩
      · skip
        have hf : Hid (b = false) := by unfold Hid; rw [← hb.out]; exact Pf.few_false _ (fun h => g2 (h.2.2.1))
        clear hb
        have g2n : 600 < (south.length : Int) := by omega
        go_enter Tryz.func12, Tryz.ntmps12
        go_wp2_with fail
        go_ret
        exact ⟨by rw [hf.out]; rfl, ((Below.refl _ w).alloc (Nat.le_refl _) _).alloc (by simp) _⟩
    · skip
      have hf : Hid (b = false) := by unfold Hid; rw [← hb.out]; exact Pf.few_false _ (fun h => g1 (h.2.1))
      clear hb
      have g1n : 600 < (north.length : Int) := by omega
      go_enter Tryz.func12, Tryz.ntmps12
      go_wp2_with fail
      go_ret
      exact ⟨by rw [hf.out]; rfl, ((Below.refl _ w).alloc (Nat.le_refl _) _).alloc (by simp) _⟩
  · skip
    have hf : Hid (b = false) := by unfold Hid; rw [← hb.out]; exact Pf.few_false _ (fun h => g0 (h.1))
    clear hb
    have g0n : 600 < (id.length : Int) + (parent.length : Int) + (number.length : Int) := by omega
    go_enter Tryz.func12, Tryz.ntmps12
    go_wp2_with fail
    go_ret
    exact ⟨by rw [hf.out]; rfl, ((Below.refl _ w).alloc (Nat.le_refl _) _).alloc (by simp) _⟩
end Go.Proofs.YteoclpjbeadkpaaGreatDoor
/- WALK: pandectref18.Few, small (the laws of layer 44). -/
namespace Go.Proofs.YteoclpjbeadkpaaGreatDoor.Co
def itFew (x : It) : Bool := decide (x.id.length ≤ 500) && decide (x.parent.length ≤ 500) && decide (x.number.length ≤ 500) && decide (x.north.length ≤ 500) && decide (x.south.length ≤ 500)
def fewC (l : List It) (n : Nat) : Bool := decide (l.length ≤ n) && (l.take n).all itFew
theorem fewC_len {l : List It} {n : Nat} (h : fewC l n = true) : l.length ≤ n := by
  unfold fewC at h
  rw [Bool.and_eq_true, decide_eq_true_eq] at h
  exact h.1
theorem fewC_all {l : List It} {n : Nat} (h : fewC l n = true) : ∀ x ∈ l, x.id.length ≤ 500 ∧ x.parent.length ≤ 500 ∧ x.number.length ≤ 500 ∧ x.north.length ≤ 500 ∧ x.south.length ≤ 500 := by
  have hl := fewC_len h
  unfold fewC at h
  rw [Bool.and_eq_true, List.take_of_length_le hl, List.all_eq_true] at h
  intro x hx
  have := h.2 x hx
  unfold itFew at this
  simpa [and_assoc] using this
end Go.Proofs.YteoclpjbeadkpaaGreatDoor.Co
namespace Go.Proofs.YteoclpjbeadkpaaGreatDoor
open Go.RowKit Go.Shelf Go.Maps

theorem HasIts.at {w : World} {a : Option Addr} {n c : Nat} {l : List Co.It} (h : HasIts w (.slice a n c) l) {k : Nat} (hk : k < l.length) : ∃ vb off, a = some ⟨vb, off, none⟩ ∧ vb < w.heap.size ∧ ItAt w vb (off + k * 7) l[k] := by
  rcases h with ⟨rfl, _⟩ | ⟨_, b, off, c, e, hlt, hc⟩
  · simp at hk
  · cases e; exact ⟨b, off, rfl, hlt, hc k hk⟩

set_option maxHeartbeats 4000000 in
set_option maxRecDepth 100000 in
theorem few18_any (l : List Co.It) (n : Nat) (v : Value) (w : World) (hv : HasIts w v l) (hl : l.length ≤ 140737488355328) (hn : n ≤ 1000) (hr : ∀ x ∈ l, ItMax x) (b : Bool) (hb : Hid (Co.fewC l n = b)) :
    Calls Tryz.prog 41 #[.agg #[v], .int .i64 (n : Int)] w fun e w' => e = .returned (.bool b) ∧ Below w.heap.size w w' := by
  obtain ⟨va, vc, rfl⟩ := hv.shape
  have Hv := Lib.hid hv
  have Hr := Lib.hid hr
  clear hv hr
  go_enter Tryz.func41, Tryz.ntmps41
  have bel := Below.refl w.heap.size w
  have Hbel := Lib.hid bel
  clear bel
  go_wp2_with fail
  have bel := Hbel.out
  clear Hbel
  obtain ⟨w1, hw⟩ : ∃ z, w.alloc (.cells #[.slice va l.length vc] 24) = z := ⟨_, rfl⟩
  have c : Below w.heap.size w w1 := by rw [← hw]; exact (Below.refl _ _).alloc (Nat.le_refl _) _
  have mc : w1.heap[w.heap.size]? = some (.cells #[.slice va l.length vc] 24 (0, 0)) := by rw [← hw]; exact heap_alloc_at _ _
  rw [hw]
  clear hw
  replace bel := below_next bel c
  clear c
  go_loopw [5] (fun i wr => ∃ k : Nat, k ≤ l.length ∧ k ≤ n ∧ i = .int .i64 (k : Int) ∧ Hid ((l.take k).all Co.itFew = true) ∧ Hid (Below w.heap.size w wr) ∧ Hid (wr.heap[w.heap.size]? = some (.cells #[.slice va l.length vc] 24 (0, 0)))) (fun i _ => n - (intOf i).toNat)
  case atStart => exact ⟨0, by omega, by omega, rfl, by simp [Hid], bel, mc⟩
  case round =>
    clear bel mc
    obtain ⟨k, hk, hkn, rfl, HA, Hbel, Hmc⟩ := hrel
    have qc := cell_of_heap (i := 0) Hmc.out
    have hkz : (0 : Int) ≤ (k : Int) := by omega
    have hlm : (l.length : Int) ≤ 140737488355328 := by omega
    by_cases hkl : k < l.length
    · skip
      by_cases hk2 : k < n
      · skip
        obtain ⟨vb, off, rfl, hvb, hit⟩ := Hv.out.at hkl
        have hrr := Hr.out _ (List.getElem_mem hkl)
        replace hit := hit.below Hbel.out hvb
        have HS : Hid ((l.take (k + 1)).all Co.itFew = Co.itFew l[k]) := by
          unfold Hid
          rw [List.take_succ_eq_append_getElem hkl, List.all_append, HA.out]; simp
        have HM : Hid (Co.itFew l[k] = false → b = false) := by
          intro h
          rw [← hb.out]; unfold Co.fewC
          have : (l.take n).all Co.itFew = false := List.all_eq_false.2 ⟨l[k], List.mem_take_iff_getElem.2 ⟨k, by omega, rfl⟩, by rw [h]; decide⟩
          rw [this]; simp
        generalize l[k] = x at hit HS HM hrr
        obtain ⟨kind, id, parent, number, north, south, gone⟩ := x
        obtain ⟨f0, f1, f2, f3, f4, f5, f6⟩ := hit
        obtain ⟨z1, z2, z3, z4, z5⟩ := hrr
        simp only at f0 f1 f2 f3 f4 f5 f6 z1 z2 z3 z4 z5
        have Hb2 : Hid (Below w.heap.size w (wr.alloc (.cells #[.int .i64 kind, .string ⟨id.toArray⟩, .string ⟨parent.toArray⟩, .string ⟨number.toArray⟩, .string ⟨north.toArray⟩, .string ⟨south.toArray⟩, .bool gone] 26)) ∧ (wr.alloc (.cells #[.int .i64 kind, .string ⟨id.toArray⟩, .string ⟨parent.toArray⟩, .string ⟨number.toArray⟩, .string ⟨north.toArray⟩, .string ⟨south.toArray⟩, .bool gone] 26)).heap[w.heap.size]? = some (.cells #[.slice (some ⟨vb, off, none⟩) l.length vc] 24 (0, 0))) := ⟨Hbel.out.alloc Hbel.out.size _, (heap_alloc_lt wr _ _ (Array.getElem?_eq_some_iff.1 Hmc.out).1).trans Hmc.out⟩
        by_cases g0 : id.length ≤ 500
        · skip
          have g0p : (id.length : Int) ≤ 500 := by omega
          by_cases g1 : parent.length ≤ 500
          · skip
            have g1p : (parent.length : Int) ≤ 500 := by omega
            by_cases g2 : number.length ≤ 500
            · skip
              have g2p : (number.length : Int) ≤ 500 := by omega
              by_cases g3 : north.length ≤ 500
              · skip
                have g3p : (north.length : Int) ≤ 500 := by omega
                by_cases g4 : south.length ≤ 500
                · skip
                  have g4p : (south.length : Int) ≤ 500 := by omega
                  go_wp2_with fail
                  go_roundw
                  case rel => exact ⟨k + 1, by omega, by omega, by go_num, by unfold Hid; rw [HS.out]; simp [Co.itFew, g0, g1, g2, g3, g4], Hb2.out.1, Hb2.out.2⟩
                  case measure => simp [intOf]; omega
                · skip
                  have g4n : 500 < (south.length : Int) := by omega
                  have hf : Hid (b = false) := HM.out (by simp [Co.itFew, g4])
                  clear hb
                  go_wp2_with fail
                  go_ret
                  exact ⟨by rw [hf.out]; rfl, Hb2.out.1⟩
              · skip
                have g3n : 500 < (north.length : Int) := by omega
                have hf : Hid (b = false) := HM.out (by simp [Co.itFew, g3])
                clear hb
                go_wp2_with fail
                go_ret
                exact ⟨by rw [hf.out]; rfl, Hb2.out.1⟩
            · skip
              have g2n : 500 < (number.length : Int) := by omega
              have hf : Hid (b = false) := HM.out (by simp [Co.itFew, g2])
              clear hb
              go_wp2_with fail
              go_ret
              exact ⟨by rw [hf.out]; rfl, Hb2.out.1⟩
          · skip
            have g1n : 500 < (parent.length : Int) := by omega
            have hf : Hid (b = false) := HM.out (by simp [Co.itFew, g1])
            clear hb
            go_wp2_with fail
            go_ret
            exact ⟨by rw [hf.out]; rfl, Hb2.out.1⟩
        · skip
          have g0n : 500 < (id.length : Int) := by omega
          have hf : Hid (b = false) := HM.out (by simp [Co.itFew, g0])
          clear hb
          go_wp2_with fail
          go_ret
          exact ⟨by rw [hf.out]; rfl, Hb2.out.1⟩
      · skip
        obtain rfl : k = n := by omega
        have hf : Hid (b = false) := by unfold Hid; rw [← hb.out]; unfold Co.fewC; rw [decide_eq_false (by omega)]; rfl
        clear hb
        have hdec : decide (l.length ≤ k) = false := decide_eq_false (by omega)
        have hki : (k : Int) < (l.length : Int) := by omega
        go_wp2_with fail
        go_ret
        exact ⟨by rw [hf.out]; rfl, Hbel.out⟩
    · skip
      obtain rfl : k = l.length := by omega
      have hf : Hid (b = true) := by
        unfold Hid; rw [← hb.out]; unfold Co.fewC
        have h1 := HA.out
        rw [List.take_length] at h1
        rw [decide_eq_true hkn, List.take_of_length_le hkn, h1]; rfl
      clear hb
      have hdec : decide (l.length ≤ n) = true := decide_eq_true hkn
      have hki : (l.length : Int) ≤ (n : Int) := by omega
      go_wp2_with fail
      go_ret
      exact ⟨by rw [hf.out]; rfl, Hbel.out⟩

set_option maxRecDepth 100000 in
theorem small_any (l : List Co.It) (v : Value) (w : World) (hv : HasIts w v l) (hl : l.length ≤ 140737488355328) (hr : ∀ x ∈ l, ItMax x) (b : Bool) (hb : Hid (Co.fewC l 20 = b)) :
    Calls Tryz.prog 11 #[.agg #[v]] w fun e w' => e = .returned (.bool b) ∧ Below w.heap.size w w' := by
  obtain ⟨va, vc, rfl⟩ := hv.shape
  have C := Lib.hid (few18_any l 20 _ (w.alloc (.cells #[.slice va l.length vc] 24)) (hv.below ((Below.refl _ w).alloc (Nat.le_refl _) _) (Nat.le_refl _)) hl (by decide) hr b hb)
  have B1 : Hid (Below w.heap.size w (w.alloc (.cells #[.slice va l.length vc] 24))) := (Below.refl _ w).alloc (Nat.le_refl _) _
  clear hv hr
  go_enter Tryz.func11, Tryz.ntmps11
  go_wp2_with fail
  refine C.out.mono ?_
  rintro e w1 ⟨rfl, c⟩
  have B2 := Lib.hid (below_next B1.out c)
  clear c
  go_wp2_with fail
  go_ret
  exact ⟨rfl, B2.out⟩
end Go.Proofs.YteoclpjbeadkpaaGreatDoor
/- WALK: ProofComplete. -/
namespace Go.Proofs.YteoclpjbeadkpaaGreatDoor
open Go.RowKit Go.Shelf Go.Maps

theorem codeOk2_few {l : List Co.It} (h : Co.fewC l 20 = true) : CodeOk2 l := by
  have hl := Co.fewC_len h
  have ha := Co.fewC_all h
  refine ⟨⟨fun x hx => ?_, by omega⟩, fun x hx => ?_⟩
  · obtain ⟨h1, h2, h3, h4, h5⟩ := ha x hx
    exact ⟨⟨by omega, by omega⟩, by unfold maxLen; omega⟩
  · obtain ⟨h1, h2, h3, h4, h5⟩ := ha x hx
    exact ⟨by omega, by omega, by omega, by omega⟩
theorem leavesL_le (l : List Co.It) : (Co.leavesL l).length ≤ l.length := by
  unfold Co.leavesL
  split
  · rw [List.length_map]; exact List.length_filter_le _ _
  · exact Nat.zero_le _
theorem leavesL_len {l : List Co.It} (h : l.length ≤ 20) : (Co.leavesL l).length ≤ 140737488355328 := Nat.le_trans (leavesL_le l) (by omega)
theorem leavesL_mod {l : List Co.It} (h : CodeOk2 l) : Mod (Co.leavesL l) := by
  intro t ht
  unfold Co.leavesL at ht
  split at ht
  · obtain ⟨y, hy, rfl⟩ := List.mem_map.mp ht
    exact Nat.le_trans (leaf_small2 y (h.2 y (List.mem_filter.mp hy).1)) (by decide)
  · cases ht
theorem leavesL_liveN {l : List Co.It} (h : Co.validL l = true) : (Co.leavesL l).length = Pf.liveN l l.length := by
  unfold Co.leavesL Pf.liveN
  rw [if_pos h, List.length_map, List.take_length]
/-- What was seen is in no item that comes. -/
theorem walk_seen : ∀ (l : List Co.It) (seen o : List (List UInt8)), Co.walkF seen o l = true → (∀ x ∈ l, x.id ∉ seen) ∧ (l.map (·.id)).Nodup
  | [], _, _, _ => ⟨fun x hx => (by cases hx), List.nodup_nil⟩
  | x :: r, seen, o, h => by
    unfold Co.walkF at h
    simp only [Bool.and_eq_true] at h
    obtain ⟨⟨h1, h2⟩, h3⟩ := h
    cases hp : Co.placeL o x.parent with
    | none => rw [hp] at h3; cases h3
    | some k =>
      rw [hp] at h3
      obtain ⟨a, b⟩ := walk_seen r _ _ h3
      have hx : x.id ∉ seen := by simpa using h2
      refine ⟨fun y hy => ?_, ?_⟩
      · rcases List.mem_cons.1 hy with rfl | hy
        · exact hx
        · exact fun hm => a y hy (List.mem_append_left _ hm)
      · rw [List.map_cons, List.nodup_cons]
        refine ⟨fun hm => ?_, b⟩
        obtain ⟨y, hy, e⟩ := List.mem_map.1 hm
        exact a y hy (by rw [e]; simp)
theorem valid_nodup {l : List Co.It} (h : Co.validL l = true) : (l.map (·.id)).Nodup := by
  unfold Co.validL at h
  rw [Bool.and_eq_true] at h
  exact (walk_seen l [] [] h.1).2
theorem find_at {l : List Co.It} (h : (l.map (·.id)).Nodup) {k : Nat} (hk : k < l.length) : l.findIdx (fun x => x.id == (l[k]).id) = k := by
  have h1 : l.findIdx (fun x => x.id == (l[k]).id) ≤ k := by
    refine Nat.le_of_not_lt fun hlt => ?_
    have := List.not_of_lt_findIdx (xs := l) (p := fun x : Co.It => x.id == (l[k]).id) hlt
    simp at this
  have h2 : l.findIdx (fun x => x.id == (l[k]).id) < l.length := by omega
  have h3 := List.findIdx_getElem (w := h2) (p := fun x : Co.It => x.id == (l[k]).id)
  have h4 : (l[l.findIdx (fun x => x.id == (l[k]).id)]).id = (l[k]).id := beq_iff_eq.1 h3
  have h5 := List.pairwise_iff_getElem.1 h
  refine Nat.le_antisymm h1 (Nat.le_of_not_lt fun hlt => ?_)
  have := h5 _ k (by rw [List.length_map]; omega) (by rw [List.length_map]; omega) hlt
  rw [List.getElem_map, List.getElem_map] at this
  exact this h4
/-- What proof.Make answers at an item of a valid code. -/
theorem make_at {l : List Co.It} (_ : CodeOk2 l) (h : Co.validL l = true) {k : Nat} (hk : k < l.length) :
    Pf.makeL l (l[k]).id = if (l[k]).gone = true then (Pf.zeroPr, 16) else (⟨(Co.leavesL l).length, Pf.liveN l k, ⟨(l[k]).kind, (l[k]).id, (l[k]).parent, [], (l[k]).north, (l[k]).south, (l[k]).gone⟩, Tr.pathL (Co.leavesL l) (Pf.liveN l k)⟩, 0) := by
  unfold Pf.makeL
  rw [if_neg (by rw [h]; decide), find_at (valid_nodup h) hk, List.getElem?_eq_getElem hk]
theorem leaves_at {l : List Co.It} (h : Co.validL l = true) {k : Nat} (hk : k < l.length) (hg : (l[k]).gone = false) : Pf.liveN l k < (Co.leavesL l).length ∧ (Co.leavesL l).getD (Pf.liveN l k) [] = Co.leafL l[k] := by
  have hs : l = l.take k ++ l[k] :: l.drop (k + 1) := by rw [List.getElem_cons_drop, List.take_append_drop]
  have e : Co.liveL l = Co.liveL (l.take k) ++ l[k] :: Co.liveL (l.drop (k + 1)) := by
    conv => lhs; rw [hs]
    unfold Co.liveL
    rw [List.filter_append, List.filter_cons, hg]; rfl
  unfold Co.leavesL Pf.liveN
  rw [if_pos h, e]
  constructor
  · rw [List.length_map, List.length_append, List.length_cons]; omega
  · rw [List.map_append, List.getD_eq_getElem?_getD, List.getElem?_append_right (by rw [List.length_map]; exact Nat.le_refl _), List.length_map, Nat.sub_self]; rfl
theorem proper_kind2 {x : Co.It} (h : Co.properL x = true) : x.kind = 1 ∨ x.kind = 2 := by
  unfold Co.properL at h
  by_cases h1 : x.kind = 1
  · exact .inl h1
  · by_cases h2 : x.kind = 2
    · exact .inr h2
    · rw [if_neg h1, if_neg h2] at h; cases h
theorem walk_proper : ∀ (l : List Co.It) (seen o : List (List UInt8)), Co.walkF seen o l = true → ∀ x ∈ l, Co.properL x = true
  | [], _, _, _, x, hx => by cases hx
  | y :: r, seen, o, h, x, hx => by
    unfold Co.walkF at h
    simp only [Bool.and_eq_true] at h
    obtain ⟨⟨h1, h2⟩, h3⟩ := h
    rcases List.mem_cons.1 hx with rfl | hx
    · exact h1
    · cases hp : Co.placeL o y.parent with
      | none => rw [hp] at h3; cases h3
      | some k => rw [hp] at h3; exact walk_proper r _ _ h3 x hx
theorem valid_kind {l : List Co.It} (h : Co.validL l = true) : ∀ x ∈ l, x.kind = 1 ∨ x.kind = 2 := by
  unfold Co.validL at h
  rw [Bool.and_eq_true] at h
  exact fun x hx => proper_kind2 (walk_proper l [] [] h.1 x hx)
theorem check_at {l : List Co.It} (ho : CodeOk2 l) (h : Co.validL l = true) {k : Nat} (hk : k < l.length) : (l[k]).gone = false →
    Pf.checkL (Tr.rootL (Co.leavesL l)) ⟨(Co.leavesL l).length, Pf.liveN l k, ⟨(l[k]).kind, (l[k]).id, (l[k]).parent, [], (l[k]).north, (l[k]).south, (l[k]).gone⟩, Tr.pathL (Co.leavesL l) (Pf.liveN l k)⟩ = true := by
  intro hg
  obtain ⟨h1, h2⟩ := leaves_at h hk hg
  have hkd := valid_kind h _ (List.getElem_mem hk)
  have hle : (Co.leavesL l).length ≤ 1000000 := Nat.le_trans (leavesL_le l) (Nat.le_trans ho.1.2 (by decide))
  have h3 := Tr.check_path (Co.leavesL l) (Pf.liveN l k) hle h1
  rw [h2] at h3
  unfold Pf.checkL
  have h4 : Co.leafL ⟨(l[k]).kind, (l[k]).id, (l[k]).parent, [], (l[k]).north, (l[k]).south, (l[k]).gone⟩ = Co.leafL l[k] := rfl
  rw [h4, h3, hg]
  rcases hkd with e | e <;> rw [e] <;> rfl
theorem prOk_at {l : List Co.It} {x : Co.It} {n : Nat} {path : List (List UInt8)} (h : TxtOk x) (hl : (Co.leavesL l).length ≤ 20) (hn : n ≤ 20) (hp : Tr.pathL (Co.leavesL l) n = path) {number : List UInt8} {gone : Bool} :
    PrOk ⟨(Co.leavesL l).length, n, ⟨x.kind, x.id, x.parent, number, x.north, x.south, gone⟩, path⟩ := by
  refine ⟨⟨h.1, h.2.1, h.2.2.1, h.2.2.2⟩, fun s hs => ?_, ?_, ?_, ?_, ?_, ?_⟩
  · rw [← hp] at hs
    have h1 := Tr.pathL_isL _ (Co.leavesL l) n rfl s hs
    rw [isL_len h1]; decide
  · show path.length ≤ _
    rw [← hp]; exact Nat.le_trans (Pf.pathL_le _ _ _ rfl) (by omega)
  all_goals (try simp only); omega
theorem set7_3 {w : World} {b : Nat} {a0 a1 a2 a3 a4 a5 a6 v : Value} {t : TypeId} (h : w.heap[b]? = some (.cells #[a0, a1, a2, a3, a4, a5, a6] t (0, 0))) : (w.setCell ⟨b, 3, none⟩ v).heap[b]? = some (.cells #[a0, a1, a2, v, a4, a5, a6] t (0, 0)) := by
  simp [World.setCell, Array.getElem?_modify, h]
/-- A list of texts keeps at a write to the cell of a text that it does not hold. -/
theorem HasStrsC.setStr {w : World} {v : Value} {ss : List (List UInt8)} (h : HasStrsC w v ss) {p : Addr} {s : List UInt8} {u : Value} (hc : w.cell? p = some (.string ⟨s.toArray⟩)) (hne : ∀ t ∈ ss, t ≠ s) : HasStrsC (w.setCell p u) v ss := by
  refine ⟨?_, h.2⟩
  rcases h.1 with h | ⟨h0, b, off, c, e, hlt, hcell⟩
  · exact Or.inl h
  · refine Or.inr ⟨h0, b, off, c, e, by simpa using hlt, fun j hj => ?_⟩
    have h1 := hcell j hj
    rw [World.cell?_setCell_other]
    · exact h1
    · intro ep
      rw [ep, h1] at hc
      simp only [Option.some.injEq, Value.string.injEq, ByteArray.mk.injEq] at hc
      have e2 : ss.getD j [] = s := by simpa using congrArg Array.toList hc
      rw [List.getD_eq_getElem?_getD, List.getElem?_eq_getElem hj] at e2
      exact hne _ (List.getElem_mem hj) e2
theorem decN_pos (u : Nat) : 1 ≤ (Dg.decN u).length := by
  unfold Dg.decN Dg.decF
  split
  · simp
  · simp
theorem leafL_long (x : Co.It) : 9 ≤ (Co.leafL x).length := by
  have h : ∀ s, 2 ≤ (Dg.item s).length := fun s => by
    unfold Dg.item
    have := decN_pos s.length
    simp only [List.length_append, List.length_cons]; omega
  unfold Co.leafL
  simp only [Dg.joinL, List.length_append]
  have h1 := h (Co.kindL x.kind)
  have h2 := h x.id
  have h3 := h x.parent
  have h4 := h x.north
  have h5 := h x.south
  omega
theorem proper_num {x : Co.It} (h : Co.properL x = true) : x.number.length ≤ 8 := by
  have e : Co.numL x.number = true := by
    unfold Co.properL at h
    split at h
    · simp only [Bool.and_eq_true] at h; exact h.1.1.1.1
    · split at h
      · simp only [Bool.and_eq_true] at h; exact h.1.1.1
      · cases h
  unfold Co.numL at e
  simp only [Bool.and_eq_true, decide_eq_true_eq] at e
  exact e.1
theorem valid_num {l : List Co.It} (h : Co.validL l = true) : ∀ x ∈ l, x.number.length ≤ 8 := by
  unfold Co.validL at h
  rw [Bool.and_eq_true] at h
  exact fun x hx => proper_num (walk_proper l [] [] h.1 x hx)
theorem leaves_ne {l : List Co.It} {s : List UInt8} (hs : s.length ≤ 8) : ∀ t ∈ Co.leavesL l, t ≠ s := by
  rintro t ht rfl
  unfold Co.leavesL at ht
  split at ht
  · obtain ⟨y, hy, e⟩ := List.mem_map.mp ht
    have := leafL_long y
    rw [e] at this; omega
  · cases ht
theorem path_ne {ls : List (List UInt8)} {i : Nat} {path : List (List UInt8)} {s : List UInt8} (hs : s.length ≤ 8) (hp : Tr.pathL ls i = path) : ∀ t ∈ path, t ≠ s := by
  rintro t ht rfl
  rw [← hp] at ht
  have := isL_len (Tr.pathL_isL _ ls i rfl t ht)
  omega
def CmS (w : World) (bc : Nat) (pc : Obj) (u : Value) (ls : List (List UInt8)) (wr : World) : Prop := Below w.heap.size w wr ∧ wr.heap[bc]? = some pc ∧ HasStrsC wr u ls

set_option maxHeartbeats 16000000 in
set_option maxRecDepth 100000 in
theorem completeLaw_any (l : List Co.It) (v : Value) (w : World) (ht : Tab w) (hv : HasIts w v l) (hl : l.length ≤ 140737488355328) (hcap : ∃ a c, v = .slice a l.length c ∧ l.length ≤ c) (hin : ∀ t ∈ l, ItIn t ∧ ItSz t) :
    Calls Tryz.prog 4 #[.agg #[v]] w fun e w' => e = .returned (.bool true) ∧ Below w.heap.size w w' := by
  have hmm := @run_makeMap Tryz.prog
  obtain ⟨sb, hsb⟩ : ∃ sb, Hid (Co.fewC l 20 = sb) := ⟨_, rfl⟩
  obtain ⟨vb, hvb⟩ : ∃ vb, Hid (Co.validL l = vb) := ⟨_, rfl⟩
  have Hmax : Hid (∀ x ∈ l, ItMax x) := fun x hx => (hin x hx).2
  obtain ⟨va, vc, rfl, hcap⟩ := hcap
  have Hv := Lib.hid hv
  clear hv hin
  go_enter Tryz.func4, Tryz.ntmps4
  have bel := Below.refl w.heap.size w
  have Hbel := Lib.hid bel
  clear bel
  go_wp2_with fail
  have bel := Hbel.out
  clear Hbel
  obtain ⟨w1, hw⟩ : ∃ z, w.alloc (.cells #[.slice va l.length vc] 24) = z := ⟨_, rfl⟩
  have c : Below w.heap.size w w1 := by rw [← hw]; exact (Below.refl _ _).alloc (Nat.le_refl _) _
  have mc : w1.heap[w.heap.size]? = some (.cells #[.slice va l.length vc] 24 (0, 0)) := by rw [← hw]; exact heap_alloc_at _ _
  rw [hw]
  clear hw
  replace bel := below_next bel c
  clear c
  obtain ⟨bc, hb⟩ : ∃ b, w.heap.size = b := ⟨_, rfl⟩
  rw [hb] at mc ⊢
  clear hb
  refine (head44_any _ (ht.below bel (Nat.le_refl _))).mono ?_
  rintro e w2 ⟨rfl, c⟩
  replace bel := below_next bel c
  replace mc := (c.block _ (Array.getElem?_eq_some_iff.1 mc).1).trans mc
  clear c
  have q_mc_0 := cell_of_heap (i := 0) mc
  have Hbel := Lib.hid bel
  have Hmc := Lib.hid mc
  clear bel mc
  go_wp2_with fail
  have bel := Hbel.out
  have mc := Hmc.out
  clear Hbel Hmc
  clear q_mc_0
  refine (small_any l _ _ (Hv.out.below bel (Nat.le_refl _)) (by omega) Hmax.out sb hsb).mono ?_
  rintro e w3 ⟨rfl, c⟩
  replace bel := below_next bel c
  replace mc := (c.block _ (Array.getElem?_eq_some_iff.1 mc).1).trans mc
  clear c
  cases sb
  · skip
    have Hbel := Lib.hid bel
    have Hmc := Lib.hid mc
    clear bel mc
    go_wp2_with fail
    have bel := Hbel.out
    have mc := Hmc.out
    clear Hbel Hmc
    go_ret
    exact ⟨rfl, bel⟩
  · skip
    have Hok := Lib.hid (codeOk2_few hsb.out)
    have hl20 : l.length ≤ 20 := Co.fewC_len hsb.out
    have q_mc_0 := cell_of_heap (i := 0) mc
    have Hbel := Lib.hid bel
    have Hmc := Lib.hid mc
    clear bel mc
    go_wp2_with fail
    have bel := Hbel.out
    have mc := Hmc.out
    clear Hbel Hmc
    clear q_mc_0
    refine (valid_any l _ _ (Hv.out.below bel (Nat.le_refl _)) Hok.out.1 vb hvb).mono ?_
    rintro e w4 ⟨rfl, c⟩
    replace bel := below_next bel c
    replace mc := (c.block _ (Array.getElem?_eq_some_iff.1 mc).1).trans mc
    clear c
    cases vb
    · skip
      have Hbel := Lib.hid bel
      have Hmc := Lib.hid mc
      clear bel mc
      go_wp2_with fail
      have bel := Hbel.out
      have mc := Hmc.out
      clear Hbel Hmc
      go_ret
      exact ⟨rfl, bel⟩
    · skip
      have q_mc_0 := cell_of_heap (i := 0) mc
      have Hbel := Lib.hid bel
      have Hmc := Lib.hid mc
      clear bel mc
      go_wp2_with fail
      have bel := Hbel.out
      have mc := Hmc.out
      clear Hbel Hmc
      clear q_mc_0
      refine (leaves_any l _ _ (ht.below bel (Nat.le_refl _)) (Hv.out.below bel (Nat.le_refl _)) Hok.out).mono ?_
      rintro e w5 ⟨u, rfl, hu, c⟩
      replace bel := below_next bel c
      replace mc := (c.block _ (Array.getElem?_eq_some_iff.1 mc).1).trans mc
      clear c
      have lv := OwnS.has hu (leavesL_len hl20)
      clear hu
      obtain ⟨ua, uc, rfl⟩ := lv.1.shape
      have Hbel := Lib.hid bel
      have Hmc := Lib.hid mc
      have Hlv := Lib.hid lv
      clear bel mc lv
      go_wp2_with fail
      have bel := Hbel.out
      have mc := Hmc.out
      have lv := Hlv.out
      clear Hbel Hmc Hlv
      obtain ⟨root, hroot⟩ : ∃ r, Hid (Tr.rootL (Co.leavesL l) = r) := ⟨_, rfl⟩
      refine (root_any (Co.leavesL l) _ root _ (ht.below bel (Nat.le_refl _)) lv (leavesL_mod Hok.out) hroot).mono ?_
      rintro e w6 ⟨rfl, c⟩
      replace bel := below_next bel c
      replace mc := (c.block _ (Array.getElem?_eq_some_iff.1 mc).1).trans mc
      replace lv := lv.below c (Nat.le_refl _)
      clear c
      have Hln : Hid ((Co.leavesL l).length = Pf.liveN l l.length) := leavesL_liveN hvb.out
      have hll : (Co.leavesL l).length ≤ 20 := Nat.le_trans (leavesL_le l) hl20
      have Hbel := Lib.hid bel
      have Hmc := Lib.hid mc
      have Hlv := Lib.hid lv
      clear bel mc lv
      go_wp2_with fail
      have bel := Hbel.out
      have mc := Hmc.out
      have lv := Hlv.out
      clear Hbel Hmc Hlv
      go_loopw [6, 7] (fun n i wr => ∃ k : Nat, k ≤ l.length ∧ i = .int .i64 (k : Int) ∧ n = .int .i64 (Pf.liveN l k : Int) ∧ CmS w bc (.cells #[.slice va l.length vc] 24 (0, 0)) (.slice ua (Co.leavesL l).length uc) (Co.leavesL l) wr) (fun _ i _ => l.length - (intOf i).toNat)
      case atStart => exact ⟨0, by omega, rfl, rfl, bel, mc, lv⟩
      case round =>
        clear bel mc lv
        obtain ⟨k, hk, rfl, rfl, bel, mc, lv⟩ := hrel
        have hln : Pf.liveN l k ≤ k := Pf.liveN_le l k
        have hkz : (0 : Int) ≤ (k : Int) := by omega
        by_cases hkl : k < l.length
        · skip
          obtain ⟨b, off, rfl, hvb2, hit⟩ := Hv.out.at hkl
          replace hit := hit.below bel hvb2
          have Hmk := make_at Hok.out hvb.out hkl
          have Hck := check_at Hok.out hvb.out hkl
          have Hst := Pf.liveN_step l k hkl
          have Htx : Hid (TxtOk l[k]) := Hok.out.2 _ (List.getElem_mem hkl)
          have Hn8 : Hid ((l[k]).number.length ≤ 8) := valid_num hvb.out _ (List.getElem_mem hkl)
          obtain ⟨x, hx⟩ : ∃ x, l[k] = x := ⟨_, rfl⟩
          rw [hx] at hit Hmk Hck Hst Htx Hn8
          clear hx
          obtain ⟨kind, id, parent, number, north, south, gone⟩ := x
          obtain ⟨f0, f1, f2, f3, f4, f5, f6⟩ := hit
          simp only at f0 f1 f2 f3 f4 f5 f6
          have hmk := Lib.hid Hmk
          have hck := Lib.hid Hck
          have hst := Lib.hid Hst
          clear Hmk Hck Hst
          cases gone
          · skip
            have q_mc_0 := cell_of_heap (i := 0) mc
            have q_mca := cell_of_heap (i := 0) ((heap_alloc_lt wr (.cells #[.int .i64 kind, .string ⟨id.toArray⟩, .string ⟨parent.toArray⟩, .string ⟨number.toArray⟩, .string ⟨north.toArray⟩, .string ⟨south.toArray⟩, .bool false] 26) _ (Array.getElem?_eq_some_iff.1 mc).1).trans mc)
            have Hbel := Lib.hid bel
            have Hmc := Lib.hid mc
            have Hlv := Lib.hid lv
            clear bel mc lv
            go_wp2_with fail
            have bel := Hbel.out
            have mc := Hmc.out
            have lv := Hlv.out
            clear Hbel Hmc Hlv
            clear q_mc_0 q_mca f0 f1 f2 f3 f4 f5 f6
            have hbcw : bc < wr.heap.size := (Array.getElem?_eq_some_iff.1 mc).1
            have hww : w.heap.size ≤ wr.heap.size := bel.size
            obtain ⟨w7, hw⟩ : ∃ z, wr.alloc (.cells #[.int .i64 kind, .string ⟨id.toArray⟩, .string ⟨parent.toArray⟩, .string ⟨number.toArray⟩, .string ⟨north.toArray⟩, .string ⟨south.toArray⟩, .bool false] 26) = z := ⟨_, rfl⟩
            have c : Below wr.heap.size wr w7 := by rw [← hw]; exact (Below.refl _ _).alloc (Nat.le_refl _) _
            have mi : w7.heap[wr.heap.size]? = some (.cells #[.int .i64 kind, .string ⟨id.toArray⟩, .string ⟨parent.toArray⟩, .string ⟨number.toArray⟩, .string ⟨north.toArray⟩, .string ⟨south.toArray⟩, .bool false] 26 (0, 0)) := by rw [← hw]; exact heap_alloc_at _ _
            rw [hw]
            clear hw
            replace bel := below_next bel c
            replace mc := (c.block _ (Array.getElem?_eq_some_iff.1 mc).1).trans mc
            replace lv := lv.below c (Nat.le_refl _)
            clear c
            obtain ⟨bi, hb⟩ : ∃ b, wr.heap.size = b := ⟨_, rfl⟩
            rw [hb] at mi hbcw hww ⊢
            clear hb
            refine (make_any l _ id _ (ht.below bel (Nat.le_refl _)) (Hv.out.below bel (Nat.le_refl _)) ⟨_, _, rfl, hcap⟩ Hok.out).mono ?_
            rintro e w8 ⟨pv, rfl, hp, c⟩
            replace bel := below_next bel c
            replace mc := (c.block _ (Array.getElem?_eq_some_iff.1 mc).1).trans mc
            replace lv := lv.below c (Nat.le_refl _)
            replace mi := (c.block _ (Array.getElem?_eq_some_iff.1 mi).1).trans mi
            clear c
            rw [hmk.out] at hp ⊢
            simp only [Bool.false_eq_true, if_false, prV] at hp ⊢
            have hp2 := hp
            obtain ⟨_, pa, pc, rfl, _⟩ := hp2
            obtain ⟨path, hpath⟩ : ∃ x, Tr.pathL (Co.leavesL l) (Pf.liveN l k) = x := ⟨_, rfl⟩
            rw [hpath] at hp ⊢ hck
            have Hpath := Lib.hid hpath
            clear hpath
            have q_mi_6 := cell_of_heap (i := 6) ((heap_alloc_lt w8 (.cells #[.int .i64 ((Co.leavesL l).length : Int), .int .i64 (Pf.liveN l k : Int), .int .i64 kind, .string ⟨id.toArray⟩, .string ⟨parent.toArray⟩, .string ⟨#[]⟩, .string ⟨north.toArray⟩, .string ⟨south.toArray⟩, .bool false, .slice pa path.length pc] 29) _ (Array.getElem?_eq_some_iff.1 mi).1).trans mi)
            have q_mi_3 := cell_of_heap (i := 3) ((heap_alloc_lt w8 (.cells #[.int .i64 ((Co.leavesL l).length : Int), .int .i64 (Pf.liveN l k : Int), .int .i64 kind, .string ⟨id.toArray⟩, .string ⟨parent.toArray⟩, .string ⟨#[]⟩, .string ⟨north.toArray⟩, .string ⟨south.toArray⟩, .bool false, .slice pa path.length pc] 29) _ (Array.getElem?_eq_some_iff.1 mi).1).trans mi)
            have q_mi_f := free_of_heap (i := 3) ((heap_alloc_lt w8 (.cells #[.int .i64 ((Co.leavesL l).length : Int), .int .i64 (Pf.liveN l k : Int), .int .i64 kind, .string ⟨id.toArray⟩, .string ⟨parent.toArray⟩, .string ⟨#[]⟩, .string ⟨north.toArray⟩, .string ⟨south.toArray⟩, .bool false, .slice pa path.length pc] 29) _ (Array.getElem?_eq_some_iff.1 mi).1).trans mi)
            have hbi : bi < w8.heap.size := (Array.getElem?_eq_some_iff.1 mi).1
            have hbs : (w8.setCell ⟨bi, 3, none⟩ (.string ⟨#[]⟩)).heap.size = w8.heap.size := by simp
            have miS : ((w8.setCell ⟨bi, 3, none⟩ (.string ⟨#[]⟩)).alloc (.cells #[.int .i64 ((Co.leavesL l).length : Int), .int .i64 (Pf.liveN l k : Int), .int .i64 kind, .string ⟨id.toArray⟩, .string ⟨parent.toArray⟩, .string ⟨#[]⟩, .string ⟨north.toArray⟩, .string ⟨south.toArray⟩, .bool false, .slice pa path.length pc] 29)).heap[bi]? = some (.cells #[.int .i64 kind, .string ⟨id.toArray⟩, .string ⟨parent.toArray⟩, .string ⟨#[]⟩, .string ⟨north.toArray⟩, .string ⟨south.toArray⟩, .bool false] 26 (0, 0)) := (heap_alloc_lt (w8.setCell ⟨bi, 3, none⟩ (.string ⟨#[]⟩)) (.cells #[.int .i64 ((Co.leavesL l).length : Int), .int .i64 (Pf.liveN l k : Int), .int .i64 kind, .string ⟨id.toArray⟩, .string ⟨parent.toArray⟩, .string ⟨#[]⟩, .string ⟨north.toArray⟩, .string ⟨south.toArray⟩, .bool false, .slice pa path.length pc] 29) _ (by rw [hbs]; exact hbi)).trans (set7_3 mi)
            have mpS : ((w8.setCell ⟨bi, 3, none⟩ (.string ⟨#[]⟩)).alloc (.cells #[.int .i64 ((Co.leavesL l).length : Int), .int .i64 (Pf.liveN l k : Int), .int .i64 kind, .string ⟨id.toArray⟩, .string ⟨parent.toArray⟩, .string ⟨#[]⟩, .string ⟨north.toArray⟩, .string ⟨south.toArray⟩, .bool false, .slice pa path.length pc] 29)).heap[w8.heap.size]? = some (.cells #[.int .i64 ((Co.leavesL l).length : Int), .int .i64 (Pf.liveN l k : Int), .int .i64 kind, .string ⟨id.toArray⟩, .string ⟨parent.toArray⟩, .string ⟨#[]⟩, .string ⟨north.toArray⟩, .string ⟨south.toArray⟩, .bool false, .slice pa path.length pc] 29 (0, 0)) := by have e := heap_alloc_at (w8.setCell ⟨bi, 3, none⟩ (.string ⟨#[]⟩)) (.cells #[.int .i64 ((Co.leavesL l).length : Int), .int .i64 (Pf.liveN l k : Int), .int .i64 kind, .string ⟨id.toArray⟩, .string ⟨parent.toArray⟩, .string ⟨#[]⟩, .string ⟨north.toArray⟩, .string ⟨south.toArray⟩, .bool false, .slice pa path.length pc] 29); rw [hbs] at e; exact e
            have mcS : ((w8.setCell ⟨bi, 3, none⟩ (.string ⟨#[]⟩)).alloc (.cells #[.int .i64 ((Co.leavesL l).length : Int), .int .i64 (Pf.liveN l k : Int), .int .i64 kind, .string ⟨id.toArray⟩, .string ⟨parent.toArray⟩, .string ⟨#[]⟩, .string ⟨north.toArray⟩, .string ⟨south.toArray⟩, .bool false, .slice pa path.length pc] 29)).heap[bc]? = some (.cells #[.slice (some ⟨b, off, none⟩) l.length vc] 24 (0, 0)) := (heap_alloc_lt (w8.setCell ⟨bi, 3, none⟩ (.string ⟨#[]⟩)) (.cells #[.int .i64 ((Co.leavesL l).length : Int), .int .i64 (Pf.liveN l k : Int), .int .i64 kind, .string ⟨id.toArray⟩, .string ⟨parent.toArray⟩, .string ⟨#[]⟩, .string ⟨north.toArray⟩, .string ⟨south.toArray⟩, .bool false, .slice pa path.length pc] 29) _ (by rw [hbs]; exact (Array.getElem?_eq_some_iff.1 mc).1)).trans ((Below.heap_setCell _ ⟨bi, 3, none⟩ _ _ (show bc ≠ bi by omega)).trans mc)
            have belS : Below w.heap.size w ((w8.setCell ⟨bi, 3, none⟩ (.string ⟨#[]⟩)).alloc (.cells #[.int .i64 ((Co.leavesL l).length : Int), .int .i64 (Pf.liveN l k : Int), .int .i64 kind, .string ⟨id.toArray⟩, .string ⟨parent.toArray⟩, .string ⟨#[]⟩, .string ⟨north.toArray⟩, .string ⟨south.toArray⟩, .bool false, .slice pa path.length pc] 29)) := (bel.setCell (p := ⟨bi, 3, none⟩) (by show w.heap.size ≤ bi; omega) _).alloc (by rw [hbs]; exact bel.size) _
            have c0 := (Below.refl (w8.setCell ⟨bi, 3, none⟩ (.string ⟨#[]⟩)).heap.size (w8.setCell ⟨bi, 3, none⟩ (.string ⟨#[]⟩))).alloc (Nat.le_refl _) (.cells #[.int .i64 ((Co.leavesL l).length : Int), .int .i64 (Pf.liveN l k : Int), .int .i64 kind, .string ⟨id.toArray⟩, .string ⟨parent.toArray⟩, .string ⟨#[]⟩, .string ⟨north.toArray⟩, .string ⟨south.toArray⟩, .bool false, .slice pa path.length pc] 29)
            have lvS : HasStrsC ((w8.setCell ⟨bi, 3, none⟩ (.string ⟨#[]⟩)).alloc (.cells #[.int .i64 ((Co.leavesL l).length : Int), .int .i64 (Pf.liveN l k : Int), .int .i64 kind, .string ⟨id.toArray⟩, .string ⟨parent.toArray⟩, .string ⟨#[]⟩, .string ⟨north.toArray⟩, .string ⟨south.toArray⟩, .bool false, .slice pa path.length pc] 29)) (.slice ua (Co.leavesL l).length uc) (Co.leavesL l) := (lv.setStr (p := ⟨bi, 3, none⟩) (cell_of_heap (i := 3) mi) (leaves_ne Hn8.out)).below c0 (Nat.le_refl _)
            have hpS : HasStrsC ((w8.setCell ⟨bi, 3, none⟩ (.string ⟨#[]⟩)).alloc (.cells #[.int .i64 ((Co.leavesL l).length : Int), .int .i64 (Pf.liveN l k : Int), .int .i64 kind, .string ⟨id.toArray⟩, .string ⟨parent.toArray⟩, .string ⟨#[]⟩, .string ⟨north.toArray⟩, .string ⟨south.toArray⟩, .bool false, .slice pa path.length pc] 29)) (.slice pa path.length pc) path := (hp.setStr (p := ⟨bi, 3, none⟩) (cell_of_heap (i := 3) mi) (path_ne Hn8.out Hpath.out)).below c0 (Nat.le_refl _)
            clear hbs
            have r_0 := cell_of_heap (i := 0) mpS
            have r_1 := cell_of_heap (i := 1) mpS
            have r_2 := cell_of_heap (i := 2) mpS
            have r_3 := cell_of_heap (i := 3) mpS
            have r_4 := cell_of_heap (i := 4) mpS
            have r_5 := cell_of_heap (i := 5) mpS
            have r_6 := cell_of_heap (i := 6) mpS
            have r_7 := cell_of_heap (i := 7) mpS
            have r_8 := cell_of_heap (i := 8) mpS
            have r_9 := cell_of_heap (i := 9) mpS
            have s_0 := cell_of_heap (i := 0) miS
            have s_1 := cell_of_heap (i := 1) miS
            have s_2 := cell_of_heap (i := 2) miS
            have s_3 := cell_of_heap (i := 3) miS
            have s_4 := cell_of_heap (i := 4) miS
            have s_5 := cell_of_heap (i := 5) miS
            have s_6 := cell_of_heap (i := 6) miS
            have HF := Lib.hid (And.intro belS (And.intro mcS (And.intro lvS hpS)))
            clear belS mcS lvS hpS bel mc lv hp c0 mi miS mpS
            go_wp2_with fail
            refine (checkP_any root ⟨(Co.leavesL l).length, Pf.liveN l k, ⟨kind, id, parent, [], north, south, false⟩, path⟩ _ true _ (ht.below HF.out.1 (Nat.le_refl _)) HF.out.2.2.2 (prOk_at Htx.out hll (by omega) Hpath.out) (by rw [← hroot.out]; first | exact hck.out rfl | exact hck.out trivial)).mono ?_
            rintro e w9 ⟨rfl, c⟩
            have HG := Lib.hid (And.intro (below_next HF.out.1 c) (And.intro ((c.block _ (Array.getElem?_eq_some_iff.1 HF.out.2.1).1).trans HF.out.2.1) (HF.out.2.2.1.below c (Nat.le_refl _))))
            clear c r_0 r_1 r_2 r_3 r_4 r_5 r_6 r_7 r_8 r_9 s_0 s_1 s_2 s_3 s_4 s_5 s_6 q_mi_6 q_mi_3 q_mi_f
            go_wp2_with fail
            go_roundw
            case rel => exact ⟨k + 1, by omega, by go_num, by rw [hst.out]; go_num, HG.out.1, HG.out.2.1, HG.out.2.2⟩
            case measure => simp [intOf]; omega
          · skip
            have q_mc_0 := cell_of_heap (i := 0) mc
            have q_mca := cell_of_heap (i := 0) ((heap_alloc_lt wr (.cells #[.int .i64 kind, .string ⟨id.toArray⟩, .string ⟨parent.toArray⟩, .string ⟨number.toArray⟩, .string ⟨north.toArray⟩, .string ⟨south.toArray⟩, .bool true] 26) _ (Array.getElem?_eq_some_iff.1 mc).1).trans mc)
            have Hbel := Lib.hid bel
            have Hmc := Lib.hid mc
            have Hlv := Lib.hid lv
            clear bel mc lv
            go_wp2_with fail
            have bel := Hbel.out
            have mc := Hmc.out
            have lv := Hlv.out
            clear Hbel Hmc Hlv
            clear q_mc_0 q_mca f0 f1 f2 f3 f4 f5 f6
            have hbcw : bc < wr.heap.size := (Array.getElem?_eq_some_iff.1 mc).1
            have hww : w.heap.size ≤ wr.heap.size := bel.size
            obtain ⟨w7, hw⟩ : ∃ z, wr.alloc (.cells #[.int .i64 kind, .string ⟨id.toArray⟩, .string ⟨parent.toArray⟩, .string ⟨number.toArray⟩, .string ⟨north.toArray⟩, .string ⟨south.toArray⟩, .bool true] 26) = z := ⟨_, rfl⟩
            have c : Below wr.heap.size wr w7 := by rw [← hw]; exact (Below.refl _ _).alloc (Nat.le_refl _) _
            have mi : w7.heap[wr.heap.size]? = some (.cells #[.int .i64 kind, .string ⟨id.toArray⟩, .string ⟨parent.toArray⟩, .string ⟨number.toArray⟩, .string ⟨north.toArray⟩, .string ⟨south.toArray⟩, .bool true] 26 (0, 0)) := by rw [← hw]; exact heap_alloc_at _ _
            rw [hw]
            clear hw
            replace bel := below_next bel c
            replace mc := (c.block _ (Array.getElem?_eq_some_iff.1 mc).1).trans mc
            replace lv := lv.below c (Nat.le_refl _)
            clear c
            obtain ⟨bi, hb⟩ : ∃ b, wr.heap.size = b := ⟨_, rfl⟩
            rw [hb] at mi hbcw hww ⊢
            clear hb
            refine (make_any l _ id _ (ht.below bel (Nat.le_refl _)) (Hv.out.below bel (Nat.le_refl _)) ⟨_, _, rfl, hcap⟩ Hok.out).mono ?_
            rintro e w8 ⟨pv, rfl, hp, c⟩
            replace bel := below_next bel c
            replace mc := (c.block _ (Array.getElem?_eq_some_iff.1 mc).1).trans mc
            replace lv := lv.below c (Nat.le_refl _)
            replace mi := (c.block _ (Array.getElem?_eq_some_iff.1 mi).1).trans mi
            clear c
            rw [hmk.out] at hp ⊢
            simp only [if_pos, if_true, prV, Pf.zeroPr, Pf.zeroIt] at hp ⊢
            obtain ⟨_, xa, xc, rfl, _⟩ := hp
            have q_mi_6 := cell_of_heap (i := 6) ((heap_alloc_lt w8 (.cells #[.int .i64 0, .int .i64 0, .int .i64 0, .string ⟨#[]⟩, .string ⟨#[]⟩, .string ⟨#[]⟩, .string ⟨#[]⟩, .string ⟨#[]⟩, .bool false, .slice xa 0 xc] 29) _ (Array.getElem?_eq_some_iff.1 mi).1).trans mi)
            have Hbel := Lib.hid bel
            have Hmc := Lib.hid mc
            have Hlv := Lib.hid lv
            have Hmi := Lib.hid mi
            clear bel mc lv mi
            go_wp2_with fail
            have bel := Hbel.out
            have mc := Hmc.out
            have lv := Hlv.out
            have mi := Hmi.out
            clear Hbel Hmc Hlv Hmi
            clear q_mi_6
            have bel2 := bel.alloc bel.size (.cells #[.int .i64 0, .int .i64 0, .int .i64 0, .string ⟨#[]⟩, .string ⟨#[]⟩, .string ⟨#[]⟩, .string ⟨#[]⟩, .string ⟨#[]⟩, .bool false, .slice xa 0 xc] 29)
            have mc2 := (heap_alloc_lt w8 (.cells #[.int .i64 0, .int .i64 0, .int .i64 0, .string ⟨#[]⟩, .string ⟨#[]⟩, .string ⟨#[]⟩, .string ⟨#[]⟩, .string ⟨#[]⟩, .bool false, .slice xa 0 xc] 29) _ (Array.getElem?_eq_some_iff.1 mc).1).trans mc
            have lv2 := lv.below ((Below.refl w8.heap.size w8).alloc (Nat.le_refl _) (.cells #[.int .i64 0, .int .i64 0, .int .i64 0, .string ⟨#[]⟩, .string ⟨#[]⟩, .string ⟨#[]⟩, .string ⟨#[]⟩, .string ⟨#[]⟩, .bool false, .slice xa 0 xc] 29)) (Nat.le_refl _)
            have HF := Lib.hid (And.intro bel2 (And.intro mc2 lv2))
            clear bel2 mc2 lv2 bel mc lv mi
            go_roundw
            case rel => exact ⟨k + 1, by omega, by go_num, by rw [hst.out]; rfl, HF.out.1, HF.out.2.1, HF.out.2.2⟩
            case measure => simp [intOf]; omega
        · skip
          obtain rfl : k = l.length := by omega
          rw [← Hln.out]
          have q_mc_0 := cell_of_heap (i := 0) mc
          have Hbel := Lib.hid bel
          have Hmc := Lib.hid mc
          have Hlv := Lib.hid lv
          clear bel mc lv
          go_wp2_with fail
          have bel := Hbel.out
          have mc := Hmc.out
          have lv := Hlv.out
          clear Hbel Hmc Hlv
          clear q_mc_0
          go_ret
          exact ⟨rfl, bel⟩
end Go.Proofs.YteoclpjbeadkpaaGreatDoor
/- THE STATEMENT ProofComplete: for every input within the form's reach, the five listed tables of Go's library holding what their initialisers lay, the call returns true and leaves the arguments as they were. -/
namespace Go.Proofs.YteoclpjbeadkpaaGreatDoor.rowProofComplete
open Go.ChangeShapes Go.WideShapes Go.ChangeAt Go.RowKit
open Go.ChangeMaps (open_string)

theorem noHandles : (Rows.proofCompleteRow.laid.filter fun x => x.2.handleName?.isSome) = [] := by kernel_rfl
theorem table {W : World} (h : laidMetH Tryz.prog Rows.proofCompleteRow.laid W) : Tab W := by
  unfold laidMetH at h
  rw [noHandles] at h
  exact tab_of h (by simp [Rows.proofCompleteRow])

set_option maxRecDepth 100000 in
theorem contract (H : Type) (enc : TypeId × Value → H) (W : World) (base : Nat) (args : Array Value) (ds gs : List (DataW H)) (before : List MemPlace)
    (hval : ∀ (j : Nat) t v, Tryz.f4.params[j]? = some t → args[j]? = some v → Value.okWide Tryz.prog W .any base t v)
    (hW : DataW.Whole enc Tryz.prog Tryz.f4.params.toList Rows.proofCompleteSpec.vars false W args.toList ds gs before)
    (hsz0 : (DataW.weightsEach Tryz.prog (Tryz.f4.params.toList ++ Rows.proofCompleteSpec.plain.varTypes Tryz.prog) (ds ++ gs)).all (· ≤ reachBytes) = true) (hL : laidMetH Tryz.prog Rows.proofCompleteRow.laid W) :
    Calls Tryz.prog 4 args W fun e W' => ∃ v, e = .returned v ∧ Rows.proofCompleteSpec.post enc Tryz.prog Tryz.f4 false true false false W args v W' := by
  have hW' := hW
  obtain ⟨p, q, hA0, hV, rfl, hfz, hnd⟩ := hW
  have hA : DataW.TrodAll enc Tryz.prog W 0 (fun _ => true) true Tryz.f4.params.toList args.toList ds p := hA0
  have hsz : (DataW.weightsEach Tryz.prog (Tryz.f4.params.toList ++ Rows.proofCompleteSpec.plain.varTypes Tryz.prog) (ds ++ gs)).all (· ≤ reachBytes) = true := hsz0
  rw [Tryz.params4] at hA hval hsz
  obtain ⟨v0, vs0, d0, ds0, p0, q0, hargs, rfl, rfl, h0, r0⟩ := trodAll_cons hA
  obtain ⟨rfl, rfl, rfl⟩ := trodAll_nil r0
  obtain rfl : args = #[v0] := by cases args; simp_all
  obtain ⟨rfl, rfl⟩ := trodVars_none hV
  have k0 := h0
  have lt0 : ∀ x ∈ p0, x.block < W.heap.size := by obtain ⟨m, hm⟩ := k0; exact DataW.trod_lt m _ _ _ hm
  have wt0 := wt_arg hsz (j := 0) (t := 24) (d := d0) rfl rfl
  obtain ⟨⟨c0⟩, rfl, _⟩ := okWide_struct Tryz.underlying24 (hval 0 24 v0 rfl rfl)
  obtain ⟨m0, hm0⟩ := h0
  obtain ⟨il0, iv0, e0, hi0, li0, ci0, ok0⟩ := code_open (cs := c0) hm0 wt0
  subst e0
  refine (completeLaw_any il0 iv0 W (table hL) hi0 li0 ci0 ok0).mono fun e W' ⟨he, bel⟩ => ?_
  subst he
  exact ⟨_, rfl, _, _, _, [], _, [], hW', trodAll_mk1 (shut_bool Tryz.underlying4 _), (trodAll_cons_mk (Below.trod laidOut (by kernel_rfl) (of_decide_eq_true (by kernel_rfl)) k0 bel lt0) trodAll_mk0), rfl, bel.frame _, fun h => by cases h⟩

theorem laid_met (os : Os) : laidMet Tryz.prog Rows.proofCompleteRow.laid ((laidWorld os).forCall (fun _ _ => 0) ⟨#[], #[.agg #[.slice none 0 0]], []⟩).memory :=
  laidMet_of_run' 8 (by kernel_rfl) (by kernel_rfl)
theorem reads (os : Os) {H : Type} (enc : TypeId × Value → H) : ∃ places, DataW.whole enc Tryz.prog ((laidWorld os).forCall (fun _ _ => 0) ⟨#[], #[.agg #[.slice none 0 0]], []⟩).memory Tryz.f4.params.toList Rows.proofCompleteSpec.vars false (#[.agg #[.slice none 0 0]] : Array Value).toList 8 = some ([.agg [.nil]], [], places) :=
  ⟨[], by kernel_rfl⟩

set_option maxRecDepth 100000 in
theorem lifted (os : Os) (started : os.Started) (H : Type) (enc : TypeId × Value → H) (F : Stop.Interp) :
    ReturnsInHanded {} Tryz.checked os 4 .any ((OpenSpec.ofChange Rows.proofCompleteSpec).preRow enc Tryz.prog Tryz.f4 Rows.proofCompleteRow.domain false Rows.proofCompleteRow.laid) (((OpenSpec.ofChange Rows.proofCompleteSpec).at F).post enc Tryz.prog Tryz.f4 false true false false) := by
  obtain ⟨places, hx⟩ := reads os enc
  refine returnsInHanded_of_row (C := Tryz.checked) (s := OpenSpec.ofChange Rows.proofCompleteSpec) own started (by kernel_rfl) Tryz.func4
    (witness_row_at (enc := enc) (C := Tryz.checked) false (laidWorld os) #[.agg #[.slice none 0 0]] rfl (by kernel_rfl) (by kernel_rfl) (by kernel_rfl)
      (OpenSpec.preRow_of_cond 8 hx (by kernel_rfl) (fun k hk => by cases hk) (by kernel_rfl) (laid_met os))) ?_
  intro W base args ds gs before hval hW _ _ hsz hL _ _
  exact contract H enc W base args ds gs before hval hW hsz hL

theorem said : Rows.ProofCompleteSaid :=
  OpenClaim.holds_of_cond 4 Tryz.f4 rfl rfl rfl rfl rfl rfl rfl ⟨rfl, rfl, rfl, rfl, rfl⟩ rfl rfl rfl rfl rfl (by kernel_rfl) Tryz.func4 (by kernel_rfl)
    (of_decide_eq_true (by kernel_rfl)) (by unfold Func.isWrapper; rw [if_neg (of_decide_eq_false (by kernel_rfl))]; exact ⟨rfl, rfl⟩)
    (fun os started H enc _ F => by rw [OpenClaim.pre_eq_preRow]; exact lifted os started H enc F)

theorem plain (f : FuncId) (fn : Func) (hf : Tryz.pinned.checked.prog.funcNamed "pandect/pandectlaw44.ProofComplete" = some f) (hfn : Tryz.pinned.checked.prog.funcs[f]? = some fn) :
    false = Tryz.pinned.checked.prog.looks [] ∧ ∀ (j : Nat) t, fn.params[j]? = some t → Tryz.pinned.checked.prog.wantsStandIn t = false := by
  obtain rfl : f = 4 := Option.some.inj ((show Tryz.prog.funcNamed "pandect/pandectlaw44.ProofComplete" = some 4 by kernel_rfl).symm.trans hf) |>.symm
  obtain rfl : fn = Tryz.f4 := (Option.some.inj (Tryz.func4.symm.trans hfn)).symm
  refine ⟨by kernel_rfl, fun j t ht => ?_⟩
  rw [Tryz.params4] at ht
  have hall : ∀ x ∈ [24], Tryz.prog.wantsStandIn x = false := by
    intro x hx
    simp only [List.mem_cons, List.not_mem_nil, or_false] at hx
    subst hx; kernel_rfl
  exact hall t (by simpa using Array.mem_of_getElem? ht)

/-- the card of the statement -/
theorem card : Rows.ProofCompleteCardSaid :=
  Claim7.holds_tied_plain_at .later [] _ _ _ _ said (fun _ h => by cases h) (by kernel_rfl) (fun _ h => by cases h) proofComplete_row_tie rfl ⟨rfl, rfl⟩ (by kernel_rfl) rfl plain (by kernel_rfl)
end Go.Proofs.YteoclpjbeadkpaaGreatDoor.rowProofComplete
