/- THE STATEMENT ProofSound: for every input within the form's reach, the five listed tables of Go's library holding what their initialisers lay, the call returns true and leaves the arguments as they were. -/
import Derived.Test.YteoclpjbeadkpaaGreatDoorMpH
import Derived.Test.YteoclpjbeadkpaaGreatDoorMpI
import Derived.Test.YteoclpjbeadkpaaGreatDoorMpA
import Derived.Deep.RegionHeld3
import Derived.Deep.AppendLies
import Derived.Maps.AppendAt
import Derived.Test.YteoclpjbeadkpaaGreatDoorMpD
import Derived.Lib.SmallJoins
import Derived.Test.YteoclpjbeadkpaaGreatDoorMpF
import Derived.Deep.QuietTactic
import Derived.BigQuiet
set_option linter.unusedSimpArgs false
set_option linter.unusedVariables false
/- A code among a law's arguments, opened. -/
namespace Go.Proofs.YteoclpjbeadkpaaGreatDoor
open Go.ChangeShapes Go.WideShapes Go.ChangeAt Go.RowKit Go.Deep
open Go.ChangeMaps (open_string)

section
variable {H : Type} {enc : TypeId × Value → H} {w : World} {base : Nat} {sp : Nat → Bool} {held : Bool} {fuel : Nat} {cs : List Value} {x : DataW H × List MemPlace}

set_option maxRecDepth 100000 in
theorem code_open (h : DataW.trod enc Tryz.prog w 0 sp held fuel 24 cs = some x) (hw : Wt 24 x.1) : ∃ (l : List Co.It) (v : Value), cs = [v] ∧ HasIts w v l ∧ l.length ≤ 140737488355328 ∧ (∃ a c, v = .slice a l.length c ∧ l.length ≤ c) ∧ ∀ t ∈ l, ItIn t ∧ ItSz t := by
  obtain ⟨xs, n, _, hx, hlen, hxl, hf⟩ := DataW.trod_struct Tryz.underlying24 h
  have hC : Tryz.prog.cellsOf 24 = 1 := by kernel_rfl
  have h22 : Tryz.prog.cellsOf 22 = 1 := by kernel_rfl
  rw [hC] at hlen
  match cs, hlen, xs, hxl with
  | [c0], _, [y0], _ =>
    have g0 : DataW.trod enc Tryz.prog w 0 sp held n 22 [c0] = some y0 := by simpa [h22] using hf 0 _ rfl
    rw [hx] at hw
    have w0 : Wt 22 y0.1 := wt_struct hw Tryz.underlying24 (j := 0) rfl rfl
    have hsl : ∃ a len cap, c0 = .slice a len cap := by
      rcases open_slice Tryz.underlying22 g0 with ⟨hcs, _⟩ | ⟨x, l, c, m, n, D, Pl, hcs, _⟩
      · simp at hcs; exact ⟨_, _, _, hcs⟩
      · simp at hcs; exact ⟨_, _, _, hcs⟩
    obtain ⟨a, len, cap, rfl⟩ := hsl
    obtain ⟨l, h1, h2, h3⟩ := its_open (a := a) (len := len) (cap := cap) ⟨n, g0⟩ w0
    obtain ⟨a2, c2, e⟩ := h1.shape
    simp only [Value.slice.injEq] at e
    obtain ⟨rfl, rfl, rfl⟩ := e
    refine ⟨l, _, rfl, h1, h2, ⟨a, cap, rfl, ?_⟩, h3⟩
    rcases open_slice Tryz.underlying22 g0 with ⟨hcs, _⟩ | ⟨x, l', c, m, n, D, Pl, hcs, _, hl, _⟩
    · simp at hcs
      simp [hcs]
    · simp at hcs
      omega
end
end Go.Proofs.YteoclpjbeadkpaaGreatDoor
/- WALK: pandectref18.Few, small (the laws of layer 44). -/
namespace Go.Proofs.YteoclpjbeadkpaaGreatDoor.Co
def itFew (x : It) : Bool := decide (x.id.length ≤ 500) && decide (x.parent.length ≤ 500) && decide (x.number.length ≤ 500) && decide (x.north.length ≤ 500) && decide (x.south.length ≤ 500)
def fewC (l : List It) (n : Nat) : Bool := decide (l.length ≤ n) && (l.take n).all itFew
theorem fewC_len {l : List It} {n : Nat} (h : fewC l n = true) : l.length ≤ n := by
  unfold fewC at h
  rw [Bool.and_eq_true, decide_eq_true_eq] at h
  exact h.1
theorem fewC_all {l : List It} {n : Nat} (h : fewC l n = true) : ∀ x ∈ l, x.id.length ≤ 500 ∧ x.parent.length ≤ 500 ∧ x.number.length ≤ 500 ∧ x.north.length ≤ 500 ∧ x.south.length ≤ 500 := by
  have hl := fewC_len h
  unfold fewC at h
  rw [Bool.and_eq_true, List.take_of_length_le hl, List.all_eq_true] at h
  intro x hx
  have := h.2 x hx
  unfold itFew at this
  simpa [and_assoc] using this
end Go.Proofs.YteoclpjbeadkpaaGreatDoor.Co
namespace Go.Proofs.YteoclpjbeadkpaaGreatDoor
open Go.RowKit Go.Shelf Go.Maps

theorem HasIts.at {w : World} {a : Option Addr} {n c : Nat} {l : List Co.It} (h : HasIts w (.slice a n c) l) {k : Nat} (hk : k < l.length) : ∃ vb off, a = some ⟨vb, off, none⟩ ∧ vb < w.heap.size ∧ ItAt w vb (off + k * 7) l[k] := by
  rcases h with ⟨rfl, _⟩ | ⟨_, b, off, c, e, hlt, hc⟩
  · simp at hk
  · cases e; exact ⟨b, off, rfl, hlt, hc k hk⟩

set_option maxHeartbeats 4000000 in
set_option maxRecDepth 100000 in
theorem few18_any (l : List Co.It) (n : Nat) (v : Value) (w : World) (hv : HasIts w v l) (hl : l.length ≤ 140737488355328) (hn : n ≤ 1000) (hr : ∀ x ∈ l, ItMax x) (b : Bool) (hb : Hid (Co.fewC l n = b)) :
    Calls Tryz.prog 41 #[.agg #[v], .int .i64 (n : Int)] w fun e w' => e = .returned (.bool b) ∧ Below w.heap.size w w' := by
  obtain ⟨va, vc, rfl⟩ := hv.shape
  have Hv := Lib.hid hv
  have Hr := Lib.hid hr
  clear hv hr
  go_enter Tryz.func41, Tryz.ntmps41
  have bel := Below.refl w.heap.size w
  have Hbel := Lib.hid bel
  clear bel
  go_wp2_with fail
  have bel := Hbel.out
  clear Hbel
  obtain ⟨w1, hw⟩ : ∃ z, w.alloc (.cells #[.slice va l.length vc] 24) = z := ⟨_, rfl⟩
  have c : Below w.heap.size w w1 := by rw [← hw]; exact (Below.refl _ _).alloc (Nat.le_refl _) _
  have mc : w1.heap[w.heap.size]? = some (.cells #[.slice va l.length vc] 24 (0, 0)) := by rw [← hw]; exact heap_alloc_at _ _
  rw [hw]
  clear hw
  replace bel := below_next bel c
  clear c
  go_loopw [5] (fun i wr => ∃ k : Nat, k ≤ l.length ∧ k ≤ n ∧ i = .int .i64 (k : Int) ∧ Hid ((l.take k).all Co.itFew = true) ∧ Hid (Below w.heap.size w wr) ∧ Hid (wr.heap[w.heap.size]? = some (.cells #[.slice va l.length vc] 24 (0, 0)))) (fun i _ => n - (intOf i).toNat)
  case atStart => exact ⟨0, by omega, by omega, rfl, by simp [Hid], bel, mc⟩
  case round =>
    clear bel mc
    obtain ⟨k, hk, hkn, rfl, HA, Hbel, Hmc⟩ := hrel
    have qc := cell_of_heap (i := 0) Hmc.out
    have hkz : (0 : Int) ≤ (k : Int) := by omega
    have hlm : (l.length : Int) ≤ 140737488355328 := by omega
    by_cases hkl : k < l.length
    · skip
      by_cases hk2 : k < n
      · skip
        obtain ⟨vb, off, rfl, hvb, hit⟩ := Hv.out.at hkl
        have hrr := Hr.out _ (List.getElem_mem hkl)
        replace hit := hit.below Hbel.out hvb
        have HS : Hid ((l.take (k + 1)).all Co.itFew = Co.itFew l[k]) := by
          unfold Hid
          rw [List.take_succ_eq_append_getElem hkl, List.all_append, HA.out]; simp
        have HM : Hid (Co.itFew l[k] = false → b = false) := by
          intro h
          rw [← hb.out]; unfold Co.fewC
          have : (l.take n).all Co.itFew = false := List.all_eq_false.2 ⟨l[k], List.mem_take_iff_getElem.2 ⟨k, by omega, rfl⟩, by rw [h]; decide⟩
          rw [this]; simp
        generalize l[k] = x at hit HS HM hrr
        obtain ⟨kind, id, parent, number, north, south, gone⟩ := x
        obtain ⟨f0, f1, f2, f3, f4, f5, f6⟩ := hit
        obtain ⟨z1, z2, z3, z4, z5⟩ := hrr
        simp only at f0 f1 f2 f3 f4 f5 f6 z1 z2 z3 z4 z5
        have Hb2 : Hid (Below w.heap.size w (wr.alloc (.cells #[.int .i64 kind, .string ⟨id.toArray⟩, .string ⟨parent.toArray⟩, .string ⟨number.toArray⟩, .string ⟨north.toArray⟩, .string ⟨south.toArray⟩, .bool gone] 26)) ∧ (wr.alloc (.cells #[.int .i64 kind, .string ⟨id.toArray⟩, .string ⟨parent.toArray⟩, .string ⟨number.toArray⟩, .string ⟨north.toArray⟩, .string ⟨south.toArray⟩, .bool gone] 26)).heap[w.heap.size]? = some (.cells #[.slice (some ⟨vb, off, none⟩) l.length vc] 24 (0, 0))) := ⟨Hbel.out.alloc Hbel.out.size _, (heap_alloc_lt wr _ _ (Array.getElem?_eq_some_iff.1 Hmc.out).1).trans Hmc.out⟩
        by_cases g0 : id.length ≤ 500
        · skip
          have g0p : (id.length : Int) ≤ 500 := by omega
          by_cases g1 : parent.length ≤ 500
          · skip
            have g1p : (parent.length : Int) ≤ 500 := by omega
            by_cases g2 : number.length ≤ 500
            · skip
              have g2p : (number.length : Int) ≤ 500 := by omega
              by_cases g3 : north.length ≤ 500
              · skip
                have g3p : (north.length : Int) ≤ 500 := by omega
                by_cases g4 : south.length ≤ 500
                · skip
                  have g4p : (south.length : Int) ≤ 500 := by omega
                  go_wp2_with fail
                  go_roundw
                  case rel => exact ⟨k + 1, by omega, by omega, by go_num, by unfold Hid; rw [HS.out]; simp [Co.itFew, g0, g1, g2, g3, g4], Hb2.out.1, Hb2.out.2⟩
                  case measure => simp [intOf]; omega
                · skip
                  have g4n : 500 < (south.length : Int) := by omega
                  have hf : Hid (b = false) := HM.out (by simp [Co.itFew, g4])
                  clear hb
                  go_wp2_with fail
                  go_ret
                  exact ⟨by rw [hf.out]; rfl, Hb2.out.1⟩
              · skip
                have g3n : 500 < (north.length : Int) := by omega
                have hf : Hid (b = false) := HM.out (by simp [Co.itFew, g3])
                clear hb
                go_wp2_with fail
                go_ret
                exact ⟨by rw [hf.out]; rfl, Hb2.out.1⟩
            · skip
              have g2n : 500 < (number.length : Int) := by omega
              have hf : Hid (b = false) := HM.out (by simp [Co.itFew, g2])
              clear hb
              go_wp2_with fail
              go_ret
              exact ⟨by rw [hf.out]; rfl, Hb2.out.1⟩
          · skip
            have g1n : 500 < (parent.length : Int) := by omega
            have hf : Hid (b = false) := HM.out (by simp [Co.itFew, g1])
            clear hb
            go_wp2_with fail
            go_ret
            exact ⟨by rw [hf.out]; rfl, Hb2.out.1⟩
        · skip
          have g0n : 500 < (id.length : Int) := by omega
          have hf : Hid (b = false) := HM.out (by simp [Co.itFew, g0])
          clear hb
          go_wp2_with fail
          go_ret
          exact ⟨by rw [hf.out]; rfl, Hb2.out.1⟩
      · skip
        obtain rfl : k = n := by omega
        have hf : Hid (b = false) := by unfold Hid; rw [← hb.out]; unfold Co.fewC; rw [decide_eq_false (by omega)]; rfl
        clear hb
        have hdec : decide (l.length ≤ k) = false := decide_eq_false (by omega)
        have hki : (k : Int) < (l.length : Int) := by omega
        go_wp2_with fail
        go_ret
        exact ⟨by rw [hf.out]; rfl, Hbel.out⟩
    · skip
      obtain rfl : k = l.length := by omega
      have hf : Hid (b = true) := by
        unfold Hid; rw [← hb.out]; unfold Co.fewC
        have h1 := HA.out
        rw [List.take_length] at h1
        rw [decide_eq_true hkn, List.take_of_length_le hkn, h1]; rfl
      clear hb
      have hdec : decide (l.length ≤ n) = true := decide_eq_true hkn
      have hki : (l.length : Int) ≤ (n : Int) := by omega
      go_wp2_with fail
      go_ret
      exact ⟨by rw [hf.out]; rfl, Hbel.out⟩

set_option maxRecDepth 100000 in
theorem small_any (l : List Co.It) (v : Value) (w : World) (hv : HasIts w v l) (hl : l.length ≤ 140737488355328) (hr : ∀ x ∈ l, ItMax x) (b : Bool) (hb : Hid (Co.fewC l 20 = b)) :
    Calls Tryz.prog 11 #[.agg #[v]] w fun e w' => e = .returned (.bool b) ∧ Below w.heap.size w w' := by
  obtain ⟨va, vc, rfl⟩ := hv.shape
  have C := Lib.hid (few18_any l 20 _ (w.alloc (.cells #[.slice va l.length vc] 24)) (hv.below ((Below.refl _ w).alloc (Nat.le_refl _) _) (Nat.le_refl _)) hl (by decide) hr b hb)
  have B1 : Hid (Below w.heap.size w (w.alloc (.cells #[.slice va l.length vc] 24))) := (Below.refl _ w).alloc (Nat.le_refl _) _
  clear hv hr
  go_enter Tryz.func11, Tryz.ntmps11
  go_wp2_with fail
  refine C.out.mono ?_
  rintro e w1 ⟨rfl, c⟩
  have B2 := Lib.hid (below_next B1.out c)
  clear c
  go_wp2_with fail
  go_ret
  exact ⟨rfl, B2.out⟩
end Go.Proofs.YteoclpjbeadkpaaGreatDoor
/- WALK: ProofComplete. -/
namespace Go.Proofs.YteoclpjbeadkpaaGreatDoor
open Go.RowKit Go.Shelf Go.Maps

theorem codeOk2_few {l : List Co.It} (h : Co.fewC l 20 = true) : CodeOk2 l := by
  have hl := Co.fewC_len h
  have ha := Co.fewC_all h
  refine ⟨⟨fun x hx => ?_, by omega⟩, fun x hx => ?_⟩
  · obtain ⟨h1, h2, h3, h4, h5⟩ := ha x hx
    exact ⟨⟨by omega, by omega⟩, by unfold maxLen; omega⟩
  · obtain ⟨h1, h2, h3, h4, h5⟩ := ha x hx
    exact ⟨by omega, by omega, by omega, by omega⟩
theorem leavesL_le (l : List Co.It) : (Co.leavesL l).length ≤ l.length := by
  unfold Co.leavesL
  split
  · rw [List.length_map]; exact List.length_filter_le _ _
  · exact Nat.zero_le _
theorem leavesL_len {l : List Co.It} (h : l.length ≤ 20) : (Co.leavesL l).length ≤ 140737488355328 := Nat.le_trans (leavesL_le l) (by omega)
theorem leavesL_mod {l : List Co.It} (h : CodeOk2 l) : Mod (Co.leavesL l) := by
  intro t ht
  unfold Co.leavesL at ht
  split at ht
  · obtain ⟨y, hy, rfl⟩ := List.mem_map.mp ht
    exact Nat.le_trans (leaf_small2 y (h.2 y (List.mem_filter.mp hy).1)) (by decide)
  · cases ht
theorem leavesL_liveN {l : List Co.It} (h : Co.validL l = true) : (Co.leavesL l).length = Pf.liveN l l.length := by
  unfold Co.leavesL Pf.liveN
  rw [if_pos h, List.length_map, List.take_length]
/-- What was seen is in no item that comes. -/
theorem walk_seen : ∀ (l : List Co.It) (seen o : List (List UInt8)), Co.walkF seen o l = true → (∀ x ∈ l, x.id ∉ seen) ∧ (l.map (·.id)).Nodup
  | [], _, _, _ => ⟨fun x hx => (by cases hx), List.nodup_nil⟩
  | x :: r, seen, o, h => by
    unfold Co.walkF at h
    simp only [Bool.and_eq_true] at h
    obtain ⟨⟨h1, h2⟩, h3⟩ := h
    cases hp : Co.placeL o x.parent with
    | none => rw [hp] at h3; cases h3
    | some k =>
      rw [hp] at h3
      obtain ⟨a, b⟩ := walk_seen r _ _ h3
      have hx : x.id ∉ seen := by simpa using h2
      refine ⟨fun y hy => ?_, ?_⟩
      · rcases List.mem_cons.1 hy with rfl | hy
        · exact hx
        · exact fun hm => a y hy (List.mem_append_left _ hm)
      · rw [List.map_cons, List.nodup_cons]
        refine ⟨fun hm => ?_, b⟩
        obtain ⟨y, hy, e⟩ := List.mem_map.1 hm
        exact a y hy (by rw [e]; simp)
theorem valid_nodup {l : List Co.It} (h : Co.validL l = true) : (l.map (·.id)).Nodup := by
  unfold Co.validL at h
  rw [Bool.and_eq_true] at h
  exact (walk_seen l [] [] h.1).2
theorem find_at {l : List Co.It} (h : (l.map (·.id)).Nodup) {k : Nat} (hk : k < l.length) : l.findIdx (fun x => x.id == (l[k]).id) = k := by
  have h1 : l.findIdx (fun x => x.id == (l[k]).id) ≤ k := by
    refine Nat.le_of_not_lt fun hlt => ?_
    have := List.not_of_lt_findIdx (xs := l) (p := fun x : Co.It => x.id == (l[k]).id) hlt
    simp at this
  have h2 : l.findIdx (fun x => x.id == (l[k]).id) < l.length := by omega
  have h3 := List.findIdx_getElem (w := h2) (p := fun x : Co.It => x.id == (l[k]).id)
  have h4 : (l[l.findIdx (fun x => x.id == (l[k]).id)]).id = (l[k]).id := beq_iff_eq.1 h3
  have h5 := List.pairwise_iff_getElem.1 h
  refine Nat.le_antisymm h1 (Nat.le_of_not_lt fun hlt => ?_)
  have := h5 _ k (by rw [List.length_map]; omega) (by rw [List.length_map]; omega) hlt
  rw [List.getElem_map, List.getElem_map] at this
  exact this h4
/-- What proof.Make answers at an item of a valid code. -/
theorem make_at {l : List Co.It} (_ : CodeOk2 l) (h : Co.validL l = true) {k : Nat} (hk : k < l.length) :
    Pf.makeL l (l[k]).id = if (l[k]).gone = true then (Pf.zeroPr, 16) else (⟨(Co.leavesL l).length, Pf.liveN l k, ⟨(l[k]).kind, (l[k]).id, (l[k]).parent, [], (l[k]).north, (l[k]).south, (l[k]).gone⟩, Tr.pathL (Co.leavesL l) (Pf.liveN l k)⟩, 0) := by
  unfold Pf.makeL
  rw [if_neg (by rw [h]; decide), find_at (valid_nodup h) hk, List.getElem?_eq_getElem hk]
theorem leaves_at {l : List Co.It} (h : Co.validL l = true) {k : Nat} (hk : k < l.length) (hg : (l[k]).gone = false) : Pf.liveN l k < (Co.leavesL l).length ∧ (Co.leavesL l).getD (Pf.liveN l k) [] = Co.leafL l[k] := by
  have hs : l = l.take k ++ l[k] :: l.drop (k + 1) := by rw [List.getElem_cons_drop, List.take_append_drop]
  have e : Co.liveL l = Co.liveL (l.take k) ++ l[k] :: Co.liveL (l.drop (k + 1)) := by
    conv => lhs; rw [hs]
    unfold Co.liveL
    rw [List.filter_append, List.filter_cons, hg]; rfl
  unfold Co.leavesL Pf.liveN
  rw [if_pos h, e]
  constructor
  · rw [List.length_map, List.length_append, List.length_cons]; omega
  · rw [List.map_append, List.getD_eq_getElem?_getD, List.getElem?_append_right (by rw [List.length_map]; exact Nat.le_refl _), List.length_map, Nat.sub_self]; rfl
theorem proper_kind2 {x : Co.It} (h : Co.properL x = true) : x.kind = 1 ∨ x.kind = 2 := by
  unfold Co.properL at h
  by_cases h1 : x.kind = 1
  · exact .inl h1
  · by_cases h2 : x.kind = 2
    · exact .inr h2
    · rw [if_neg h1, if_neg h2] at h; cases h
theorem walk_proper : ∀ (l : List Co.It) (seen o : List (List UInt8)), Co.walkF seen o l = true → ∀ x ∈ l, Co.properL x = true
  | [], _, _, _, x, hx => by cases hx
  | y :: r, seen, o, h, x, hx => by
    unfold Co.walkF at h
    simp only [Bool.and_eq_true] at h
    obtain ⟨⟨h1, h2⟩, h3⟩ := h
    rcases List.mem_cons.1 hx with rfl | hx
    · exact h1
    · cases hp : Co.placeL o y.parent with
      | none => rw [hp] at h3; cases h3
      | some k => rw [hp] at h3; exact walk_proper r _ _ h3 x hx
theorem valid_kind {l : List Co.It} (h : Co.validL l = true) : ∀ x ∈ l, x.kind = 1 ∨ x.kind = 2 := by
  unfold Co.validL at h
  rw [Bool.and_eq_true] at h
  exact fun x hx => proper_kind2 (walk_proper l [] [] h.1 x hx)
theorem check_at {l : List Co.It} (ho : CodeOk2 l) (h : Co.validL l = true) {k : Nat} (hk : k < l.length) : (l[k]).gone = false →
    Pf.checkL (Tr.rootL (Co.leavesL l)) ⟨(Co.leavesL l).length, Pf.liveN l k, ⟨(l[k]).kind, (l[k]).id, (l[k]).parent, [], (l[k]).north, (l[k]).south, (l[k]).gone⟩, Tr.pathL (Co.leavesL l) (Pf.liveN l k)⟩ = true := by
  intro hg
  obtain ⟨h1, h2⟩ := leaves_at h hk hg
  have hkd := valid_kind h _ (List.getElem_mem hk)
  have hle : (Co.leavesL l).length ≤ 1000000 := Nat.le_trans (leavesL_le l) (Nat.le_trans ho.1.2 (by decide))
  have h3 := Tr.check_path (Co.leavesL l) (Pf.liveN l k) hle h1
  rw [h2] at h3
  unfold Pf.checkL
  have h4 : Co.leafL ⟨(l[k]).kind, (l[k]).id, (l[k]).parent, [], (l[k]).north, (l[k]).south, (l[k]).gone⟩ = Co.leafL l[k] := rfl
  rw [h4, h3, hg]
  rcases hkd with e | e <;> rw [e] <;> rfl
theorem prOk_at {l : List Co.It} {x : Co.It} {n : Nat} {path : List (List UInt8)} (h : TxtOk x) (hl : (Co.leavesL l).length ≤ 20) (hn : n ≤ 20) (hp : Tr.pathL (Co.leavesL l) n = path) {number : List UInt8} {gone : Bool} :
    PrOk ⟨(Co.leavesL l).length, n, ⟨x.kind, x.id, x.parent, number, x.north, x.south, gone⟩, path⟩ := by
  refine ⟨⟨h.1, h.2.1, h.2.2.1, h.2.2.2⟩, fun s hs => ?_, ?_, ?_, ?_, ?_, ?_⟩
  · rw [← hp] at hs
    have h1 := Tr.pathL_isL _ (Co.leavesL l) n rfl s hs
    rw [isL_len h1]; decide
  · show path.length ≤ _
    rw [← hp]; exact Nat.le_trans (Pf.pathL_le _ _ _ rfl) (by omega)
  all_goals (try simp only); omega
theorem set7_3 {w : World} {b : Nat} {a0 a1 a2 a3 a4 a5 a6 v : Value} {t : TypeId} (h : w.heap[b]? = some (.cells #[a0, a1, a2, a3, a4, a5, a6] t (0, 0))) : (w.setCell ⟨b, 3, none⟩ v).heap[b]? = some (.cells #[a0, a1, a2, v, a4, a5, a6] t (0, 0)) := by
  simp [World.setCell, Array.getElem?_modify, h]
/-- A list of texts keeps at a write to the cell of a text that it does not hold. -/
theorem HasStrsC.setStr {w : World} {v : Value} {ss : List (List UInt8)} (h : HasStrsC w v ss) {p : Addr} {s : List UInt8} {u : Value} (hc : w.cell? p = some (.string ⟨s.toArray⟩)) (hne : ∀ t ∈ ss, t ≠ s) : HasStrsC (w.setCell p u) v ss := by
  refine ⟨?_, h.2⟩
  rcases h.1 with h | ⟨h0, b, off, c, e, hlt, hcell⟩
  · exact Or.inl h
  · refine Or.inr ⟨h0, b, off, c, e, by simpa using hlt, fun j hj => ?_⟩
    have h1 := hcell j hj
    rw [World.cell?_setCell_other]
    · exact h1
    · intro ep
      rw [ep, h1] at hc
      simp only [Option.some.injEq, Value.string.injEq, ByteArray.mk.injEq] at hc
      have e2 : ss.getD j [] = s := by simpa using congrArg Array.toList hc
      rw [List.getD_eq_getElem?_getD, List.getElem?_eq_getElem hj] at e2
      exact hne _ (List.getElem_mem hj) e2
theorem decN_pos (u : Nat) : 1 ≤ (Dg.decN u).length := by
  unfold Dg.decN Dg.decF
  split
  · simp
  · simp
theorem leafL_long (x : Co.It) : 9 ≤ (Co.leafL x).length := by
  have h : ∀ s, 2 ≤ (Dg.item s).length := fun s => by
    unfold Dg.item
    have := decN_pos s.length
    simp only [List.length_append, List.length_cons]; omega
  unfold Co.leafL
  simp only [Dg.joinL, List.length_append]
  have h1 := h (Co.kindL x.kind)
  have h2 := h x.id
  have h3 := h x.parent
  have h4 := h x.north
  have h5 := h x.south
  omega
theorem proper_num {x : Co.It} (h : Co.properL x = true) : x.number.length ≤ 8 := by
  have e : Co.numL x.number = true := by
    unfold Co.properL at h
    split at h
    · simp only [Bool.and_eq_true] at h; exact h.1.1.1.1
    · split at h
      · simp only [Bool.and_eq_true] at h; exact h.1.1.1
      · cases h
  unfold Co.numL at e
  simp only [Bool.and_eq_true, decide_eq_true_eq] at e
  exact e.1
theorem valid_num {l : List Co.It} (h : Co.validL l = true) : ∀ x ∈ l, x.number.length ≤ 8 := by
  unfold Co.validL at h
  rw [Bool.and_eq_true] at h
  exact fun x hx => proper_num (walk_proper l [] [] h.1 x hx)
theorem leaves_ne {l : List Co.It} {s : List UInt8} (hs : s.length ≤ 8) : ∀ t ∈ Co.leavesL l, t ≠ s := by
  rintro t ht rfl
  unfold Co.leavesL at ht
  split at ht
  · obtain ⟨y, hy, e⟩ := List.mem_map.mp ht
    have := leafL_long y
    rw [e] at this; omega
  · cases ht
theorem path_ne {ls : List (List UInt8)} {i : Nat} {path : List (List UInt8)} {s : List UInt8} (hs : s.length ≤ 8) (hp : Tr.pathL ls i = path) : ∀ t ∈ path, t ≠ s := by
  rintro t ht rfl
  rw [← hp] at ht
  have := isL_len (Tr.pathL_isL _ ls i rfl t ht)
  omega
def CmS (w : World) (bc : Nat) (pc : Obj) (u : Value) (ls : List (List UInt8)) (wr : World) : Prop := Below w.heap.size w wr ∧ wr.heap[bc]? = some pc ∧ HasStrsC wr u ls

set_option maxHeartbeats 16000000 in
set_option maxRecDepth 100000 in
theorem completeLaw_any (l : List Co.It) (v : Value) (w : World) (ht : Tab w) (hv : HasIts w v l) (hl : l.length ≤ 140737488355328) (hcap : ∃ a c, v = .slice a l.length c ∧ l.length ≤ c) (hin : ∀ t ∈ l, ItIn t ∧ ItSz t) :
    Calls Tryz.prog 4 #[.agg #[v]] w fun e w' => e = .returned (.bool true) ∧ Below w.heap.size w w' := by
  have hmm := @run_makeMap Tryz.prog
  obtain ⟨sb, hsb⟩ : ∃ sb, Hid (Co.fewC l 20 = sb) := ⟨_, rfl⟩
  obtain ⟨vb, hvb⟩ : ∃ vb, Hid (Co.validL l = vb) := ⟨_, rfl⟩
  have Hmax : Hid (∀ x ∈ l, ItMax x) := fun x hx => (hin x hx).2
  obtain ⟨va, vc, rfl, hcap⟩ := hcap
  have Hv := Lib.hid hv
  clear hv hin
  go_enter Tryz.func4, Tryz.ntmps4
  have bel := Below.refl w.heap.size w
  have Hbel := Lib.hid bel
  clear bel
  go_wp2_with fail
  have bel := Hbel.out
  clear Hbel
  obtain ⟨w1, hw⟩ : ∃ z, w.alloc (.cells #[.slice va l.length vc] 24) = z := ⟨_, rfl⟩
  have c : Below w.heap.size w w1 := by rw [← hw]; exact (Below.refl _ _).alloc (Nat.le_refl _) _
  have mc : w1.heap[w.heap.size]? = some (.cells #[.slice va l.length vc] 24 (0, 0)) := by rw [← hw]; exact heap_alloc_at _ _
  rw [hw]
  clear hw
  replace bel := below_next bel c
  clear c
  obtain ⟨bc, hb⟩ : ∃ b, w.heap.size = b := ⟨_, rfl⟩
  rw [hb] at mc ⊢
  clear hb
  refine (head44_any _ (ht.below bel (Nat.le_refl _))).mono ?_
  rintro e w2 ⟨rfl, c⟩
  replace bel := below_next bel c
  replace mc := (c.block _ (Array.getElem?_eq_some_iff.1 mc).1).trans mc
  clear c
  have q_mc_0 := cell_of_heap (i := 0) mc
  have Hbel := Lib.hid bel
  have Hmc := Lib.hid mc
  clear bel mc
  go_wp2_with fail
  have bel := Hbel.out
  have mc := Hmc.out
  clear Hbel Hmc
  clear q_mc_0
  refine (small_any l _ _ (Hv.out.below bel (Nat.le_refl _)) (by omega) Hmax.out sb hsb).mono ?_
  rintro e w3 ⟨rfl, c⟩
  replace bel := below_next bel c
  replace mc := (c.block _ (Array.getElem?_eq_some_iff.1 mc).1).trans mc
  clear c
  cases sb
  · skip
    have Hbel := Lib.hid bel
    have Hmc := Lib.hid mc
    clear bel mc
    go_wp2_with fail
    have bel := Hbel.out
    have mc := Hmc.out
    clear Hbel Hmc
    go_ret
    exact ⟨rfl, bel⟩
  · skip
    have Hok := Lib.hid (codeOk2_few hsb.out)
    have hl20 : l.length ≤ 20 := Co.fewC_len hsb.out
    have q_mc_0 := cell_of_heap (i := 0) mc
    have Hbel := Lib.hid bel
    have Hmc := Lib.hid mc
    clear bel mc
    go_wp2_with fail
    have bel := Hbel.out
    have mc := Hmc.out
    clear Hbel Hmc
    clear q_mc_0
    refine (valid_any l _ _ (Hv.out.below bel (Nat.le_refl _)) Hok.out.1 vb hvb).mono ?_
    rintro e w4 ⟨rfl, c⟩
    replace bel := below_next bel c
    replace mc := (c.block _ (Array.getElem?_eq_some_iff.1 mc).1).trans mc
    clear c
    cases vb
    · skip
      have Hbel := Lib.hid bel
      have Hmc := Lib.hid mc
      clear bel mc
      go_wp2_with fail
      have bel := Hbel.out
      have mc := Hmc.out
      clear Hbel Hmc
      go_ret
      exact ⟨rfl, bel⟩
    · skip
      have q_mc_0 := cell_of_heap (i := 0) mc
      have Hbel := Lib.hid bel
      have Hmc := Lib.hid mc
      clear bel mc
      go_wp2_with fail
      have bel := Hbel.out
      have mc := Hmc.out
      clear Hbel Hmc
      clear q_mc_0
      refine (leaves_any l _ _ (ht.below bel (Nat.le_refl _)) (Hv.out.below bel (Nat.le_refl _)) Hok.out).mono ?_
      rintro e w5 ⟨u, rfl, hu, c⟩
      replace bel := below_next bel c
      replace mc := (c.block _ (Array.getElem?_eq_some_iff.1 mc).1).trans mc
      clear c
      have lv := OwnS.has hu (leavesL_len hl20)
      clear hu
      obtain ⟨ua, uc, rfl⟩ := lv.1.shape
      have Hbel := Lib.hid bel
      have Hmc := Lib.hid mc
      have Hlv := Lib.hid lv
      clear bel mc lv
      go_wp2_with fail
      have bel := Hbel.out
      have mc := Hmc.out
      have lv := Hlv.out
      clear Hbel Hmc Hlv
      obtain ⟨root, hroot⟩ : ∃ r, Hid (Tr.rootL (Co.leavesL l) = r) := ⟨_, rfl⟩
      refine (root_any (Co.leavesL l) _ root _ (ht.below bel (Nat.le_refl _)) lv (leavesL_mod Hok.out) hroot).mono ?_
      rintro e w6 ⟨rfl, c⟩
      replace bel := below_next bel c
      replace mc := (c.block _ (Array.getElem?_eq_some_iff.1 mc).1).trans mc
      replace lv := lv.below c (Nat.le_refl _)
      clear c
      have Hln : Hid ((Co.leavesL l).length = Pf.liveN l l.length) := leavesL_liveN hvb.out
      have hll : (Co.leavesL l).length ≤ 20 := Nat.le_trans (leavesL_le l) hl20
      have Hbel := Lib.hid bel
      have Hmc := Lib.hid mc
      have Hlv := Lib.hid lv
      clear bel mc lv
      go_wp2_with fail
      have bel := Hbel.out
      have mc := Hmc.out
      have lv := Hlv.out
      clear Hbel Hmc Hlv
      go_loopw [6, 7] (fun n i wr => ∃ k : Nat, k ≤ l.length ∧ i = .int .i64 (k : Int) ∧ n = .int .i64 (Pf.liveN l k : Int) ∧ CmS w bc (.cells #[.slice va l.length vc] 24 (0, 0)) (.slice ua (Co.leavesL l).length uc) (Co.leavesL l) wr) (fun _ i _ => l.length - (intOf i).toNat)
      case atStart => exact ⟨0, by omega, rfl, rfl, bel, mc, lv⟩
      case round =>
        clear bel mc lv
        obtain ⟨k, hk, rfl, rfl, bel, mc, lv⟩ := hrel
        have hln : Pf.liveN l k ≤ k := Pf.liveN_le l k
        have hkz : (0 : Int) ≤ (k : Int) := by omega
        by_cases hkl : k < l.length
        · skip
          obtain ⟨b, off, rfl, hvb2, hit⟩ := Hv.out.at hkl
          replace hit := hit.below bel hvb2
          have Hmk := make_at Hok.out hvb.out hkl
          have Hck := check_at Hok.out hvb.out hkl
          have Hst := Pf.liveN_step l k hkl
          have Htx : Hid (TxtOk l[k]) := Hok.out.2 _ (List.getElem_mem hkl)
          have Hn8 : Hid ((l[k]).number.length ≤ 8) := valid_num hvb.out _ (List.getElem_mem hkl)
          obtain ⟨x, hx⟩ : ∃ x, l[k] = x := ⟨_, rfl⟩
          rw [hx] at hit Hmk Hck Hst Htx Hn8
          clear hx
          obtain ⟨kind, id, parent, number, north, south, gone⟩ := x
          obtain ⟨f0, f1, f2, f3, f4, f5, f6⟩ := hit
          simp only at f0 f1 f2 f3 f4 f5 f6
          have hmk := Lib.hid Hmk
          have hck := Lib.hid Hck
          have hst := Lib.hid Hst
          clear Hmk Hck Hst
          cases gone
          · skip
            have q_mc_0 := cell_of_heap (i := 0) mc
            have q_mca := cell_of_heap (i := 0) ((heap_alloc_lt wr (.cells #[.int .i64 kind, .string ⟨id.toArray⟩, .string ⟨parent.toArray⟩, .string ⟨number.toArray⟩, .string ⟨north.toArray⟩, .string ⟨south.toArray⟩, .bool false] 26) _ (Array.getElem?_eq_some_iff.1 mc).1).trans mc)
            have Hbel := Lib.hid bel
            have Hmc := Lib.hid mc
            have Hlv := Lib.hid lv
            clear bel mc lv
            go_wp2_with fail
            have bel := Hbel.out
            have mc := Hmc.out
            have lv := Hlv.out
            clear Hbel Hmc Hlv
            clear q_mc_0 q_mca f0 f1 f2 f3 f4 f5 f6
            have hbcw : bc < wr.heap.size := (Array.getElem?_eq_some_iff.1 mc).1
            have hww : w.heap.size ≤ wr.heap.size := bel.size
            obtain ⟨w7, hw⟩ : ∃ z, wr.alloc (.cells #[.int .i64 kind, .string ⟨id.toArray⟩, .string ⟨parent.toArray⟩, .string ⟨number.toArray⟩, .string ⟨north.toArray⟩, .string ⟨south.toArray⟩, .bool false] 26) = z := ⟨_, rfl⟩
            have c : Below wr.heap.size wr w7 := by rw [← hw]; exact (Below.refl _ _).alloc (Nat.le_refl _) _
            have mi : w7.heap[wr.heap.size]? = some (.cells #[.int .i64 kind, .string ⟨id.toArray⟩, .string ⟨parent.toArray⟩, .string ⟨number.toArray⟩, .string ⟨north.toArray⟩, .string ⟨south.toArray⟩, .bool false] 26 (0, 0)) := by rw [← hw]; exact heap_alloc_at _ _
            rw [hw]
            clear hw
            replace bel := below_next bel c
            replace mc := (c.block _ (Array.getElem?_eq_some_iff.1 mc).1).trans mc
            replace lv := lv.below c (Nat.le_refl _)
            clear c
            obtain ⟨bi, hb⟩ : ∃ b, wr.heap.size = b := ⟨_, rfl⟩
            rw [hb] at mi hbcw hww ⊢
            clear hb
            refine (make_any l _ id _ (ht.below bel (Nat.le_refl _)) (Hv.out.below bel (Nat.le_refl _)) ⟨_, _, rfl, hcap⟩ Hok.out).mono ?_
            rintro e w8 ⟨pv, rfl, hp, c⟩
            replace bel := below_next bel c
            replace mc := (c.block _ (Array.getElem?_eq_some_iff.1 mc).1).trans mc
            replace lv := lv.below c (Nat.le_refl _)
            replace mi := (c.block _ (Array.getElem?_eq_some_iff.1 mi).1).trans mi
            clear c
            rw [hmk.out] at hp ⊢
            simp only [Bool.false_eq_true, if_false, prV] at hp ⊢
            have hp2 := hp
            obtain ⟨_, pa, pc, rfl, _⟩ := hp2
            obtain ⟨path, hpath⟩ : ∃ x, Tr.pathL (Co.leavesL l) (Pf.liveN l k) = x := ⟨_, rfl⟩
            rw [hpath] at hp ⊢ hck
            have Hpath := Lib.hid hpath
            clear hpath
            have q_mi_6 := cell_of_heap (i := 6) ((heap_alloc_lt w8 (.cells #[.int .i64 ((Co.leavesL l).length : Int), .int .i64 (Pf.liveN l k : Int), .int .i64 kind, .string ⟨id.toArray⟩, .string ⟨parent.toArray⟩, .string ⟨#[]⟩, .string ⟨north.toArray⟩, .string ⟨south.toArray⟩, .bool false, .slice pa path.length pc] 29) _ (Array.getElem?_eq_some_iff.1 mi).1).trans mi)
            have q_mi_3 := cell_of_heap (i := 3) ((heap_alloc_lt w8 (.cells #[.int .i64 ((Co.leavesL l).length : Int), .int .i64 (Pf.liveN l k : Int), .int .i64 kind, .string ⟨id.toArray⟩, .string ⟨parent.toArray⟩, .string ⟨#[]⟩, .string ⟨north.toArray⟩, .string ⟨south.toArray⟩, .bool false, .slice pa path.length pc] 29) _ (Array.getElem?_eq_some_iff.1 mi).1).trans mi)
            have q_mi_f := free_of_heap (i := 3) ((heap_alloc_lt w8 (.cells #[.int .i64 ((Co.leavesL l).length : Int), .int .i64 (Pf.liveN l k : Int), .int .i64 kind, .string ⟨id.toArray⟩, .string ⟨parent.toArray⟩, .string ⟨#[]⟩, .string ⟨north.toArray⟩, .string ⟨south.toArray⟩, .bool false, .slice pa path.length pc] 29) _ (Array.getElem?_eq_some_iff.1 mi).1).trans mi)
            have hbi : bi < w8.heap.size := (Array.getElem?_eq_some_iff.1 mi).1
            have hbs : (w8.setCell ⟨bi, 3, none⟩ (.string ⟨#[]⟩)).heap.size = w8.heap.size := by simp
            have miS : ((w8.setCell ⟨bi, 3, none⟩ (.string ⟨#[]⟩)).alloc (.cells #[.int .i64 ((Co.leavesL l).length : Int), .int .i64 (Pf.liveN l k : Int), .int .i64 kind, .string ⟨id.toArray⟩, .string ⟨parent.toArray⟩, .string ⟨#[]⟩, .string ⟨north.toArray⟩, .string ⟨south.toArray⟩, .bool false, .slice pa path.length pc] 29)).heap[bi]? = some (.cells #[.int .i64 kind, .string ⟨id.toArray⟩, .string ⟨parent.toArray⟩, .string ⟨#[]⟩, .string ⟨north.toArray⟩, .string ⟨south.toArray⟩, .bool false] 26 (0, 0)) := (heap_alloc_lt (w8.setCell ⟨bi, 3, none⟩ (.string ⟨#[]⟩)) (.cells #[.int .i64 ((Co.leavesL l).length : Int), .int .i64 (Pf.liveN l k : Int), .int .i64 kind, .string ⟨id.toArray⟩, .string ⟨parent.toArray⟩, .string ⟨#[]⟩, .string ⟨north.toArray⟩, .string ⟨south.toArray⟩, .bool false, .slice pa path.length pc] 29) _ (by rw [hbs]; exact hbi)).trans (set7_3 mi)
            have mpS : ((w8.setCell ⟨bi, 3, none⟩ (.string ⟨#[]⟩)).alloc (.cells #[.int .i64 ((Co.leavesL l).length : Int), .int .i64 (Pf.liveN l k : Int), .int .i64 kind, .string ⟨id.toArray⟩, .string ⟨parent.toArray⟩, .string ⟨#[]⟩, .string ⟨north.toArray⟩, .string ⟨south.toArray⟩, .bool false, .slice pa path.length pc] 29)).heap[w8.heap.size]? = some (.cells #[.int .i64 ((Co.leavesL l).length : Int), .int .i64 (Pf.liveN l k : Int), .int .i64 kind, .string ⟨id.toArray⟩, .string ⟨parent.toArray⟩, .string ⟨#[]⟩, .string ⟨north.toArray⟩, .string ⟨south.toArray⟩, .bool false, .slice pa path.length pc] 29 (0, 0)) := by have e := heap_alloc_at (w8.setCell ⟨bi, 3, none⟩ (.string ⟨#[]⟩)) (.cells #[.int .i64 ((Co.leavesL l).length : Int), .int .i64 (Pf.liveN l k : Int), .int .i64 kind, .string ⟨id.toArray⟩, .string ⟨parent.toArray⟩, .string ⟨#[]⟩, .string ⟨north.toArray⟩, .string ⟨south.toArray⟩, .bool false, .slice pa path.length pc] 29); rw [hbs] at e; exact e
            have mcS : ((w8.setCell ⟨bi, 3, none⟩ (.string ⟨#[]⟩)).alloc (.cells #[.int .i64 ((Co.leavesL l).length : Int), .int .i64 (Pf.liveN l k : Int), .int .i64 kind, .string ⟨id.toArray⟩, .string ⟨parent.toArray⟩, .string ⟨#[]⟩, .string ⟨north.toArray⟩, .string ⟨south.toArray⟩, .bool false, .slice pa path.length pc] 29)).heap[bc]? = some (.cells #[.slice (some ⟨b, off, none⟩) l.length vc] 24 (0, 0)) := (heap_alloc_lt (w8.setCell ⟨bi, 3, none⟩ (.string ⟨#[]⟩)) (.cells #[.int .i64 ((Co.leavesL l).length : Int), .int .i64 (Pf.liveN l k : Int), .int .i64 kind, .string ⟨id.toArray⟩, .string ⟨parent.toArray⟩, .string ⟨#[]⟩, .string ⟨north.toArray⟩, .string ⟨south.toArray⟩, .bool false, .slice pa path.length pc] 29) _ (by rw [hbs]; exact (Array.getElem?_eq_some_iff.1 mc).1)).trans ((Below.heap_setCell _ ⟨bi, 3, none⟩ _ _ (show bc ≠ bi by omega)).trans mc)
            have belS : Below w.heap.size w ((w8.setCell ⟨bi, 3, none⟩ (.string ⟨#[]⟩)).alloc (.cells #[.int .i64 ((Co.leavesL l).length : Int), .int .i64 (Pf.liveN l k : Int), .int .i64 kind, .string ⟨id.toArray⟩, .string ⟨parent.toArray⟩, .string ⟨#[]⟩, .string ⟨north.toArray⟩, .string ⟨south.toArray⟩, .bool false, .slice pa path.length pc] 29)) := (bel.setCell (p := ⟨bi, 3, none⟩) (by show w.heap.size ≤ bi; omega) _).alloc (by rw [hbs]; exact bel.size) _
            have c0 := (Below.refl (w8.setCell ⟨bi, 3, none⟩ (.string ⟨#[]⟩)).heap.size (w8.setCell ⟨bi, 3, none⟩ (.string ⟨#[]⟩))).alloc (Nat.le_refl _) (.cells #[.int .i64 ((Co.leavesL l).length : Int), .int .i64 (Pf.liveN l k : Int), .int .i64 kind, .string ⟨id.toArray⟩, .string ⟨parent.toArray⟩, .string ⟨#[]⟩, .string ⟨north.toArray⟩, .string ⟨south.toArray⟩, .bool false, .slice pa path.length pc] 29)
            have lvS : HasStrsC ((w8.setCell ⟨bi, 3, none⟩ (.string ⟨#[]⟩)).alloc (.cells #[.int .i64 ((Co.leavesL l).length : Int), .int .i64 (Pf.liveN l k : Int), .int .i64 kind, .string ⟨id.toArray⟩, .string ⟨parent.toArray⟩, .string ⟨#[]⟩, .string ⟨north.toArray⟩, .string ⟨south.toArray⟩, .bool false, .slice pa path.length pc] 29)) (.slice ua (Co.leavesL l).length uc) (Co.leavesL l) := (lv.setStr (p := ⟨bi, 3, none⟩) (cell_of_heap (i := 3) mi) (leaves_ne Hn8.out)).below c0 (Nat.le_refl _)
            have hpS : HasStrsC ((w8.setCell ⟨bi, 3, none⟩ (.string ⟨#[]⟩)).alloc (.cells #[.int .i64 ((Co.leavesL l).length : Int), .int .i64 (Pf.liveN l k : Int), .int .i64 kind, .string ⟨id.toArray⟩, .string ⟨parent.toArray⟩, .string ⟨#[]⟩, .string ⟨north.toArray⟩, .string ⟨south.toArray⟩, .bool false, .slice pa path.length pc] 29)) (.slice pa path.length pc) path := (hp.setStr (p := ⟨bi, 3, none⟩) (cell_of_heap (i := 3) mi) (path_ne Hn8.out Hpath.out)).below c0 (Nat.le_refl _)
            clear hbs
            have r_0 := cell_of_heap (i := 0) mpS
            have r_1 := cell_of_heap (i := 1) mpS
            have r_2 := cell_of_heap (i := 2) mpS
            have r_3 := cell_of_heap (i := 3) mpS
            have r_4 := cell_of_heap (i := 4) mpS
            have r_5 := cell_of_heap (i := 5) mpS
            have r_6 := cell_of_heap (i := 6) mpS
            have r_7 := cell_of_heap (i := 7) mpS
            have r_8 := cell_of_heap (i := 8) mpS
            have r_9 := cell_of_heap (i := 9) mpS
            have s_0 := cell_of_heap (i := 0) miS
            have s_1 := cell_of_heap (i := 1) miS
            have s_2 := cell_of_heap (i := 2) miS
            have s_3 := cell_of_heap (i := 3) miS
            have s_4 := cell_of_heap (i := 4) miS
            have s_5 := cell_of_heap (i := 5) miS
            have s_6 := cell_of_heap (i := 6) miS
            have HF := Lib.hid (And.intro belS (And.intro mcS (And.intro lvS hpS)))
            clear belS mcS lvS hpS bel mc lv hp c0 mi miS mpS
            go_wp2_with fail
            refine (checkP_any root ⟨(Co.leavesL l).length, Pf.liveN l k, ⟨kind, id, parent, [], north, south, false⟩, path⟩ _ true _ (ht.below HF.out.1 (Nat.le_refl _)) HF.out.2.2.2 (prOk_at Htx.out hll (by omega) Hpath.out) (by rw [← hroot.out]; first | exact hck.out rfl | exact hck.out trivial)).mono ?_
            rintro e w9 ⟨rfl, c⟩
            have HG := Lib.hid (And.intro (below_next HF.out.1 c) (And.intro ((c.block _ (Array.getElem?_eq_some_iff.1 HF.out.2.1).1).trans HF.out.2.1) (HF.out.2.2.1.below c (Nat.le_refl _))))
            clear c r_0 r_1 r_2 r_3 r_4 r_5 r_6 r_7 r_8 r_9 s_0 s_1 s_2 s_3 s_4 s_5 s_6 q_mi_6 q_mi_3 q_mi_f
            go_wp2_with fail
            go_roundw
            case rel => exact ⟨k + 1, by omega, by go_num, by rw [hst.out]; go_num, HG.out.1, HG.out.2.1, HG.out.2.2⟩
            case measure => simp [intOf]; omega
          · skip
            have q_mc_0 := cell_of_heap (i := 0) mc
            have q_mca := cell_of_heap (i := 0) ((heap_alloc_lt wr (.cells #[.int .i64 kind, .string ⟨id.toArray⟩, .string ⟨parent.toArray⟩, .string ⟨number.toArray⟩, .string ⟨north.toArray⟩, .string ⟨south.toArray⟩, .bool true] 26) _ (Array.getElem?_eq_some_iff.1 mc).1).trans mc)
            have Hbel := Lib.hid bel
            have Hmc := Lib.hid mc
            have Hlv := Lib.hid lv
            clear bel mc lv
            go_wp2_with fail
            have bel := Hbel.out
            have mc := Hmc.out
            have lv := Hlv.out
            clear Hbel Hmc Hlv
            clear q_mc_0 q_mca f0 f1 f2 f3 f4 f5 f6
            have hbcw : bc < wr.heap.size := (Array.getElem?_eq_some_iff.1 mc).1
            have hww : w.heap.size ≤ wr.heap.size := bel.size
            obtain ⟨w7, hw⟩ : ∃ z, wr.alloc (.cells #[.int .i64 kind, .string ⟨id.toArray⟩, .string ⟨parent.toArray⟩, .string ⟨number.toArray⟩, .string ⟨north.toArray⟩, .string ⟨south.toArray⟩, .bool true] 26) = z := ⟨_, rfl⟩
            have c : Below wr.heap.size wr w7 := by rw [← hw]; exact (Below.refl _ _).alloc (Nat.le_refl _) _
            have mi : w7.heap[wr.heap.size]? = some (.cells #[.int .i64 kind, .string ⟨id.toArray⟩, .string ⟨parent.toArray⟩, .string ⟨number.toArray⟩, .string ⟨north.toArray⟩, .string ⟨south.toArray⟩, .bool true] 26 (0, 0)) := by rw [← hw]; exact heap_alloc_at _ _
            rw [hw]
            clear hw
            replace bel := below_next bel c
            replace mc := (c.block _ (Array.getElem?_eq_some_iff.1 mc).1).trans mc
            replace lv := lv.below c (Nat.le_refl _)
            clear c
            obtain ⟨bi, hb⟩ : ∃ b, wr.heap.size = b := ⟨_, rfl⟩
            rw [hb] at mi hbcw hww ⊢
            clear hb
            refine (make_any l _ id _ (ht.below bel (Nat.le_refl _)) (Hv.out.below bel (Nat.le_refl _)) ⟨_, _, rfl, hcap⟩ Hok.out).mono ?_
            rintro e w8 ⟨pv, rfl, hp, c⟩
            replace bel := below_next bel c
            replace mc := (c.block _ (Array.getElem?_eq_some_iff.1 mc).1).trans mc
            replace lv := lv.below c (Nat.le_refl _)
            replace mi := (c.block _ (Array.getElem?_eq_some_iff.1 mi).1).trans mi
            clear c
            rw [hmk.out] at hp ⊢
            simp only [if_pos, if_true, prV, Pf.zeroPr, Pf.zeroIt] at hp ⊢
            obtain ⟨_, xa, xc, rfl, _⟩ := hp
            have q_mi_6 := cell_of_heap (i := 6) ((heap_alloc_lt w8 (.cells #[.int .i64 0, .int .i64 0, .int .i64 0, .string ⟨#[]⟩, .string ⟨#[]⟩, .string ⟨#[]⟩, .string ⟨#[]⟩, .string ⟨#[]⟩, .bool false, .slice xa 0 xc] 29) _ (Array.getElem?_eq_some_iff.1 mi).1).trans mi)
            have Hbel := Lib.hid bel
            have Hmc := Lib.hid mc
            have Hlv := Lib.hid lv
            have Hmi := Lib.hid mi
            clear bel mc lv mi
            go_wp2_with fail
            have bel := Hbel.out
            have mc := Hmc.out
            have lv := Hlv.out
            have mi := Hmi.out
            clear Hbel Hmc Hlv Hmi
            clear q_mi_6
            have bel2 := bel.alloc bel.size (.cells #[.int .i64 0, .int .i64 0, .int .i64 0, .string ⟨#[]⟩, .string ⟨#[]⟩, .string ⟨#[]⟩, .string ⟨#[]⟩, .string ⟨#[]⟩, .bool false, .slice xa 0 xc] 29)
            have mc2 := (heap_alloc_lt w8 (.cells #[.int .i64 0, .int .i64 0, .int .i64 0, .string ⟨#[]⟩, .string ⟨#[]⟩, .string ⟨#[]⟩, .string ⟨#[]⟩, .string ⟨#[]⟩, .bool false, .slice xa 0 xc] 29) _ (Array.getElem?_eq_some_iff.1 mc).1).trans mc
            have lv2 := lv.below ((Below.refl w8.heap.size w8).alloc (Nat.le_refl _) (.cells #[.int .i64 0, .int .i64 0, .int .i64 0, .string ⟨#[]⟩, .string ⟨#[]⟩, .string ⟨#[]⟩, .string ⟨#[]⟩, .string ⟨#[]⟩, .bool false, .slice xa 0 xc] 29)) (Nat.le_refl _)
            have HF := Lib.hid (And.intro bel2 (And.intro mc2 lv2))
            clear bel2 mc2 lv2 bel mc lv mi
            go_roundw
            case rel => exact ⟨k + 1, by omega, by go_num, by rw [hst.out]; rfl, HF.out.1, HF.out.2.1, HF.out.2.2⟩
            case measure => simp [intOf]; omega
        · skip
          obtain rfl : k = l.length := by omega
          rw [← Hln.out]
          have q_mc_0 := cell_of_heap (i := 0) mc
          have Hbel := Lib.hid bel
          have Hmc := Lib.hid mc
          have Hlv := Lib.hid lv
          clear bel mc lv
          go_wp2_with fail
          have bel := Hbel.out
          have mc := Hmc.out
          have lv := Hlv.out
          clear Hbel Hmc Hlv
          clear q_mc_0
          go_ret
          exact ⟨rfl, bel⟩
end Go.Proofs.YteoclpjbeadkpaaGreatDoor
/- Append of a list of texts to a row of the call's own, in a region that draws its order and elsewhere. -/
namespace Go.Proofs.YteoclpjbeadkpaaGreatDoor
open Go.RowKit

theorem run_appT {B : Nat} {w : World} {v u : Value} {ss tt : List (List UInt8)} (hown : OwnS B w v ss) (hu : HasStrsC w u tt) (htt : 0 < tt.length) (hn : ss.length + tt.length ≤ 8796093022207) (hB : B ≤ w.heap.size) :
    ∃ g c w', (Builtin.append_ #[27, 27] 27 #[v, u]).run Tryz.prog w = .ok (.slice (some ⟨g, 0, none⟩) (ss.length + tt.length) c) w' ∧ OwnS B w' (.slice (some ⟨g, 0, none⟩) (ss.length + tt.length) c) (ss ++ tt) ∧ Below B w w' := by
  obtain ⟨i0, hi, hz0, hz1, hz2⟩ := info_parts info_str
  obtain ⟨b, off, c, rfl, hc, hm, hlt, hcell⟩ := hu.parts htt
  obtain ⟨v', w', hrun, hown', hgrow, hnil⟩ := run_append_own (P := Tryz.prog) w B 27 27 9 i0 (.string ⟨#[]⟩) 1 16 Tryz.underlying27 hi hz0 hz1 hz2 rfl (by decide) v ss.length _ hown ⟨b, off, none⟩ tt.length c (tt.map fun s => Value.string ⟨s.toArray⟩) (by simp) (by
      intro j x hj
      rw [List.getElem?_map] at hj
      obtain ⟨s, hs, rfl⟩ := Option.map_eq_some_iff.1 hj
      have hjl : j < tt.length := (List.getElem?_eq_some_iff.1 hs).1
      have := hcell j hjl
      rw [List.getD_eq_getElem?_getD, hs] at this
      rw [Go.WideShapes.add_plain]
      exact this) (by intro x hx; simp at hx; obtain ⟨_, _, rfl⟩ := hx; rfl) (by unfold maxLen; omega) (by omega) hB
  have hne : v' ≠ .slice .none 0 0 := fun e => by have := hnil.mp e; omega
  obtain ⟨g, c', rfl, hg⟩ := own_shape hown' hne
  refine ⟨g, c', w', hrun, ?_, (Below.refl B w).grown hgrow hB (fun k e => ?_)⟩
  · unfold OwnS
    rw [List.map_append, List.length_append]
    exact hown'
  · rcases hown.2 with ⟨rfl, _⟩ | ⟨g0, _, _, rfl, hg0, _⟩
    · cases e
    · cases e; exact hg0
theorem wp_appT {o : Oper} {a : Act} {K : Act → World → Prop} {Q : Exit → Act → World → Prop} {w : World} (s x : Operand)
    (ho : o.op = .call { callee := .builtin .append, args := #[s, x], argTypes := #[27, 27] }) (hty : o.type = 27) {B : Nat} {v u : Value} {ss tt : List (List UInt8)} (hs : a.eval s = v) (hx : a.eval x = u)
    (hown : OwnS B w v ss) (hu : HasStrsC w u tt) (htt : 0 < tt.length) (hn : ss.length + tt.length ≤ 8796093022207) (hB : B ≤ w.heap.size)
    (h : ∀ w' g c, OwnS B w' (.slice (some ⟨g, 0, none⟩) (ss.length + tt.length) c) (ss ++ tt) → Below B w w' → K (a.put o.dst (.slice (some ⟨g, 0, none⟩) (ss.length + tt.length) c)) w') : o.wp Tryz.prog a w K Q := by
  obtain ⟨g, c, w', hrun, h1, h2⟩ := run_appT hown hu htt hn hB
  unfold Oper.wp execOp
  simp only [ho, hty, resolve, invoke, builtin, Sem.run_bind, Sem.run_pure, Result.andThen_ok, List.map_toArray, List.map_cons, List.map_nil, hs, hx, hrun]
  exact h w' g c h1 h2
theorem step_appT {ops : Array Oper} {o : Oper} {a : Act} {K : Act → World → Prop} {Q : Exit → Act → World → Prop} {E : Prop} {w : World} (hw : Region.wanted o (yielded ops a.tmps) = true) (s x : Operand)
    (ho : o.op = .call { callee := .builtin .append, args := #[s, x], argTypes := #[27, 27] }) (hty : o.type = 27) {B : Nat} {v u : Value} {ss tt : List (List UInt8)} (hs : a.eval s = v) (hx : a.eval x = u)
    (hown : OwnS B w v ss) (hu : HasStrsC w u tt) (htt : 0 < tt.length) (hn : ss.length + tt.length ≤ 8796093022207) (hB : B ≤ w.heap.size)
    (h : ∀ w' g c, OwnS B w' (.slice (some ⟨g, 0, none⟩) (ss.length + tt.length) c) (ss ++ tt) → Below B w w' → K (a.put o.dst (.slice (some ⟨g, 0, none⟩) (ss.length + tt.length) c)) w') :
    if Region.wanted o (yielded ops a.tmps) = true then Oper.wp Tryz.prog o a w K Q else E := by
  rw [if_pos hw]
  exact wp_appT s x ho hty hs hx hown hu htt hn hB h
theorem wpl_appT {ops : Array Oper} {rest : List Oper} {o : Oper} {a : Act} {Q : Exit → Act → World → Prop} {w : World} (hgd : o.guard = none) (s x : Operand)
    (ho : o.op = .call { callee := .builtin .append, args := #[s, x], argTypes := #[27, 27] }) (hty : o.type = 27) {B : Nat} {v u : Value} {ss tt : List (List UInt8)} (hs : a.eval s = v) (hx : a.eval x = u)
    (hown : OwnS B w v ss) (hu : HasStrsC w u tt) (htt : 0 < tt.length) (hn : ss.length + tt.length ≤ 8796093022207) (hB : B ≤ w.heap.size)
    (h : ∀ w' g c, OwnS B w' (.slice (some ⟨g, 0, none⟩) (ss.length + tt.length) c) (ss ++ tt) → Below B w w' → wpList Tryz.prog ops Q rest (a.put o.dst (.slice (some ⟨g, 0, none⟩) (ss.length + tt.length) c)) w') : wpList Tryz.prog ops Q (o :: rest) a w :=
  wpList_plain hgd fun _ hK => wp_appT s x ho hty hs hx hown hu htt hn hB fun w' g c h1 h2 => hK _ _ (h w' g c h1 h2)
/-- One text that was just laid. -/
theorem hasOne (w : World) (t : List UInt8) (c : Nat) (hc : 1 ≤ c) : HasStrsC (w.alloc (.cells #[.string ⟨t.toArray⟩] 9)) (.slice (some ⟨w.heap.size, 0, none⟩) 1 c) [t] := by
  refine ⟨Or.inr ⟨by simp, w.heap.size, 0, c, rfl, by simp, fun j hj => ?_⟩, _, c, rfl, hc, by simp⟩
  match j, hj with
  | 0, _ => exact cell_of_heap (heap_alloc_at w _)
  | (n + 1), h => exact absurd h (by show ¬ (n + 1 < 1); omega)
end Go.Proofs.YteoclpjbeadkpaaGreatDoor
/- WALKS of the references: Joined of a new list, 18's Leaf, 02's Texts. -/
namespace Go.Proofs.YteoclpjbeadkpaaGreatDoor.Tr
theorem textsL_len (n : Nat) : ∀ ls : List (List UInt8), ls.length = n → 1 ≤ n → (textsL ls).length + 1 = 2 * n := by
  induction n using Nat.strongRecOn with
  | ind n ih =>
    intro ls hn h1
    by_cases h : n ≤ 1
    · match ls, hn with
      | [x], hn => simp only [List.length_cons, List.length_nil] at hn; rw [textsL_one]; simp; omega
      | x :: y :: r, hn => simp only [List.length_cons] at hn; omega
      | [], hn => simp only [List.length_nil] at hn; omega
    · have hb := half_bounds (n := n) (by omega)
      rw [textsL_two ls (by omega), hn, List.length_append, List.length_append]
      have a := ih (half n) hb.2 (ls.take (half n)) (by rw [List.length_take]; omega) (by omega)
      have b := ih (n - half n) (by omega) (ls.drop (half n)) (by rw [List.length_drop]; omega) (by omega)
      simp only [List.length_cons, List.length_nil]; omega
theorem textsL_pos (ls : List (List UInt8)) : 0 < (textsL ls).length := by
  by_cases h : ls.length = 0
  · obtain rfl : ls = [] := List.length_eq_zero_iff.1 h
    rw [textsL_nil]; simp
  · have := textsL_len ls.length ls rfl (by omega)
    omega
theorem textsL_le (ls : List (List UInt8)) : (textsL ls).length ≤ 2 * ls.length + 1 := by
  by_cases h : ls.length = 0
  · obtain rfl : ls = [] := List.length_eq_zero_iff.1 h
    rw [textsL_nil]; simp
  · have := textsL_len ls.length ls rfl (by omega)
    omega
end Go.Proofs.YteoclpjbeadkpaaGreatDoor.Tr
namespace Go.Proofs.YteoclpjbeadkpaaGreatDoor
open Go.RowKit

theorem ne_low {n : Nat} {A : World} {v : Value} {ss : List (List UInt8)} (h : OwnS n A v ss) {g : Nat} (hg : g < n) : some g ≠ v.ownBlock := by
  rcases h.2 with ⟨rfl, _⟩ | ⟨g0, _, _, rfl, hB, _⟩
  · simp [Value.ownBlock]
  · intro e
    have : g = g0 := by simpa [Value.ownBlock] using e
    omega
theorem ne_high {n : Nat} {A : World} {v : Value} {ss : List (List UInt8)} (h : OwnS n A v ss) {g : Nat} (hg : A.heap.size ≤ g) : some g ≠ v.ownBlock := by
  rcases h.2 with ⟨rfl, _⟩ | ⟨g0, _, _, rfl, _, hh, _⟩
  · simp [Value.ownBlock]
  · intro e
    have h1 : g = g0 := by simpa [Value.ownBlock] using e
    have h2 := (Array.getElem?_eq_some_iff.1 hh).1
    omega
theorem HasStrsC.keptRow {w w' : World} {g n c : Nat} {ss : List (List UInt8)} {row : Option Nat} (h : HasStrsC w (.slice (some ⟨g, 0, none⟩) n c) ss) (hg : w.grownBy w' row) (hne : some g ≠ row) : HasStrsC w' (.slice (some ⟨g, 0, none⟩) n c) ss := by
  refine ⟨?_, h.2⟩
  rcases h.1 with h | ⟨h0, b, off, c, e, hlt, hcell⟩
  · exact Or.inl h
  · cases e
    exact Or.inr ⟨h0, g, 0, c, rfl, Nat.lt_of_lt_of_le hlt hg.size, fun j hj => (cell_same (hg.block g hlt hne) _).trans (hcell j hj)⟩
theorem ownS_base {B B' : Nat} {w : World} {v : Value} {ss : List (List UInt8)} (h : OwnS B w v ss) (hb : B' ≤ B) : OwnS B' w v ss := Joins.ownsRow_le h hb
theorem belowB {B n : Nat} {w a b : World} (h : Below n w a) (k : Below B a b) (hB : n ≤ B) : Below n w b := h.trans (k.mono hB)
theorem ownS_new (W : World) (t : List UInt8) (B : Nat) (hB : B ≤ W.heap.size) : OwnS B (W.alloc (.cells #[.string ⟨t.toArray⟩] 9)) (.slice (some ⟨W.heap.size, 0, none⟩) 1 1) [t] :=
  ⟨rfl, Or.inr ⟨W.heap.size, 1, #[.string ⟨t.toArray⟩], rfl, hB, heap_alloc_at W _, Nat.le_refl _, by unfold maxLen; omega, rfl, rfl⟩⟩
theorem below_al {w a : World} (h : Below w.heap.size w a) (o : Obj) : Below w.heap.size w (a.alloc o) := h.alloc h.size o
theorem run_appU {B : Nat} {w : World} {v u : Value} {ss tt : List (List UInt8)} (hown : OwnS B w v ss) (hu : HasStrsC w u tt) (htt : 0 < tt.length) (hn : ss.length + tt.length ≤ 8796093022207) (hB : B ≤ w.heap.size) :
    ∃ g c w', (Builtin.append_ #[27, 27] 27 #[v, u]).run Tryz.prog w = .ok (.slice (some ⟨g, 0, none⟩) (ss.length + tt.length) c) w' ∧ OwnS B w' (.slice (some ⟨g, 0, none⟩) (ss.length + tt.length) c) (ss ++ tt) ∧ Below B w w' ∧ w.grownBy w' v.ownBlock := by
  obtain ⟨i0, hi, hz0, hz1, hz2⟩ := info_parts info_str
  obtain ⟨b, off, c, rfl, hc, hm, hlt, hcell⟩ := hu.parts htt
  obtain ⟨v', w', hrun, hown', hgrow, hnil⟩ := run_append_own (P := Tryz.prog) w B 27 27 9 i0 (.string ⟨#[]⟩) 1 16 Tryz.underlying27 hi hz0 hz1 hz2 rfl (by decide) v ss.length _ hown ⟨b, off, none⟩ tt.length c (tt.map fun s => Value.string ⟨s.toArray⟩) (by simp) (by
      intro j x hj
      rw [List.getElem?_map] at hj
      obtain ⟨s, hs, rfl⟩ := Option.map_eq_some_iff.1 hj
      have hjl : j < tt.length := (List.getElem?_eq_some_iff.1 hs).1
      have := hcell j hjl
      rw [List.getD_eq_getElem?_getD, hs] at this
      rw [Go.WideShapes.add_plain]
      exact this) (by intro x hx; simp at hx; obtain ⟨_, _, rfl⟩ := hx; rfl) (by unfold maxLen; omega) (by omega) hB
  have hne : v' ≠ .slice .none 0 0 := fun e => by have := hnil.mp e; omega
  obtain ⟨g, c', rfl, hg⟩ := own_shape hown' hne
  refine ⟨g, c', w', hrun, ?_, (Below.refl B w).grown hgrow hB (fun k e => ?_), hgrow⟩
  · unfold OwnS
    rw [List.map_append, List.length_append]
    exact hown'
  · rcases hown.2 with ⟨rfl, _⟩ | ⟨g0, _, _, rfl, hg0, _⟩
    · cases e
    · cases e; exact hg0
theorem wp_runT {o : Oper} {a : Act} {K : Act → World → Prop} {Q : Exit → Act → World → Prop} {w w' : World} {s x : Operand} {v u r : Value}
    (ho : o.op = .call { callee := .builtin .append, args := #[s, x], argTypes := #[27, 27] }) (hty : o.type = 27) (hs : a.eval s = v) (hx : a.eval x = u)
    (hrun : (Builtin.append_ #[27, 27] 27 #[v, u]).run Tryz.prog w = .ok r w') (h : K (a.put o.dst r) w') : o.wp Tryz.prog a w K Q := by
  unfold Oper.wp execOp
  simp only [ho, hty, resolve, invoke, builtin, Sem.run_bind, Sem.run_pure, Result.andThen_ok, List.map_toArray, List.map_cons, List.map_nil, hs, hx, hrun]
  exact h

/-- pandectref01.Joined of a slice that was just made. -/
theorem rjoinNew {w W : World} (ss : List (List UInt8)) (y : List UInt8) (b : Below w.heap.size w W) (h0 : 0 < ss.length) (hJ : capL ss ≤ 140737488355328) (g : Hid (Dg.joinL ss = y)) :
    Calls Tryz.prog 70 #[.slice (some ⟨W.heap.size, 0, none⟩) ss.length ss.length] (W.alloc (.cells (ss.map fun s => Value.string ⟨s.toArray⟩).toArray 9)) fun e w' => e = .returned (.string ⟨y.toArray⟩) ∧ Below w.heap.size w w' := by
  have b1 : Below w.heap.size w (W.alloc (.cells (ss.map fun s => Value.string ⟨s.toArray⟩).toArray 9)) := below_next b ((Below.refl _ _).alloc (Nat.le_refl _) _)
  have h := rjoined_any ss _ _ (hasStrs_alloc W ss ss.length h0) hJ
  rw [g.out] at h
  refine h.mono ?_
  rintro e w' ⟨rfl, c⟩
  exact ⟨rfl, below_next b1 c⟩

set_option maxHeartbeats 1000000 in
set_option maxRecDepth 100000 in
theorem rleaf18_any (x : Co.It) (y : List UInt8) (w : World) (hok : TxtOk x) (hy : Hid (Co.leafL x = y)) :
    Calls Tryz.prog 37 #[itV x] w fun e w' => e = .returned (.string ⟨y.toArray⟩) ∧ Below w.heap.size w w' := by
  obtain ⟨kind, id, parent, number, north, south, gone⟩ := x
  obtain ⟨h1, h2, h3, h4⟩ := hok
  unfold itV
  unfold Co.leafL at hy
  simp only at hy h1 h2 h3 h4 ⊢
  have B1 : Below w.heap.size w (w.alloc (.cells #[.int .i64 kind, .string ⟨id.toArray⟩, .string ⟨parent.toArray⟩, .string ⟨number.toArray⟩, .string ⟨north.toArray⟩, .string ⟨south.toArray⟩, .bool gone] 26)) := (Below.refl _ w).alloc (Nat.le_refl _) _
  by_cases hk : kind = 1
  · have hkb : (kind == 1) = true := by rw [beq_iff_eq]; exact hk
    rw [show Co.kindL kind = [100] from if_pos hk] at hy
    clear hk
    have C := Lib.hid (rjoinNew [[100], id, parent, north, south] y B1 (by simp) (by simp only [capL, List.length_cons, List.length_nil]; omega) hy)
    clear B1
    go_enter Tryz.func37, Tryz.ntmps37
    go_wp2_with fail
    rw [World.size_alloc] at C
    refine C.out.mono ?_
    rintro e w1 ⟨rfl, c⟩
    have Hc := Lib.hid c
    clear c
    go_wp2_with fail
    go_ret
    exact ⟨rfl, Hc.out⟩
  · have hkb : (kind == 1) = false := by simpa using hk
    rw [show Co.kindL kind = [97] from if_neg hk] at hy
    clear hk
    have C := Lib.hid (rjoinNew [[97], id, parent, north, south] y B1 (by simp) (by simp only [capL, List.length_cons, List.length_nil]; omega) hy)
    clear B1
    go_enter Tryz.func37, Tryz.ntmps37
    go_wp2_with fail
    rw [World.size_alloc] at C
    refine C.out.mono ?_
    rintro e w1 ⟨rfl, c⟩
    have Hc := Lib.hid c
    clear c
    go_wp2_with fail
    go_ret
    exact ⟨rfl, Hc.out⟩

set_option maxHeartbeats 4000000 in
set_option maxRecDepth 100000 in
theorem rtexts_rec : ∀ (n : Nat) (ls : List (List UInt8)) (v : Value) (w : World), ls.length = n → n ≤ 1000000 → HasStrsC w v ls → Mod ls →
    Calls Tryz.prog 35 #[v] w fun e w' => ∃ u, e = .returned u ∧ OwnS w.heap.size w' u (Tr.textsL ls) ∧ Below w.heap.size w w' := by
  intro n
  induction n using Nat.strongRecOn with
  | _ n ih =>
    intro ls v w hn hN hv hm
    match hls : ls with
    | [] =>
      obtain ⟨_, a, c, rfl, _, _⟩ := hv
      obtain ⟨y, hy⟩ : ∃ y, Hid (Dg.joinL [Tr.tagEmpty] = y) := ⟨_, rfl⟩
      have C := Lib.hid (rjoinNew [Tr.tagEmpty] y (Below.refl _ w) (by simp) (by decide) hy)
      rw [Tr.textsL_nil, show Tr.emptyT = y from hy.out]
      go_enter Tryz.func35, Tryz.ntmps35
      go_wp2_with fail
      refine C.out.mono ?_
      rintro e w1 ⟨rfl, c⟩
      have Hc := Lib.hid c
      clear c
      go_wp2_with fail
      go_ret
      exact ⟨_, rfl, ownS_new w1 y _ Hc.out.size, Hc.out.alloc Hc.out.size _⟩
    | [x] =>
      obtain ⟨b, off, c, rfl, hc, hmx, hb, hcell⟩ := hv.parts (by simp)
      have hx : x.length ≤ 35184372088832 := hm x (by simp)
      have c0 := hcell 0 (by simp)
      rw [Nat.add_zero] at c0
      obtain ⟨y, hy⟩ : ∃ y, Hid (Dg.joinL [Tr.tagLeaf, x] = y) := ⟨_, rfl⟩
      have C := Lib.hid (rjoinNew [Tr.tagLeaf, x] y (Below.refl _ w) (by simp) (by have e : Tr.tagLeaf.length = 4 := rfl; simp only [capL]; omega) hy)
      rw [Tr.textsL_one, show Tr.leafT x = y from hy.out]
      clear hcell
      go_enter Tryz.func35, Tryz.ntmps35
      go_wp2_with fail
      refine C.out.mono ?_
      rintro e w1 ⟨rfl, c⟩
      have Hc := Lib.hid c
      clear c
      go_wp2_with fail
      go_ret
      exact ⟨_, rfl, ownS_new w1 y _ Hc.out.size, Hc.out.alloc Hc.out.size _⟩
    | x :: y :: r =>
      rw [← hls] at hn hv hm ⊢
      have h2 : 2 ≤ ls.length := by rw [hls]; simp
      clear hls
      obtain ⟨b, off, c, rfl, hc, hmx, hbl, hcell⟩ := hv.parts (by omega)
      have hk := Tr.half_bounds (n := ls.length) (by omega)
      have HH := rhalf_any ls.length (by omega) (by omega)
      have h3 := Tr.textsL_two ls h2
      generalize Tr.half ls.length = k at hk HH h3
      have h4 := hasStrsC_take k (by omega) hc hmx hbl hcell
      have h5 := hasStrsC_drop k (by omega) hc hmx hbl hcell
      have e1 : (ls.take k).length = k := by rw [List.length_take]; omega
      have e2 : (ls.drop k).length = ls.length - k := by rw [List.length_drop]
      have l1 := Tr.textsL_le (ls.take k)
      have l2 := Tr.textsL_le (ls.drop k)
      have p2 := Tr.textsL_pos (ls.drop k)
      rw [e1] at l1
      rw [e2] at l2
      have R1 := Lib.hid (fun W (bW : Below w.heap.size w W) => rroot_rec k (ls.take k) _ W e1 (h4.below bW (Nat.le_refl _)) (hm.take k))
      have R2 := Lib.hid (fun W (bW : Below w.heap.size w W) => rroot_rec (ls.length - k) (ls.drop k) _ W e2 (h5.below bW (Nat.le_refl _)) (hm.drop k))
      have C1 : Hid (∀ W, Below w.heap.size w W → Calls Tryz.prog 35 #[.slice (some ⟨b, off, none⟩) k c] W fun e w' => ∃ u, e = .returned u ∧ OwnS W.heap.size w' u (Tr.textsL (ls.take k)) ∧ w.heap.size ≤ W.heap.size ∧ Below W.heap.size W w') := fun W bW => (ih k (by omega) (ls.take k) _ W e1 (by omega) (h4.below bW (Nat.le_refl _)) (hm.take k)).mono fun e w' ⟨u, h1, h2, h3⟩ => ⟨u, h1, h2, bW.size, h3⟩
      have C2 : Hid (∀ W, Below w.heap.size w W → Calls Tryz.prog 35 #[.slice (some ⟨b, off + k, none⟩) (ls.length - k) (c - k)] W fun e w' => ∃ u, e = .returned u ∧ OwnS W.heap.size w' u (Tr.textsL (ls.drop k)) ∧ w.heap.size ≤ W.heap.size ∧ Below W.heap.size W w') := fun W bW => (ih (ls.length - k) (by omega) (ls.drop k) _ W e2 (by omega) (h5.below bW (Nat.le_refl _)) (hm.drop k)).mono fun e w' ⟨u, h1, h2, h3⟩ => ⟨u, h1, h2, bW.size, h3⟩
      have r1l : (Tr.rootL (ls.take k)).length = 16 := rootL_length _
      have r2l : (Tr.rootL (ls.drop k)).length = 16 := rootL_length _
      have HH := Lib.hid HH
      clear h4 h5 hcell hv ih e1 e2
      generalize Tr.rootL (ls.take k) = r1 at R1 h3 r1l
      generalize Tr.rootL (ls.drop k) = r2 at R2 h3 r2l
      generalize Tr.textsL (ls.take k) = t1 at C1 h3 l1
      generalize Tr.textsL (ls.drop k) = t2 at C2 h3 l2 p2
      obtain ⟨own, hown⟩ : ∃ y, Hid (Dg.joinL [Tr.tagNode, r1, r2] = y) := ⟨_, rfl⟩
      have CJ : Hid (∀ W, Calls Tryz.prog 70 #[.slice (some ⟨W.heap.size, 0, none⟩) 3 3] (W.alloc (.cells #[.string ⟨#[110, 111, 100, 101]⟩, .string ⟨r1.toArray⟩, .string ⟨r2.toArray⟩] 9)) fun e w' => e = .returned (.string ⟨own.toArray⟩) ∧ Below W.heap.size W w') := fun W => rjoinNew [Tr.tagNode, r1, r2] own (Below.refl _ W) (by simp) (by have e : Tr.tagNode.length = 4 := rfl; simp only [capL]; omega) hown
      have hrT : Hid (t1 ++ t2 ++ [own] = Tr.textsL ls) := by unfold Hid; rw [h3, ← hown.out]; rfl
      clear h3 r1l r2l hown
      generalize Tr.textsL ls = tt at hrT ⊢
      generalize ls.length = m at *
      subst hn
      go_enter Tryz.func35, Tryz.ntmps35
      go_wp2_with fail
      refine (HH.out _).mono ?_
      rintro e w1 ⟨rfl, rfl⟩
      clear HH
      go_wp2_with fail
      have q1 := slc_to b off m c k (by omega)
      have q2 := slc_from b off m c k (by omega) hc
      have bS : Below w.heap.size w w := Below.refl _ _
      go_region_held3 (fun W => Below w.heap.size w W) (first | exact bS | exact below_dr bS | exact below_next (below_next (below_next (below_dr bS) hb1) hb2) hb3 | exact below_al (below_next (below_next (below_dr bS) hb1) hb2) _ | exact below_next (below_next (below_dr bS) hb1) hb2 | exact below_next (below_dr bS) hb1) (first | (go_at_call 72; with_reducible refine (R1.out _ (by assumption)).mono ?_; rintro e v1 ⟨rfl, hb1⟩) | (go_at_call 72; with_reducible refine (R2.out _ (by assumption)).mono ?_; rintro e v2 ⟨rfl, hb2⟩) | (go_at_call 70; with_reducible refine (CJ.out _).mono ?_; rintro e X ⟨rfl, hb3⟩))
      have bX := below_next (below_next (below_next (below_dr bS) hb1) hb2) hb3
      clear hb1 hb2 hb3
      clear bS R1 R2 CJ
      go_wp2_with fail
      have hmx : Tryz.prog.follows .mixedOrders = true := by kernel_rfl
      refine wp_region_any hmx (wpAny_of_held (S := fun Y => Below w.heap.size w Y) _ _ _ _ ?_)
      show wpAnyH _ _ _ _ _ _ _ _ X.drew
      have hb : Below w.heap.size w X.drew := below_dr bX
      obtain ⟨Xd, hXd⟩ : ∃ z, X.drew = z := ⟨_, rfl⟩
      rw [hXd] at hb ⊢
      clear hXd bX
      have HS := Lib.hid hb
      refine wpAnyH_take (i := 0) (oi := { dst := some 33, op := Go.Op.move (Go.Operand.tmp 0), type := 27, pos := "ref.go:195", after := #[], guard := none }) (v := .slice (some ⟨b, off, none⟩) m c) rfl (by kernel_rfl) (by kernel_rfl) (by kernel_rfl) (fun _ _ _ h => h) (Or.inl ⟨by rfl, fun w' _ => by go_simp⟩) HS.out ?_
      simp only [Act.put, List.setIfInBounds_toArray, List.set_cons_zero, List.set_cons_succ]
      refine wpAnyH_take (i := 1) (oi := { dst := some 34, op := Go.Op.move (Go.Operand.tmp 4), type := 3, pos := "ref.go:195", after := #[], guard := none }) (v := .int .i64 (k : Int)) rfl (by kernel_rfl) (by kernel_rfl) (by kernel_rfl) (fun _ _ _ h => h) (Or.inl ⟨by rfl, fun w' _ => by go_simp⟩) HS.out ?_
      simp only [Act.put, List.setIfInBounds_toArray, List.set_cons_zero, List.set_cons_succ]
      refine wpAnyH_take (i := 2) (oi := { dst := some 35, op := Go.Op.slice 27 (Go.Operand.tmp 33) none (some (Go.Operand.tmp 34)) none, type := 27, pos := "ref.go:195", after := #[{ on := 0, ground := Go.Ground.data }, { on := 1, ground := Go.Ground.data }], guard := none }) (v := .slice (some ⟨b, off, none⟩) k c) rfl (by kernel_rfl) (by kernel_rfl) (by kernel_rfl) (fun _ _ _ h => h) (Or.inl ⟨by rfl, fun w' _ => by go_simp⟩) HS.out ?_
      simp only [Act.put, List.setIfInBounds_toArray, List.set_cons_zero, List.set_cons_succ]
      refine wpAnyH_take (i := 4) (oi := { dst := some 37, op := Go.Op.move (Go.Operand.tmp 0), type := 27, pos := "ref.go:195", after := #[], guard := none }) (v := .slice (some ⟨b, off, none⟩) m c) rfl (by kernel_rfl) (by kernel_rfl) (by kernel_rfl) (fun _ _ _ h => h) (Or.inl ⟨by rfl, fun w' _ => by go_simp⟩) HS.out ?_
      simp only [Act.put, List.setIfInBounds_toArray, List.set_cons_zero, List.set_cons_succ]
      refine wpAnyH_take (i := 5) (oi := { dst := some 38, op := Go.Op.move (Go.Operand.tmp 4), type := 3, pos := "ref.go:195", after := #[], guard := none }) (v := .int .i64 (k : Int)) rfl (by kernel_rfl) (by kernel_rfl) (by kernel_rfl) (fun _ _ _ h => h) (Or.inl ⟨by rfl, fun w' _ => by go_simp⟩) HS.out ?_
      simp only [Act.put, List.setIfInBounds_toArray, List.set_cons_zero, List.set_cons_succ]
      refine wpAnyH_take (i := 6) (oi := { dst := some 39, op := Go.Op.slice 27 (Go.Operand.tmp 37) (some (Go.Operand.tmp 38)) none none, type := 27, pos := "ref.go:195", after := #[{ on := 4, ground := Go.Ground.data }, { on := 5, ground := Go.Ground.data }], guard := none }) (v := .slice (some ⟨b, off + k, none⟩) (m - k) (c - k)) rfl (by kernel_rfl) (by kernel_rfl) (by kernel_rfl) (fun _ _ _ h => h) (Or.inl ⟨by rfl, fun w' _ => by go_simp⟩) HS.out ?_
      simp only [Act.put, List.setIfInBounds_toArray, List.set_cons_zero, List.set_cons_succ]
      refine wpAnyH_take (i := 9) (oi := { dst := some 42, op := Go.Op.move (Go.Operand.tmp 5), type := 9, pos := "ref.go:195", after := #[], guard := none }) (v := .string ⟨own.toArray⟩) rfl (by kernel_rfl) (by kernel_rfl) (by kernel_rfl) (fun _ _ _ h => h) (Or.inl ⟨by rfl, fun w' _ => by go_simp⟩) HS.out ?_
      simp only [Act.put, List.setIfInBounds_toArray, List.set_cons_zero, List.set_cons_succ]
      refine wpAnyH_ready (rs := [3, 10]) (by kernel_rfl) (by simp) ?_
      refine AllReadyH.cons (o := { dst := some 36, op := Go.Op.call { callee := Go.Callee.value (Go.Operand.func 35), args := #[Go.Operand.tmp 35], argTypes := #[27] }, type := 27, pos := "ref.go:195", after := #[{ on := 2, ground := Go.Ground.data }], guard := none }) rfl (fun K hK => ?_) (AllReadyH.cons (o := { dst := some 43, op := Go.Op.buildSlice 27 1 #[(0, Go.Operand.tmp 42)], type := 27, pos := "ref.go:195", after := #[{ on := 9, ground := Go.Ground.data }], guard := none }) rfl (fun K hK => ?_) AllReadyH.nil)
      · skip
        go_simp
        go_wp2_with (go_at_call 35; refine (C1.out _ hb).mono ?_; rintro e y1 ⟨u1, rfl, ho1, hl1, c1⟩)
        obtain ⟨a1, d1, rfl⟩ := ho1.shape
        replace ho1 := ownS_base ho1 hl1
        replace hb := below_next hb c1
        clear c1
        refine hK.out _ _ hb (fun _ => ?_)
        clear hK K
        refine wpAnyH_ready (rs := [7, 10]) (by kernel_rfl) (by simp) ?_
        refine AllReadyH.cons (o := { dst := some 40, op := Go.Op.call { callee := Go.Callee.value (Go.Operand.func 35), args := #[Go.Operand.tmp 39], argTypes := #[27] }, type := 27, pos := "ref.go:195", after := #[{ on := 6, ground := Go.Ground.data }, { on := 3, ground := Go.Ground.chain }], guard := none }) rfl (fun K hK => ?_) (AllReadyH.cons (o := { dst := some 43, op := Go.Op.buildSlice 27 1 #[(0, Go.Operand.tmp 42)], type := 27, pos := "ref.go:195", after := #[{ on := 9, ground := Go.Ground.data }], guard := none }) rfl (fun K hK => ?_) AllReadyH.nil)
        · skip
          go_simp
          go_wp2_with (go_at_call 35; refine (C2.out _ hb).mono ?_; rintro e y2 ⟨u2, rfl, ho2, hl2, c2⟩)
          obtain ⟨a2, d2, rfl⟩ := ho2.shape
          replace ho1 := ho1.below c2
          replace hb := below_next hb c2
          clear c2
          refine hK.out _ _ hb (fun _ => ?_)
          clear hK K
          refine wpAnyH_ready (rs := [8, 10]) (by kernel_rfl) (by simp) ?_
          refine AllReadyH.cons (o := { dst := some 41, op := Go.Op.call { callee := Go.Callee.builtin Go.Builtin.append, args := #[Go.Operand.tmp 36, Go.Operand.tmp 40], argTypes := #[27, 27] }, type := 27, pos := "ref.go:195", after := #[{ on := 3, ground := Go.Ground.data }, { on := 7, ground := Go.Ground.data }, { on := 7, ground := Go.Ground.chain }], guard := none }) rfl (fun K hK => ?_) (AllReadyH.cons (o := { dst := some 43, op := Go.Op.buildSlice 27 1 #[(0, Go.Operand.tmp 42)], type := 27, pos := "ref.go:195", after := #[{ on := 9, ground := Go.Ground.data }], guard := none }) rfl (fun K hK => ?_) AllReadyH.nil)
          · skip
            rw [if_pos (by rfl)]
            obtain ⟨g3, c3, w3, hrun, ho3, hb3, hg3⟩ := run_appU ho1 (ho2.has (by omega)) p2 (by omega) hb.size
            refine wp_runT (by rfl) (by rfl) (by rfl) (by rfl) hrun ?_
            simp only [Act.put, List.setIfInBounds_toArray, List.set_cons_zero, List.set_cons_succ]
            replace hb := hb.trans hb3
            clear hrun hb3 hg3 ho1 ho2
            refine hK.out _ _ hb (fun _ => ?_)
            clear hK K
            refine wpAnyH_ready (rs := [10]) (by kernel_rfl) (by simp) ?_
            refine AllReadyH.cons (o := { dst := some 43, op := Go.Op.buildSlice 27 1 #[(0, Go.Operand.tmp 42)], type := 27, pos := "ref.go:195", after := #[{ on := 9, ground := Go.Ground.data }], guard := none }) rfl (fun K hK => ?_) AllReadyH.nil
            · skip
              go_simp
              have one := hasOne w3 own 1 (Nat.le_refl _)
              have ca : Below w3.heap.size w3 (w3.alloc (.cells #[.string ⟨own.toArray⟩] 9)) := (Below.refl _ _).alloc (Nat.le_refl _) _
              replace ho3 := ho3.below ca
              replace hb := below_next hb ca
              have hgB : w3.heap.size < (w3.alloc (.cells #[.string ⟨own.toArray⟩] 9)).heap.size := by simp
              clear ca
              obtain ⟨wB, hwB⟩ : ∃ z, w3.alloc (.cells #[.string ⟨own.toArray⟩] 9) = z := ⟨_, rfl⟩
              obtain ⟨gB, hgBe⟩ : ∃ b, w3.heap.size = b := ⟨_, rfl⟩
              rw [hwB] at one hb hgB ho3 ⊢
              rw [hgBe] at one hgB ⊢
              clear hwB hgBe
              refine hK.out _ _ hb (fun _ => ?_)
              clear hK K
              refine wpAnyH_ready (rs := [11]) (by kernel_rfl) (by simp) ?_
              refine AllReadyH.cons (o := { dst := some 44, op := Go.Op.call { callee := Go.Callee.builtin Go.Builtin.append, args := #[Go.Operand.tmp 41, Go.Operand.tmp 43], argTypes := #[27, 27] }, type := 27, pos := "ref.go:195", after := #[{ on := 8, ground := Go.Ground.data }, { on := 10, ground := Go.Ground.data }, { on := 8, ground := Go.Ground.chain }], guard := none }) rfl (fun K hK => ?_) AllReadyH.nil
              · skip
                rw [if_pos (by rfl)]
                obtain ⟨g4, c4, w4, hrun, hF, hb4, _⟩ := run_appU ho3 one (by simp) (by simp; omega) hb.size
                refine wp_runT (by rfl) (by rfl) (by rfl) (by rfl) hrun ?_
                simp only [Act.put, List.setIfInBounds_toArray, List.set_cons_zero, List.set_cons_succ]
                have hbF := hb.trans hb4
                refine hK.out _ _ hbF (fun _ => ?_)
                clear hK K
                refine wpAnyH_take (i := 12) (oi := { dst := some 2, op := Go.Op.assign (Go.Operand.tmp 44), type := 27, pos := "ref.go:195", after := #[{ on := 11, ground := Go.Ground.data }, { on := 11, ground := Go.Ground.chain }, { on := 0, ground := Go.Ground.phase }, { on := 1, ground := Go.Ground.phase }, { on := 2, ground := Go.Ground.phase }, { on := 3, ground := Go.Ground.phase }, { on := 4, ground := Go.Ground.phase }, { on := 5, ground := Go.Ground.phase }, { on := 6, ground := Go.Ground.phase }, { on := 7, ground := Go.Ground.phase }, { on := 8, ground := Go.Ground.phase }, { on := 9, ground := Go.Ground.phase }, { on := 10, ground := Go.Ground.phase }, { on := 11, ground := Go.Ground.phase }], guard := none }) (v := .slice (some ⟨g4, 0, none⟩) ((t1 ++ t2).length + [own].length) c4) rfl (by kernel_rfl) (by kernel_rfl) (by kernel_rfl) (fun _ _ _ h => h) (Or.inl ⟨by rfl, fun w' _ => by go_simp⟩) hbF ?_
                simp only [Act.put, List.setIfInBounds_toArray, List.set_cons_zero, List.set_cons_succ]
                refine wpAnyH_done (by kernel_rfl) ?_ _
                go_wp2_with fail
                go_ret
                exact ⟨_, rfl, by rw [← hrT.out]; exact hF, hbF⟩
          · skip
            go_simp
            have one := hasOne y2 own 1 (Nat.le_refl _)
            have ca : Below y2.heap.size y2 (y2.alloc (.cells #[.string ⟨own.toArray⟩] 9)) := (Below.refl _ _).alloc (Nat.le_refl _) _
            have hne : some y2.heap.size ≠ (Value.slice a1 t1.length d1).ownBlock := ne_high ho1 (Nat.le_refl _)
            replace ho1 := ho1.below ca
            replace ho2 := ho2.below ca
            replace hb := below_next hb ca
            have hgB : y2.heap.size < (y2.alloc (.cells #[.string ⟨own.toArray⟩] 9)).heap.size := by simp
            clear ca
            obtain ⟨wB, hwB⟩ : ∃ z, y2.alloc (.cells #[.string ⟨own.toArray⟩] 9) = z := ⟨_, rfl⟩
            obtain ⟨gB, hgBe⟩ : ∃ b, y2.heap.size = b := ⟨_, rfl⟩
            rw [hwB] at one hb hgB ho1 ho2 ⊢
            rw [hgBe] at one hgB hne ⊢
            clear hwB hgBe
            refine hK.out _ _ hb (fun _ => ?_)
            clear hK K
            refine wpAnyH_ready (rs := [8]) (by kernel_rfl) (by simp) ?_
            refine AllReadyH.cons (o := { dst := some 41, op := Go.Op.call { callee := Go.Callee.builtin Go.Builtin.append, args := #[Go.Operand.tmp 36, Go.Operand.tmp 40], argTypes := #[27, 27] }, type := 27, pos := "ref.go:195", after := #[{ on := 3, ground := Go.Ground.data }, { on := 7, ground := Go.Ground.data }, { on := 7, ground := Go.Ground.chain }], guard := none }) rfl (fun K hK => ?_) AllReadyH.nil
            · skip
              rw [if_pos (by rfl)]
              obtain ⟨g3, c3, w3, hrun, ho3, hb3, hg3⟩ := run_appU ho1 (ho2.has (by omega)) p2 (by omega) hb.size
              refine wp_runT (by rfl) (by rfl) (by rfl) (by rfl) hrun ?_
              simp only [Act.put, List.setIfInBounds_toArray, List.set_cons_zero, List.set_cons_succ]
              replace one := one.keptRow hg3 hne
              replace hb := hb.trans hb3
              clear hrun hb3 hg3 ho1 ho2
              refine hK.out _ _ hb (fun _ => ?_)
              clear hK K
              refine wpAnyH_ready (rs := [11]) (by kernel_rfl) (by simp) ?_
              refine AllReadyH.cons (o := { dst := some 44, op := Go.Op.call { callee := Go.Callee.builtin Go.Builtin.append, args := #[Go.Operand.tmp 41, Go.Operand.tmp 43], argTypes := #[27, 27] }, type := 27, pos := "ref.go:195", after := #[{ on := 8, ground := Go.Ground.data }, { on := 10, ground := Go.Ground.data }, { on := 8, ground := Go.Ground.chain }], guard := none }) rfl (fun K hK => ?_) AllReadyH.nil
              · skip
                rw [if_pos (by rfl)]
                obtain ⟨g4, c4, w4, hrun, hF, hb4, _⟩ := run_appU ho3 one (by simp) (by simp; omega) hb.size
                refine wp_runT (by rfl) (by rfl) (by rfl) (by rfl) hrun ?_
                simp only [Act.put, List.setIfInBounds_toArray, List.set_cons_zero, List.set_cons_succ]
                have hbF := hb.trans hb4
                refine hK.out _ _ hbF (fun _ => ?_)
                clear hK K
                refine wpAnyH_take (i := 12) (oi := { dst := some 2, op := Go.Op.assign (Go.Operand.tmp 44), type := 27, pos := "ref.go:195", after := #[{ on := 11, ground := Go.Ground.data }, { on := 11, ground := Go.Ground.chain }, { on := 0, ground := Go.Ground.phase }, { on := 1, ground := Go.Ground.phase }, { on := 2, ground := Go.Ground.phase }, { on := 3, ground := Go.Ground.phase }, { on := 4, ground := Go.Ground.phase }, { on := 5, ground := Go.Ground.phase }, { on := 6, ground := Go.Ground.phase }, { on := 7, ground := Go.Ground.phase }, { on := 8, ground := Go.Ground.phase }, { on := 9, ground := Go.Ground.phase }, { on := 10, ground := Go.Ground.phase }, { on := 11, ground := Go.Ground.phase }], guard := none }) (v := .slice (some ⟨g4, 0, none⟩) ((t1 ++ t2).length + [own].length) c4) rfl (by kernel_rfl) (by kernel_rfl) (by kernel_rfl) (fun _ _ _ h => h) (Or.inl ⟨by rfl, fun w' _ => by go_simp⟩) hbF ?_
                simp only [Act.put, List.setIfInBounds_toArray, List.set_cons_zero, List.set_cons_succ]
                refine wpAnyH_done (by kernel_rfl) ?_ _
                go_wp2_with fail
                go_ret
                exact ⟨_, rfl, by rw [← hrT.out]; exact hF, hbF⟩
        · skip
          go_simp
          have one := hasOne y1 own 1 (Nat.le_refl _)
          have ca : Below y1.heap.size y1 (y1.alloc (.cells #[.string ⟨own.toArray⟩] 9)) := (Below.refl _ _).alloc (Nat.le_refl _) _
          have hne : some y1.heap.size ≠ (Value.slice a1 t1.length d1).ownBlock := ne_high ho1 (Nat.le_refl _)
          replace ho1 := ho1.below ca
          replace hb := below_next hb ca
          have hgB : y1.heap.size < (y1.alloc (.cells #[.string ⟨own.toArray⟩] 9)).heap.size := by simp
          clear ca
          obtain ⟨wB, hwB⟩ : ∃ z, y1.alloc (.cells #[.string ⟨own.toArray⟩] 9) = z := ⟨_, rfl⟩
          obtain ⟨gB, hgBe⟩ : ∃ b, y1.heap.size = b := ⟨_, rfl⟩
          rw [hwB] at one hb hgB ho1 ⊢
          rw [hgBe] at one hgB hne ⊢
          clear hwB hgBe
          refine hK.out _ _ hb (fun _ => ?_)
          clear hK K
          refine wpAnyH_ready (rs := [7]) (by kernel_rfl) (by simp) ?_
          refine AllReadyH.cons (o := { dst := some 40, op := Go.Op.call { callee := Go.Callee.value (Go.Operand.func 35), args := #[Go.Operand.tmp 39], argTypes := #[27] }, type := 27, pos := "ref.go:195", after := #[{ on := 6, ground := Go.Ground.data }, { on := 3, ground := Go.Ground.chain }], guard := none }) rfl (fun K hK => ?_) AllReadyH.nil
          · skip
            go_simp
            go_wp2_with (go_at_call 35; refine (C2.out _ hb).mono ?_; rintro e y2 ⟨u2, rfl, ho2, hl2, c2⟩)
            obtain ⟨a2, d2, rfl⟩ := ho2.shape
            replace one := one.below c2 (Nat.le_refl _)
            replace ho1 := ho1.below c2
            replace hb := below_next hb c2
            clear c2
            refine hK.out _ _ hb (fun _ => ?_)
            clear hK K
            refine wpAnyH_ready (rs := [8]) (by kernel_rfl) (by simp) ?_
            refine AllReadyH.cons (o := { dst := some 41, op := Go.Op.call { callee := Go.Callee.builtin Go.Builtin.append, args := #[Go.Operand.tmp 36, Go.Operand.tmp 40], argTypes := #[27, 27] }, type := 27, pos := "ref.go:195", after := #[{ on := 3, ground := Go.Ground.data }, { on := 7, ground := Go.Ground.data }, { on := 7, ground := Go.Ground.chain }], guard := none }) rfl (fun K hK => ?_) AllReadyH.nil
            · skip
              rw [if_pos (by rfl)]
              obtain ⟨g3, c3, w3, hrun, ho3, hb3, hg3⟩ := run_appU ho1 (ho2.has (by omega)) p2 (by omega) hb.size
              refine wp_runT (by rfl) (by rfl) (by rfl) (by rfl) hrun ?_
              simp only [Act.put, List.setIfInBounds_toArray, List.set_cons_zero, List.set_cons_succ]
              replace one := one.keptRow hg3 hne
              replace hb := hb.trans hb3
              clear hrun hb3 hg3 ho1 ho2
              refine hK.out _ _ hb (fun _ => ?_)
              clear hK K
              refine wpAnyH_ready (rs := [11]) (by kernel_rfl) (by simp) ?_
              refine AllReadyH.cons (o := { dst := some 44, op := Go.Op.call { callee := Go.Callee.builtin Go.Builtin.append, args := #[Go.Operand.tmp 41, Go.Operand.tmp 43], argTypes := #[27, 27] }, type := 27, pos := "ref.go:195", after := #[{ on := 8, ground := Go.Ground.data }, { on := 10, ground := Go.Ground.data }, { on := 8, ground := Go.Ground.chain }], guard := none }) rfl (fun K hK => ?_) AllReadyH.nil
              · skip
                rw [if_pos (by rfl)]
                obtain ⟨g4, c4, w4, hrun, hF, hb4, _⟩ := run_appU ho3 one (by simp) (by simp; omega) hb.size
                refine wp_runT (by rfl) (by rfl) (by rfl) (by rfl) hrun ?_
                simp only [Act.put, List.setIfInBounds_toArray, List.set_cons_zero, List.set_cons_succ]
                have hbF := hb.trans hb4
                refine hK.out _ _ hbF (fun _ => ?_)
                clear hK K
                refine wpAnyH_take (i := 12) (oi := { dst := some 2, op := Go.Op.assign (Go.Operand.tmp 44), type := 27, pos := "ref.go:195", after := #[{ on := 11, ground := Go.Ground.data }, { on := 11, ground := Go.Ground.chain }, { on := 0, ground := Go.Ground.phase }, { on := 1, ground := Go.Ground.phase }, { on := 2, ground := Go.Ground.phase }, { on := 3, ground := Go.Ground.phase }, { on := 4, ground := Go.Ground.phase }, { on := 5, ground := Go.Ground.phase }, { on := 6, ground := Go.Ground.phase }, { on := 7, ground := Go.Ground.phase }, { on := 8, ground := Go.Ground.phase }, { on := 9, ground := Go.Ground.phase }, { on := 10, ground := Go.Ground.phase }, { on := 11, ground := Go.Ground.phase }], guard := none }) (v := .slice (some ⟨g4, 0, none⟩) ((t1 ++ t2).length + [own].length) c4) rfl (by kernel_rfl) (by kernel_rfl) (by kernel_rfl) (fun _ _ _ h => h) (Or.inl ⟨by rfl, fun w' _ => by go_simp⟩) hbF ?_
                simp only [Act.put, List.setIfInBounds_toArray, List.set_cons_zero, List.set_cons_succ]
                refine wpAnyH_done (by kernel_rfl) ?_ _
                go_wp2_with fail
                go_ret
                exact ⟨_, rfl, by rw [← hrT.out]; exact hF, hbF⟩
      · skip
        go_simp
        have one := hasOne Xd own 1 (Nat.le_refl _)
        have ca : Below Xd.heap.size Xd (Xd.alloc (.cells #[.string ⟨own.toArray⟩] 9)) := (Below.refl _ _).alloc (Nat.le_refl _) _
        replace hb := below_next hb ca
        have hgB : Xd.heap.size < (Xd.alloc (.cells #[.string ⟨own.toArray⟩] 9)).heap.size := by simp
        clear ca
        obtain ⟨wB, hwB⟩ : ∃ z, Xd.alloc (.cells #[.string ⟨own.toArray⟩] 9) = z := ⟨_, rfl⟩
        obtain ⟨gB, hgBe⟩ : ∃ b, Xd.heap.size = b := ⟨_, rfl⟩
        rw [hwB] at one hb hgB ⊢
        rw [hgBe] at one hgB ⊢
        clear hwB hgBe
        refine hK.out _ _ hb (fun _ => ?_)
        clear hK K
        refine wpAnyH_ready (rs := [3]) (by kernel_rfl) (by simp) ?_
        refine AllReadyH.cons (o := { dst := some 36, op := Go.Op.call { callee := Go.Callee.value (Go.Operand.func 35), args := #[Go.Operand.tmp 35], argTypes := #[27] }, type := 27, pos := "ref.go:195", after := #[{ on := 2, ground := Go.Ground.data }], guard := none }) rfl (fun K hK => ?_) AllReadyH.nil
        · skip
          go_simp
          go_wp2_with (go_at_call 35; refine (C1.out _ hb).mono ?_; rintro e y1 ⟨u1, rfl, ho1, hl1, c1⟩)
          obtain ⟨a1, d1, rfl⟩ := ho1.shape
          replace one := one.below c1 (Nat.le_refl _)
          have hne : some gB ≠ (Value.slice a1 t1.length d1).ownBlock := ne_low ho1 hgB
          replace ho1 := ownS_base ho1 hl1
          replace hb := below_next hb c1
          clear c1
          refine hK.out _ _ hb (fun _ => ?_)
          clear hK K
          refine wpAnyH_ready (rs := [7]) (by kernel_rfl) (by simp) ?_
          refine AllReadyH.cons (o := { dst := some 40, op := Go.Op.call { callee := Go.Callee.value (Go.Operand.func 35), args := #[Go.Operand.tmp 39], argTypes := #[27] }, type := 27, pos := "ref.go:195", after := #[{ on := 6, ground := Go.Ground.data }, { on := 3, ground := Go.Ground.chain }], guard := none }) rfl (fun K hK => ?_) AllReadyH.nil
          · skip
            go_simp
            go_wp2_with (go_at_call 35; refine (C2.out _ hb).mono ?_; rintro e y2 ⟨u2, rfl, ho2, hl2, c2⟩)
            obtain ⟨a2, d2, rfl⟩ := ho2.shape
            replace one := one.below c2 (Nat.le_refl _)
            replace ho1 := ho1.below c2
            replace hb := below_next hb c2
            clear c2
            refine hK.out _ _ hb (fun _ => ?_)
            clear hK K
            refine wpAnyH_ready (rs := [8]) (by kernel_rfl) (by simp) ?_
            refine AllReadyH.cons (o := { dst := some 41, op := Go.Op.call { callee := Go.Callee.builtin Go.Builtin.append, args := #[Go.Operand.tmp 36, Go.Operand.tmp 40], argTypes := #[27, 27] }, type := 27, pos := "ref.go:195", after := #[{ on := 3, ground := Go.Ground.data }, { on := 7, ground := Go.Ground.data }, { on := 7, ground := Go.Ground.chain }], guard := none }) rfl (fun K hK => ?_) AllReadyH.nil
            · skip
              rw [if_pos (by rfl)]
              obtain ⟨g3, c3, w3, hrun, ho3, hb3, hg3⟩ := run_appU ho1 (ho2.has (by omega)) p2 (by omega) hb.size
              refine wp_runT (by rfl) (by rfl) (by rfl) (by rfl) hrun ?_
              simp only [Act.put, List.setIfInBounds_toArray, List.set_cons_zero, List.set_cons_succ]
              replace one := one.keptRow hg3 hne
              replace hb := hb.trans hb3
              clear hrun hb3 hg3 ho1 ho2
              refine hK.out _ _ hb (fun _ => ?_)
              clear hK K
              refine wpAnyH_ready (rs := [11]) (by kernel_rfl) (by simp) ?_
              refine AllReadyH.cons (o := { dst := some 44, op := Go.Op.call { callee := Go.Callee.builtin Go.Builtin.append, args := #[Go.Operand.tmp 41, Go.Operand.tmp 43], argTypes := #[27, 27] }, type := 27, pos := "ref.go:195", after := #[{ on := 8, ground := Go.Ground.data }, { on := 10, ground := Go.Ground.data }, { on := 8, ground := Go.Ground.chain }], guard := none }) rfl (fun K hK => ?_) AllReadyH.nil
              · skip
                rw [if_pos (by rfl)]
                obtain ⟨g4, c4, w4, hrun, hF, hb4, _⟩ := run_appU ho3 one (by simp) (by simp; omega) hb.size
                refine wp_runT (by rfl) (by rfl) (by rfl) (by rfl) hrun ?_
                simp only [Act.put, List.setIfInBounds_toArray, List.set_cons_zero, List.set_cons_succ]
                have hbF := hb.trans hb4
                refine hK.out _ _ hbF (fun _ => ?_)
                clear hK K
                refine wpAnyH_take (i := 12) (oi := { dst := some 2, op := Go.Op.assign (Go.Operand.tmp 44), type := 27, pos := "ref.go:195", after := #[{ on := 11, ground := Go.Ground.data }, { on := 11, ground := Go.Ground.chain }, { on := 0, ground := Go.Ground.phase }, { on := 1, ground := Go.Ground.phase }, { on := 2, ground := Go.Ground.phase }, { on := 3, ground := Go.Ground.phase }, { on := 4, ground := Go.Ground.phase }, { on := 5, ground := Go.Ground.phase }, { on := 6, ground := Go.Ground.phase }, { on := 7, ground := Go.Ground.phase }, { on := 8, ground := Go.Ground.phase }, { on := 9, ground := Go.Ground.phase }, { on := 10, ground := Go.Ground.phase }, { on := 11, ground := Go.Ground.phase }], guard := none }) (v := .slice (some ⟨g4, 0, none⟩) ((t1 ++ t2).length + [own].length) c4) rfl (by kernel_rfl) (by kernel_rfl) (by kernel_rfl) (fun _ _ _ h => h) (Or.inl ⟨by rfl, fun w' _ => by go_simp⟩) hbF ?_
                simp only [Act.put, List.setIfInBounds_toArray, List.set_cons_zero, List.set_cons_succ]
                refine wpAnyH_done (by kernel_rfl) ?_ _
                go_wp2_with fail
                go_ret
                exact ⟨_, rfl, by rw [← hrT.out]; exact hF, hbF⟩
end Go.Proofs.YteoclpjbeadkpaaGreatDoor
/- WALK of the reference 02: PathTexts. -/
namespace Go.Proofs.YteoclpjbeadkpaaGreatDoor
open Go.RowKit

theorem ptextsL_le (n : Nat) : ∀ (i : Nat) (s : List UInt8) (p : List (List UInt8)), 1 ≤ n → (Tr.ptextsL n i s p).length ≤ n := by
  induction n using Nat.strongRecOn with
  | ind n ih =>
    intro i s p h1
    by_cases h : n ≤ 1
    · rw [Tr.ptextsL_one _ _ _ _ h]; simpa using h1
    · have hb := Tr.half_bounds (n := n) (by omega)
      by_cases c : i < Tr.half n
      · rw [Tr.ptextsL_left _ _ _ _ (by omega) c, List.length_append]
        have := ih (Tr.half n) hb.2 i s p.dropLast (by omega)
        simp only [List.length_cons, List.length_nil]; omega
      · rw [Tr.ptextsL_right _ _ _ _ (by omega) (by omega), List.length_append]
        have := ih (n - Tr.half n) (by omega) (i - Tr.half n) s p.dropLast (by omega)
        simp only [List.length_cons, List.length_nil]; omega

set_option maxHeartbeats 4000000 in
set_option maxRecDepth 100000 in
theorem rptexts_rec (s : List UInt8) (hs : s.length ≤ 35184372088832) : ∀ (n i : Nat) (p : List (List UInt8)) (v : Value) (w : World), 1 ≤ n → n ≤ 1000000 → i < n → HasStrsC w v p → Mod p → Tr.lenL n i ≤ p.length →
    Calls Tryz.prog 36 #[.int .i64 (n : Int), .int .i64 (i : Int), .string ⟨s.toArray⟩, v] w fun e w' => ∃ u, e = .returned u ∧ OwnS w.heap.size w' u (Tr.ptextsL n i s p) ∧ Below w.heap.size w w' := by
  intro n
  induction n using Nat.strongRecOn with
  | _ n ih =>
    intro i p v w h1 hn hi hv hm hlen
    by_cases h2 : n ≤ 1
    · obtain rfl : n = 1 := by omega
      rw [Tr.ptextsL_one 1 i _ _ (by decide)]
      obtain ⟨_, a, c, rfl, _, _⟩ := hv
      obtain ⟨y, hy⟩ : ∃ y, Hid (Dg.joinL [Tr.tagLeaf, s] = y) := ⟨_, rfl⟩
      have C := Lib.hid (rjoinNew [Tr.tagLeaf, s] y (Below.refl _ w) (by simp) (by have e : Tr.tagLeaf.length = 4 := rfl; simp only [capL]; omega) hy)
      rw [show Tr.leafT s = y from hy.out]
      go_enter Tryz.func36, Tryz.ntmps36
      go_wp2_with fail
      refine C.out.mono ?_
      rintro e w1 ⟨rfl, c⟩
      have Hc := Lib.hid c
      clear c
      go_wp2_with fail
      go_ret
      exact ⟨_, rfl, ownS_new w1 y _ Hc.out.size, Hc.out.alloc Hc.out.size _⟩
    · have hk := Tr.half_bounds (n := n) (by omega)
      have HH := Lib.hid (rhalf_any n (by omega) (by omega))
      have hp0 : 0 < p.length := by
        by_cases c : i < Tr.half n
        · rw [Tr.lenL_left _ _ (by omega) c] at hlen; omega
        · rw [Tr.lenL_right _ _ (by omega) (by omega)] at hlen; omega
      obtain ⟨b, off, c, rfl, hc, hmx, hb, hcell⟩ := hv.parts hp0
      obtain ⟨m, hpm⟩ : ∃ m, p.length = m + 1 := ⟨p.length - 1, by omega⟩
      have hlast : p.getLastD [] = p.getD m [] := by
        have h := last_take p p.length (by omega) (Nat.le_refl _)
        rw [List.take_length, hpm] at h
        exact h
      have hmb : m + 1 ≤ 140737488355328 := by omega
      have hck := hcell m (by omega)
      have hsl : (p.getD m []).length ≤ 35184372088832 := hm _ (by simp [List.getD, List.getElem?_eq_getElem (show m < p.length by omega)])
      have hdl : p.dropLast = p.take m := by rw [List.dropLast_eq_take, hpm, Nat.add_sub_cancel]
      have hrl : (p.take m).length = m := by rw [List.length_take]; omega
      have hrest := hasStrsC_take m (by omega) hc hmx hb hcell
      have q1 := slc_to b off (m + 1) c m (by omega)
      have hrm := hm.take m
      have hdd : (Tr.leafL s).length ≤ 35184372088832 := by rw [show (Tr.leafL s).length = 16 from Dg.sumL_length _]; decide
      have CL := Lib.hid (fun W => rleaf_any s (Tr.leafL s) W hs rfl)
      by_cases hik : i < Tr.half n
      · skip
        have hu := Tr.ptextsL_left n i s p (by omega) hik
        rw [Tr.lenL_left _ _ (by omega) hik] at hlen
        rw [hlast, hdl] at hu
        have hxl := upL_len (Tr.half n) i (Tr.leafL s) (p.take m) hdd
        have IH : Hid (∀ W, Below w.heap.size w W → Calls Tryz.prog 36 #[.int .i64 (((Tr.half n) : Nat) : Int), .int .i64 ((i : Nat) : Int), .string ⟨s.toArray⟩, .slice (some ⟨b, off, none⟩) m c] W fun e w' => ∃ u, e = .returned u ∧ OwnS W.heap.size w' u (Tr.ptextsL (Tr.half n) i s (p.take m)) ∧ Below W.heap.size W w') := fun W hW => ih (Tr.half n) (by omega) i (p.take m) _ W (by omega) (by omega) (by omega) (hrest.below hW (Nat.le_refl _)) hrm (by omega)
        have CU : Hid (∀ W, Below w.heap.size w W → Calls Tryz.prog 73 #[.int .i64 (((Tr.half n) : Nat) : Int), .int .i64 ((i : Nat) : Int), .string ⟨(Tr.leafL s).toArray⟩, .slice (some ⟨b, off, none⟩) m c] W fun e w' => e = .returned (.string ⟨(Tr.upL (Tr.half n) i (Tr.leafL s) (p.take m)).toArray⟩) ∧ Below W.heap.size W w') := fun W hW => rup_rec (Tr.leafL s) hdd (Tr.half n) i (p.take m) _ W (by omega) (by omega) (by omega) (hrest.below hW (Nat.le_refl _)) hrm (by omega)
        have pl := ptextsL_le (Tr.half n) i s (p.take m) (by omega)
        rw [hu]
        generalize Tr.ptextsL (Tr.half n) i s (p.take m) = tx at IH pl ⊢
        generalize Tr.upL (Tr.half n) i (Tr.leafL s) (p.take m) = x at hxl CU ⊢
        generalize Tr.leafL s = d at CL CU
        generalize p.getD m [] = lst at hck hsl ⊢
        obtain ⟨y, hy⟩ : ∃ y, Hid (Dg.joinL [Tr.tagNode, x, lst] = y) := ⟨_, rfl⟩
        rw [show Tr.nodeT x lst = y from hy.out]
        have CJ : Hid (∀ W, Below w.heap.size w W → Calls Tryz.prog 70 #[.slice (some ⟨W.heap.size, 0, none⟩) 3 3] (W.alloc (.cells #[.string ⟨#[110, 111, 100, 101]⟩, .string ⟨x.toArray⟩, .string ⟨lst.toArray⟩] 9)) fun e w' => e = .returned (.string ⟨y.toArray⟩) ∧ Below W.heap.size W w') := fun W bW => rjoinNew [Tr.tagNode, x, lst] y (Below.refl _ W) (by simp) (by have e : Tr.tagNode.length = 4 := rfl; simp only [capL]; omega) hy
        generalize Tr.half n = k at *
        rw [hpm] at hc ⊢
        clear ih hu hlast hdl hcell hv hm hrest hrm hrl hlen hp0 hmx hy hdd hxl hsl
        go_enter Tryz.func36, Tryz.ntmps36
        go_wp2_with fail
        refine (HH.out _).mono ?_
        rintro e w1 ⟨rfl, rfl⟩
        go_wp2_with fail
        refine (IH.out _ (Below.refl _ _)).mono ?_
        rintro e w2 ⟨u, rfl, ho, c2⟩
        obtain ⟨ua, uc, rfl⟩ := ho.shape
        have H2 := Lib.hid (And.intro ho c2)
        clear ho c2
        go_wp2_with fail
        refine (CL.out _).mono ?_
        rintro e w3 ⟨rfl, c3⟩
        have H3 := Lib.hid (And.intro (H2.out.1.below c3) (below_next H2.out.2 c3))
        clear c3 H2
        go_wp2_with fail
        refine (CU.out _ H3.out.2).mono ?_
        rintro e w4 ⟨rfl, c4⟩
        have H4 := Lib.hid (And.intro (H3.out.1.below c4) (below_next H3.out.2 c4))
        clear c4 H3
        go_wp2_with fail
        refine (CJ.out _ H4.out.2).mono ?_
        rintro e w5 ⟨rfl, c5⟩
        have H5 := Lib.hid (And.intro (H4.out.1.below c5) (below_next H4.out.2 c5))
        clear c5 H4
        go_wp2_with (at_builtin; refine wpl_app rfl (.tmp 38) (.tmp 48) rfl w.heap.size (.slice ua tx.length uc) tx y rfl rfl H5.out.1 (by omega) H5.out.2.size ?_)
        intro w6 g6 c6 ho6 hb6
        have H6 := Lib.hid (And.intro ho6 (H5.out.2.trans hb6))
        clear ho6 hb6 H5
        go_wp2_with fail
        go_ret
        exact ⟨_, rfl, H6.out.1, H6.out.2⟩
      · skip
        have hu := Tr.ptextsL_right n i s p (by omega) (by omega)
        rw [Tr.lenL_right _ _ (by omega) (by omega)] at hlen
        rw [hlast, hdl] at hu
        have hxl := upL_len (n - Tr.half n) (i - Tr.half n) (Tr.leafL s) (p.take m) hdd
        have IH : Hid (∀ W, Below w.heap.size w W → Calls Tryz.prog 36 #[.int .i64 (((n - Tr.half n) : Nat) : Int), .int .i64 (((i - Tr.half n) : Nat) : Int), .string ⟨s.toArray⟩, .slice (some ⟨b, off, none⟩) m c] W fun e w' => ∃ u, e = .returned u ∧ OwnS W.heap.size w' u (Tr.ptextsL (n - Tr.half n) (i - Tr.half n) s (p.take m)) ∧ Below W.heap.size W w') := fun W hW => ih (n - Tr.half n) (by omega) (i - Tr.half n) (p.take m) _ W (by omega) (by omega) (by omega) (hrest.below hW (Nat.le_refl _)) hrm (by omega)
        have CU : Hid (∀ W, Below w.heap.size w W → Calls Tryz.prog 73 #[.int .i64 (((n - Tr.half n) : Nat) : Int), .int .i64 (((i - Tr.half n) : Nat) : Int), .string ⟨(Tr.leafL s).toArray⟩, .slice (some ⟨b, off, none⟩) m c] W fun e w' => e = .returned (.string ⟨(Tr.upL (n - Tr.half n) (i - Tr.half n) (Tr.leafL s) (p.take m)).toArray⟩) ∧ Below W.heap.size W w') := fun W hW => rup_rec (Tr.leafL s) hdd (n - Tr.half n) (i - Tr.half n) (p.take m) _ W (by omega) (by omega) (by omega) (hrest.below hW (Nat.le_refl _)) hrm (by omega)
        have pl := ptextsL_le (n - Tr.half n) (i - Tr.half n) s (p.take m) (by omega)
        rw [hu]
        generalize Tr.ptextsL (n - Tr.half n) (i - Tr.half n) s (p.take m) = tx at IH pl ⊢
        generalize Tr.upL (n - Tr.half n) (i - Tr.half n) (Tr.leafL s) (p.take m) = x at hxl CU ⊢
        generalize Tr.leafL s = d at CL CU
        generalize p.getD m [] = lst at hck hsl ⊢
        obtain ⟨y, hy⟩ : ∃ y, Hid (Dg.joinL [Tr.tagNode, lst, x] = y) := ⟨_, rfl⟩
        rw [show Tr.nodeT lst x = y from hy.out]
        have CJ : Hid (∀ W, Below w.heap.size w W → Calls Tryz.prog 70 #[.slice (some ⟨W.heap.size, 0, none⟩) 3 3] (W.alloc (.cells #[.string ⟨#[110, 111, 100, 101]⟩, .string ⟨lst.toArray⟩, .string ⟨x.toArray⟩] 9)) fun e w' => e = .returned (.string ⟨y.toArray⟩) ∧ Below W.heap.size W w') := fun W bW => rjoinNew [Tr.tagNode, lst, x] y (Below.refl _ W) (by simp) (by have e : Tr.tagNode.length = 4 := rfl; simp only [capL]; omega) hy
        generalize Tr.half n = k at *
        have e1 : ((n - k : Nat) : Int) = (n : Int) - (k : Int) := by omega
        have e2 : ((i - k : Nat) : Int) = (i : Int) - (k : Int) := by omega
        rw [e1, e2] at IH CU
        clear e1 e2
        rw [hpm] at hc ⊢
        clear ih hu hlast hdl hcell hv hm hrest hrm hrl hlen hp0 hmx hy hdd hxl hsl
        go_enter Tryz.func36, Tryz.ntmps36
        go_wp2_with fail
        refine (HH.out _).mono ?_
        rintro e w1 ⟨rfl, rfl⟩
        go_wp2_with fail
        refine (IH.out _ (Below.refl _ _)).mono ?_
        rintro e w2 ⟨u, rfl, ho, c2⟩
        obtain ⟨ua, uc, rfl⟩ := ho.shape
        have H2 := Lib.hid (And.intro ho c2)
        clear ho c2
        go_wp2_with fail
        refine (CL.out _).mono ?_
        rintro e w3 ⟨rfl, c3⟩
        have H3 := Lib.hid (And.intro (H2.out.1.below c3) (below_next H2.out.2 c3))
        clear c3 H2
        go_wp2_with fail
        refine (CU.out _ H3.out.2).mono ?_
        rintro e w4 ⟨rfl, c4⟩
        have H4 := Lib.hid (And.intro (H3.out.1.below c4) (below_next H3.out.2 c4))
        clear c4 H3
        go_wp2_with fail
        refine (CJ.out _ H4.out.2).mono ?_
        rintro e w5 ⟨rfl, c5⟩
        have H5 := Lib.hid (And.intro (H4.out.1.below c5) (below_next H4.out.2 c5))
        clear c5 H4
        go_wp2_with (at_builtin; refine wpl_app rfl (.tmp 58) (.tmp 72) rfl w.heap.size (.slice ua tx.length uc) tx y rfl rfl H5.out.1 (by omega) H5.out.2.size ?_)
        intro w6 g6 c6 ho6 hb6
        have H6 := Lib.hid (And.intro ho6 (H5.out.2.trans hb6))
        clear ho6 hb6 H5
        go_wp2_with fail
        go_ret
        exact ⟨_, rfl, H6.out.1, H6.out.2⟩
end Go.Proofs.YteoclpjbeadkpaaGreatDoor
/- WALK of the reference 02: Shown, at lists that hold two different texts with one digest. -/
namespace Go.Proofs.YteoclpjbeadkpaaGreatDoor
open Go.RowKit

def hitN (ls : List (List UInt8)) (a b : Nat) : Prop := Dg.sumL (ls.getD a []) = Dg.sumL (ls.getD b []) ∧ ls.getD a [] ≠ ls.getD b []
theorem no_shown {ls : List (List UInt8)} (h : ∀ a b, a < ls.length → b < a → ¬ hitN ls a b) : Tr.shownL ls = false := by
  cases hs : Tr.shownL ls with
  | false => rfl
  | true =>
    unfold Tr.shownL at hs
    rw [List.any_eq_true] at hs
    obtain ⟨x, hx, hs⟩ := hs
    rw [List.any_eq_true] at hs
    obtain ⟨y, hy, hs⟩ := hs
    simp only [Bool.and_eq_true, beq_iff_eq, bne_iff_ne] at hs
    obtain ⟨i, hi, rfl⟩ := List.mem_iff_getElem.1 hx
    obtain ⟨j, hj, rfl⟩ := List.mem_iff_getElem.1 hy
    have e1 : ls.getD i [] = ls[i] := by rw [List.getD_eq_getElem?_getD, List.getElem?_eq_getElem hi]; rfl
    have e2 : ls.getD j [] = ls[j] := by rw [List.getD_eq_getElem?_getD, List.getElem?_eq_getElem hj]; rfl
    rcases Nat.lt_trichotomy i j with h1 | h1 | h1
    · exact absurd ⟨by rw [e1, e2]; exact hs.1.symm, by rw [e1, e2]; exact fun e => hs.2 e.symm⟩ (h j i hj h1)
    · subst h1; exact absurd rfl hs.2
    · exact absurd ⟨by rw [e1, e2]; exact hs.1, by rw [e1, e2]; exact hs.2⟩ (h i j hi h1)
theorem map_getD {ls : List (List UInt8)} {k : Nat} (h : k < ls.length) : (ls.map Dg.sumL).getD k [] = Dg.sumL (ls.getD k []) := by
  simp only [List.getD_eq_getElem?_getD, List.getElem?_map, List.getElem?_eq_getElem h]; rfl

set_option maxHeartbeats 4000000 in
set_option maxRecDepth 100000 in
theorem rshown_any (ls : List (List UInt8)) (v : Value) (w : World) (hv : HasStrsC w v ls) (hm : Mod ls) (hN : ls.length ≤ 1000000) (hs : Hid (Tr.shownL ls = true)) :
    Calls Tryz.prog 34 #[v] w fun e w' => e = .returned (.bool true) ∧ Below w.heap.size w w' := by
  have h0 : 0 < ls.length := by
    cases ls with
    | nil => exact absurd hs.out (by decide)
    | cons x r => simp
  obtain ⟨b, off, c, rfl, hc, hmx, hb, hcell⟩ := hv.parts h0
  have HC := Lib.hid hcell
  clear hcell hv
  go_enter Tryz.func34, Tryz.ntmps34
  go_wp2_with fail
  go_loopw [3, 4] (fun s i wr => ∃ k : Nat, k ≤ ls.length ∧ i = .int .i64 (k : Int) ∧ OwnS w.heap.size wr s ((ls.take k).map Dg.sumL) ∧ Below w.heap.size w wr) (fun _ i _ => ls.length - (intOf i).toNat)
  case atStart => exact ⟨0, by omega, rfl, by simpa using OwnS.nil _ _, Below.refl _ _⟩
  case round =>
    obtain ⟨k, hk, rfl, hown, hbw⟩ := hrel
    have hkz : (0 : Int) ≤ (k : Int) := by omega
    by_cases hkl : k < ls.length
    · have f0 := (hbw.cell (p := ⟨b, off + k, none⟩) hb).trans (HC.out k hkl)
      have hx : (ls.getD k []).length ≤ 35184372088832 := hm _ (by rw [List.getD_eq_getElem?_getD, List.getElem?_eq_getElem hkl]; exact List.getElem_mem hkl)
      have HS : Hid ((ls.take (k + 1)).map Dg.sumL = (ls.take k).map Dg.sumL ++ [Dg.sumL (ls.getD k [])]) := by
        unfold Hid
        rw [List.take_succ_eq_append_getElem hkl, List.map_append, List.getD_eq_getElem?_getD, List.getElem?_eq_getElem hkl]; rfl
      have hln : ((ls.take k).map Dg.sumL).length ≤ 1000000 := by rw [List.length_map, List.length_take]; omega
      have C := Lib.hid (fun W => rsum_any (ls.getD k []) W (by omega))
      have hsz := hbw.size
      generalize (ls.take k).map Dg.sumL = os at hown HS hln
      generalize Dg.sumL (ls.getD k []) = x at C HS
      generalize ls.getD k [] = t at f0 hx C
      have H1 := Lib.hid (And.intro hown hbw)
      clear hown hbw
      go_wp2_with fail
      refine (C.out _).mono ?_
      rintro e w1 ⟨rfl, rfl⟩
      go_wp2_with (at_builtin; refine wpl_app rfl (.tmp 13) (.tmp 19) rfl w.heap.size _ os x rfl rfl H1.out.1 (by omega) hsz ?_)
      intro w2 g2 c2 ho2 hb2
      have H2 := Lib.hid (And.intro ho2 (H1.out.2.trans hb2))
      clear ho2 hb2 H1
      go_wp2_with fail
      go_roundw
      case rel => exact ⟨k + 1, by omega, by go_num, by rw [HS.out]; exact H2.out.1, H2.out.2⟩
      case measure => simp [intOf]; omega
    · obtain rfl : k = ls.length := by omega
      rw [List.take_length] at hown
      have hsum := OwnS.has hown (by rw [List.length_map]; omega)
      obtain ⟨b2, off2, c2, rfl, hcc, _, hb2, hcell2⟩ := hsum.parts (by rw [List.length_map]; exact h0)
      rw [List.length_map] at hcell2 ⊢
      have HC1 : Hid (∀ j, j < ls.length → wr.cell? ⟨b, off + j, none⟩ = some (.string ⟨(ls.getD j []).toArray⟩)) := fun j hj => (hbw.cell (p := ⟨b, off + j, none⟩) hb).trans (HC.out j hj)
      have HC2 : Hid (∀ j, j < ls.length → wr.cell? ⟨b2, off2 + j, none⟩ = some (.string ⟨(Dg.sumL (ls.getD j [])).toArray⟩)) := fun j hj => by rw [hcell2 j hj, map_getD hj]
      have HB := Lib.hid hbw
      clear hown hsum hcell2 hbw hcc
      go_wp2_with fail
      go_loopw [5] (fun i w2 => ∃ k q : Nat, k ≤ ls.length ∧ i = .int .i64 (k : Int) ∧ w2 = wr.drewN q ∧ Hid (∀ a b, a < k → b < a → ¬ hitN ls a b)) (fun i _ => ls.length - (intOf i).toNat)
      case atStart => exact ⟨0, 0, by omega, rfl, rfl, fun a b h => absurd h (by omega)⟩
      case round =>
        obtain ⟨i, q, hi, rfl, rfl, HNo⟩ := hrel
        have hiz : (0 : Int) ≤ (i : Int) := by omega
        by_cases hil : i < ls.length
        · have hiI : (i : Int) < (ls.length : Int) := by omega
          go_wp2_with fail
          go_loopw [6] (fun j w2 => ∃ k q : Nat, k ≤ i ∧ j = .int .i64 (k : Int) ∧ w2 = wr.drewN q ∧ Hid (∀ b, b < k → ¬ hitN ls i b)) (fun j _ => i - (intOf j).toNat)
          case atStart => exact ⟨0, q, by omega, rfl, rfl, fun b h => absurd h (by omega)⟩
          case round =>
            obtain ⟨k, q, hk, rfl, rfl, HN2⟩ := hrel
            have hkz : (0 : Int) ≤ (k : Int) := by omega
            by_cases hki : k < i
            · have hkI : (k : Int) < (ls.length : Int) := by omega
              have f1 := HC1.out i hil
              have f2 := HC1.out k (by omega)
              have f3 := HC2.out i hil
              have f4 := HC2.out k (by omega)
              have HH : Hid (hitN ls i k ↔ (Dg.sumL (ls.getD i []) = Dg.sumL (ls.getD k []) ∧ ls.getD i [] ≠ ls.getD k [])) := Iff.rfl
              generalize Dg.sumL (ls.getD i []) = s1 at f3 HH
              generalize Dg.sumL (ls.getD k []) = s2 at f4 HH
              generalize ls.getD i [] = t1 at f1 HH
              generalize ls.getD k [] = t2 at f2 HH
              by_cases h1 : s1 = s2
              · subst h1
                by_cases h2 : t1 = t2
                · subst h2
                  have hn := HH.out
                  have HN3 : Hid (∀ b, b < k + 1 → ¬ hitN ls i b) := fun b hb => by
                    rcases Nat.lt_succ_iff_lt_or_eq.1 hb with h | rfl
                    · exact HN2.out b h
                    · exact fun h => (hn.1 h).2 rfl
                  clear hn
                  go_wp2_with fail
                  go_quiet (fail)
                  go_wp2_with fail
                  go_roundw
                  case rel => exact ⟨k + 1, q + nq, by omega, by go_num, rfl, HN3⟩
                  case measure => simp [intOf]; omega
                · have hb1 : (t1 == t2) = false := by simpa using h2
                  go_wp2_with fail
                  go_quiet (fail)
                  go_wp2_with fail
                  go_ret
                  exact ⟨by simp, below_next HB.out ((below_drewN _ _ q).trans (below_drewN _ _ nq))⟩
              · have hb1 : (s1 == s2) = false := by simpa using h1
                have HN3 : Hid (∀ b, b < k + 1 → ¬ hitN ls i b) := fun b hb => by
                  rcases Nat.lt_succ_iff_lt_or_eq.1 hb with h | rfl
                  · exact HN2.out b h
                  · exact fun h => h1 (HH.out.1 h).1
                go_wp2_with fail
                go_quiet (fail)
                go_wp2_with fail
                go_roundw
                case rel => exact ⟨k + 1, q + nq, by omega, by go_num, rfl, HN3⟩
                case measure => simp [intOf]; omega
            · obtain rfl : k = i := by omega
              have HN4 : Hid (∀ a b, a < k + 1 → b < a → ¬ hitN ls a b) := fun a b ha hb => by
                rcases Nat.lt_succ_iff_lt_or_eq.1 ha with h | rfl
                · exact HNo.out a b h hb
                · exact HN2.out b hb
              go_wp2_with fail
              go_roundw
              case rel => exact ⟨k + 1, q, by omega, by go_num, rfl, HN4⟩
              case measure => simp [intOf]; omega
        · obtain rfl : i = ls.length := by omega
          have := no_shown HNo.out
          rw [hs.out] at this
          cases this
end Go.Proofs.YteoclpjbeadkpaaGreatDoor
/- WALK: ProofSound. -/
namespace Go.Proofs.YteoclpjbeadkpaaGreatDoor
open Go.RowKit Go.Shelf Go.Maps

/-- No item ahead of a place is the one that a proof speaks of. -/
def NoM (l : List Co.It) (index : Int) (x : Co.It) (k : Nat) : Prop := ∀ j (h : j < l.length), j < k → (l[j]).gone = false → (Pf.liveN l j : Int) = index → ¬ ((l[j]).kind = x.kind ∧ (l[j]).id = x.id ∧ (l[j]).parent = x.parent ∧ (l[j]).north = x.north ∧ (l[j]).south = x.south)
theorem noM_step {l : List Co.It} {index : Int} {x : Co.It} {k : Nat} (h : NoM l index x k) (hk : k < l.length) : ((l[k]).gone = false → (Pf.liveN l k : Int) = index → ¬ ((l[k]).kind = x.kind ∧ (l[k]).id = x.id ∧ (l[k]).parent = x.parent ∧ (l[k]).north = x.north ∧ (l[k]).south = x.south)) → NoM l index x (k + 1) := by
  intro hn j hj hjk hg he
  rcases Nat.lt_succ_iff_lt_or_eq.1 hjk with h1 | rfl
  · exact h j hj h1 hg he
  · exact hn hg he
def SdS (w : World) (bc bp : Nat) (oc op : Obj) (u : Value) (ls : List (List UInt8)) (wr : World) : Prop := Below w.heap.size w wr ∧ wr.heap[bc]? = some oc ∧ wr.heap[bp]? = some op ∧ HasStrsC wr u ls
theorem live_at {l : List Co.It} {n : Nat} : ∀ {k : Nat}, k ≤ l.length → n < Pf.liveN l k → ∃ j, ∃ h : j < l.length, j < k ∧ (l[j]).gone = false ∧ Pf.liveN l j = n := by
  intro k
  induction k with
  | zero => intro _ h; simp [Pf.liveN, Co.liveL] at h
  | succ k ih =>
    intro hk h
    by_cases h1 : n < Pf.liveN l k
    · obtain ⟨j, hj, h2, h3⟩ := ih (by omega) h1
      exact ⟨j, hj, by omega, h3⟩
    · have hs := Pf.liveN_step l k (by omega)
      cases hg : (l[k]).gone with
      | true => rw [hg] at hs; simp at hs; omega
      | false => rw [hg] at hs; simp at hs; exact ⟨k, by omega, by omega, hg, by omega⟩
/-- What a proof that holds says: its Item is the item at its Index, or two texts are shown. -/
theorem check_sound {l : List Co.It} (ho : CodeOk2 l) (h : Co.validL l = true) (hf : ∀ x ∈ l, x.id.length ≤ 500 ∧ x.parent.length ≤ 500 ∧ x.number.length ≤ 500 ∧ x.north.length ≤ 500 ∧ x.south.length ≤ 500) {root : List UInt8} (hr : Tr.rootL (Co.leavesL l) = root) {index : Int} {x : Co.It} {path : List (List UInt8)}
    (hfew : Pf.fewL ⟨((Co.leavesL l).length : Int), index, x, path⟩ = true) (hc : Pf.checkL root ⟨((Co.leavesL l).length : Int), index, x, path⟩ = true) :
    0 ≤ index ∧ index < ((Co.leavesL l).length : Int) ∧ x.number = [] ∧ x.gone = false ∧ path.length = Tr.lenL (Co.leavesL l).length index.toNat ∧
      (NoM l index x l.length → Tr.shownL (Tr.textsL (Co.leavesL l) ++ Tr.ptextsL (Co.leavesL l).length index.toNat (Co.leafL x) path) = true) := by
  unfold Pf.checkL at hc
  simp only [Bool.and_eq_true] at hc
  obtain ⟨⟨⟨hk, hn⟩, hg⟩, ht⟩ := hc
  have hlm := leavesL_mod ho
  have hfw := (Pf.few_iff _).1 hfew
  simp only at hfw
  have hleaf : (Co.leafL x).length ≤ 10000000 := leaf_small2 x ⟨by omega, by omega, by omega, by omega⟩
  have hpl : path.length = Tr.lenL (Co.leavesL l).length index.toNat := by
    have h2 := ht
    unfold Tr.checkL at h2
    simp only [Bool.and_eq_true, beq_iff_eq] at h2
    have := h2.1.2
    simpa using this
  obtain ⟨h1, h2, h3⟩ := Tr.sound_check (fun t ht => by have := hlm t ht; unfold Tr.Small; omega) (by unfold Tr.Small; omega) (fun t ht => by have := hfw.2.2.2.2 t ht; unfold Tr.Small; omega) rfl hr.symm ht
  refine ⟨h1, h2, by simpa using hn, by simpa using hg, hpl, fun hno => ?_⟩
  rcases h3 with e | e
  · exfalso
    have hln := leavesL_liveN h
    obtain ⟨j, hj, _, hgj, hlj⟩ := live_at (l := l) (n := index.toNat) (Nat.le_refl _) (by omega)
    have e2 := (leaves_at h hj hgj).2
    rw [hlj, e] at e2
    have hkx : x.kind = 1 ∨ x.kind = 2 := by simp only [Bool.or_eq_true, beq_iff_eq] at hk; omega
    have hsm : ∀ y : Co.It, y.id.length ≤ 600 ∧ y.parent.length ≤ 600 ∧ y.north.length ≤ 600 ∧ y.south.length ≤ 600 → Co.ItSmall y := fun y hy => by unfold Co.ItSmall Tr.Small; omega
    have hfj := hf _ (List.getElem_mem hj)
    have e3 := Co.leafL_inj (hsm x (by omega)) (hsm l[j] (by omega)) hkx (valid_kind h _ (List.getElem_mem hj)) e2
    exact hno j hj hj hgj (by omega) ⟨e3.1.symm, e3.2.1.symm, e3.2.2.1.symm, e3.2.2.2.1.symm, e3.2.2.2.2.symm⟩
  · simpa using e

abbrev Tok (x : Co.It) : Prop := TxtOk x
theorem tok_few {count index : Int} {x : Co.It} {path : List (List UInt8)} (h : Pf.fewL ⟨count, index, x, path⟩ = true) : Tok x := by
  obtain ⟨h1, h2, h3, h4, h5⟩ := (Pf.few_iff _).1 h
  simp only at h1 h2 h3
  exact ⟨by omega, by omega, by omega, by omega⟩
theorem path_mod {count index : Int} {x : Co.It} {path : List (List UInt8)} (h : Pf.fewL ⟨count, index, x, path⟩ = true) : Mod path := fun t ht => by
  have := ((Pf.few_iff _).1 h).2.2.2.2 t ht
  omega
theorem path_small {count index : Int} {x : Co.It} {path : List (List UInt8)} (h : Pf.fewL ⟨count, index, x, path⟩ = true) : ∀ t ∈ path, t.length ≤ 100 := ((Pf.few_iff _).1 h).2.2.2.2
theorem leavesL_small {l : List Co.It} (h : CodeOk2 l) : ∀ t ∈ Co.leavesL l, t.length ≤ 10000000 := by
  intro t ht
  unfold Co.leavesL at ht
  split at ht
  · obtain ⟨y, hy, rfl⟩ := List.mem_map.mp ht
    exact leaf_small2 y (h.2 y (List.mem_filter.mp hy).1)
  · cases ht
theorem leafT_len (s : List UInt8) : (Tr.leafT s).length ≤ s.length + 46 := by
  have h := joinL_cap [Tr.tagLeaf, s]
  have e : Tr.tagLeaf.length = 4 := rfl
  simp only [capL] at h
  unfold Tr.leafT; omega
theorem nodeT_len (a b : List UInt8) : (Tr.nodeT a b).length ≤ a.length + b.length + 67 := by
  have h := joinL_cap [Tr.tagNode, a, b]
  have e : Tr.tagNode.length = 4 := rfl
  simp only [capL] at h
  unfold Tr.nodeT; omega
theorem textsL_mod' (n : Nat) : ∀ ls : List (List UInt8), ls.length = n → (∀ t ∈ ls, t.length ≤ 10000000) → ∀ t ∈ Tr.textsL ls, t.length ≤ 20000000 := by
  induction n using Nat.strongRecOn with
  | ind n ih =>
    intro ls hn hs t ht
    by_cases h : n ≤ 1
    · match ls, hn with
      | [], _ => rw [Tr.textsL_nil] at ht; rw [List.mem_singleton.1 ht]; decide
      | [x], _ =>
        rw [Tr.textsL_one] at ht
        rw [List.mem_singleton.1 ht]
        have := leafT_len x
        have := hs x (by simp)
        omega
      | x :: y :: r, hn => simp only [List.length_cons] at hn; omega
    · have hb := Tr.half_bounds (n := n) (by omega)
      rw [Tr.textsL_two ls (by omega), hn] at ht
      rcases List.mem_append.1 ht with ht | ht
      · rcases List.mem_append.1 ht with ht | ht
        · exact ih _ hb.2 _ (by rw [List.length_take]; omega) (fun t ht => hs t (List.mem_of_mem_take ht)) t ht
        · exact ih (n - Tr.half n) (by omega) (ls.drop (Tr.half n)) (by rw [List.length_drop, hn]) (fun t ht => hs t (List.mem_of_mem_drop ht)) t ht
      · rw [List.mem_singleton.1 ht]
        have := nodeT_len (Tr.rootL (ls.take (Tr.half n))) (Tr.rootL (ls.drop (Tr.half n)))
        have e1 : (Tr.rootL (ls.take (Tr.half n))).length = 16 := rootL_length _
        have e2 : (Tr.rootL (ls.drop (Tr.half n))).length = 16 := rootL_length _
        omega
theorem textsL_mod (ls : List (List UInt8)) (h : ∀ t ∈ ls, t.length ≤ 10000000) : Mod (Tr.textsL ls) := fun t ht => Nat.le_trans (textsL_mod' _ ls rfl h t ht) (by decide)
theorem ptextsL_pos (n i : Nat) (s : List UInt8) (p : List (List UInt8)) : 0 < (Tr.ptextsL n i s p).length := by
  by_cases h : n ≤ 1
  · rw [Tr.ptextsL_one _ _ _ _ h]; simp
  · by_cases c : i < Tr.half n
    · rw [Tr.ptextsL_left _ _ _ _ (by omega) c]; simp
    · rw [Tr.ptextsL_right _ _ _ _ (by omega) (by omega)]; simp
theorem last_len {p : List (List UInt8)} (h : ∀ t ∈ p, t.length ≤ 100) : (p.getLastD []).length ≤ 100 := by
  cases hp : p with
  | nil => simp
  | cons a r =>
    rw [← hp]
    have : p.getLastD [] = p.getLast (by rw [hp]; simp) := by simp [List.getLastD_eq_getLast?, List.getLast?_eq_some_getLast (show p ≠ [] by rw [hp]; simp)]
    rw [this]
    exact h _ (List.getLast_mem _)
theorem up_len16 (n i : Nat) (s : List UInt8) (p : List (List UInt8)) : (Tr.upL n i (Tr.leafL s) p).length = 16 := by
  by_cases h : n ≤ 1
  · rw [Tr.upL_one _ _ _ _ h]; exact Dg.sumL_length _
  · by_cases c : i < Tr.half n
    · rw [Tr.upL_left _ _ _ _ (by omega) c]; exact Dg.sumL_length _
    · rw [Tr.upL_right _ _ _ _ (by omega) (by omega)]; exact Dg.sumL_length _
theorem ptextsL_mod' (n : Nat) : ∀ (i : Nat) (s : List UInt8) (p : List (List UInt8)), s.length ≤ 10000000 → (∀ t ∈ p, t.length ≤ 100) → ∀ t ∈ Tr.ptextsL n i s p, t.length ≤ 20000000 := by
  induction n using Nat.strongRecOn with
  | ind n ih =>
    intro i s p hs hp t ht
    have hd : ∀ t ∈ p.dropLast, t.length ≤ 100 := fun t ht => hp t (List.dropLast_subset _ ht)
    have hl := last_len hp
    by_cases h : n ≤ 1
    · rw [Tr.ptextsL_one _ _ _ _ h] at ht
      rw [List.mem_singleton.1 ht]
      have := leafT_len s
      omega
    · have hb := Tr.half_bounds (n := n) (by omega)
      by_cases c : i < Tr.half n
      · rw [Tr.ptextsL_left _ _ _ _ (by omega) c] at ht
        rcases List.mem_append.1 ht with ht | ht
        · exact ih _ hb.2 _ _ _ hs hd t ht
        · rw [List.mem_singleton.1 ht]
          have := nodeT_len (Tr.upL (Tr.half n) i (Tr.leafL s) p.dropLast) (p.getLastD [])
          rw [up_len16] at this
          omega
      · rw [Tr.ptextsL_right _ _ _ _ (by omega) (by omega)] at ht
        rcases List.mem_append.1 ht with ht | ht
        · exact ih _ (by omega) _ _ _ hs hd t ht
        · rw [List.mem_singleton.1 ht]
          have := nodeT_len (p.getLastD []) (Tr.upL (n - Tr.half n) (i - Tr.half n) (Tr.leafL s) p.dropLast)
          rw [up_len16] at this
          omega
theorem ptextsL_mod (n i : Nat) (s : List UInt8) (p : List (List UInt8)) (hs : s.length ≤ 10000000) (hp : ∀ t ∈ p, t.length ≤ 100) : Mod (Tr.ptextsL n i s p) := fun t ht => Nat.le_trans (ptextsL_mod' n i s p hs hp t ht) (by decide)

set_option maxHeartbeats 32000000 in
set_option maxRecDepth 100000 in
theorem soundLaw_any (l : List Co.It) (v : Value) (p : Pf.Pr) (pv : Value) (w : World) (ht : Tab w) (hv : HasIts w v l) (hl : l.length ≤ 140737488355328) (hcap : ∃ a c, v = .slice a l.length c ∧ l.length ≤ c) (hin : ∀ t ∈ l, ItIn t ∧ ItSz t) (hp : HasStrsC w pv p.path) (hpi : PrIn p) :
    Calls Tryz.prog 5 #[.agg #[v], prV p pv] w fun e w' => e = .returned (.bool true) ∧ Below w.heap.size w w' := by
  have hmm := @run_makeMap Tryz.prog
  obtain ⟨sb, hsb⟩ : ∃ sb, Hid (Co.fewC l 20 = sb) := ⟨_, rfl⟩
  obtain ⟨vb, hvb⟩ : ∃ vb, Hid (Co.validL l = vb) := ⟨_, rfl⟩
  obtain ⟨fb, hfb⟩ : ∃ fb, Hid (Pf.fewL p = fb) := ⟨_, rfl⟩
  have hpm : ItMax p.item ∧ ∀ t ∈ p.path, t.length ≤ 9223372036854775807 := prMax hpi
  have Hmax : Hid (∀ x ∈ l, ItMax x) := fun x hx => (hin x hx).2
  obtain ⟨va, vc, rfl, hcap⟩ := hcap
  obtain ⟨pa, pc, rfl⟩ : ∃ pa pc, pv = .slice pa p.path.length pc := by obtain ⟨_, pa, pc, e, _⟩ := hp; exact ⟨pa, pc, e⟩
  obtain ⟨count, index, ⟨pkind, pid, pparent, pnumber, pnorth, psouth, pgone⟩, path⟩ := p
  simp only [prV]
  simp only at hpm hp hpi
  have Hv := Lib.hid hv
  have Hp := Lib.hid hp
  have Hpi := Lib.hid hpi
  have Hpm := Lib.hid hpm
  clear hv hin hp hpi hpm
  go_enter Tryz.func5, Tryz.ntmps5
  have bel := Below.refl w.heap.size w
  have Hbel := Lib.hid bel
  clear bel
  go_wp2_with fail
  have bel := Hbel.out
  clear Hbel
  obtain ⟨w1, hw⟩ : ∃ z, (w.alloc (.cells #[.slice va l.length vc] 24)).alloc (.cells #[.int .i64 count, .int .i64 index, .int .i64 pkind, .string ⟨pid.toArray⟩, .string ⟨pparent.toArray⟩, .string ⟨pnumber.toArray⟩, .string ⟨pnorth.toArray⟩, .string ⟨psouth.toArray⟩, .bool pgone, .slice pa path.length pc] 29) = z := ⟨_, rfl⟩
  have c : Below w.heap.size w w1 := by rw [← hw]; exact ((Below.refl _ _).alloc (Nat.le_refl _) _).alloc (by simp) _
  have mc : w1.heap[w.heap.size]? = some (.cells #[.slice va l.length vc] 24 (0, 0)) := by rw [← hw]; exact (heap_alloc_lt _ _ _ (by simp)).trans (heap_alloc_at _ _)
  have mp : w1.heap[w.heap.size + 1]? = some (.cells #[.int .i64 count, .int .i64 index, .int .i64 pkind, .string ⟨pid.toArray⟩, .string ⟨pparent.toArray⟩, .string ⟨pnumber.toArray⟩, .string ⟨pnorth.toArray⟩, .string ⟨psouth.toArray⟩, .bool pgone, .slice pa path.length pc] 29 (0, 0)) := by rw [← hw]; have e := heap_alloc_at (w.alloc (.cells #[.slice va l.length vc] 24)) (.cells #[.int .i64 count, .int .i64 index, .int .i64 pkind, .string ⟨pid.toArray⟩, .string ⟨pparent.toArray⟩, .string ⟨pnumber.toArray⟩, .string ⟨pnorth.toArray⟩, .string ⟨psouth.toArray⟩, .bool pgone, .slice pa path.length pc] 29); rw [World.size_alloc] at e; exact e
  rw [hw]
  clear hw
  replace bel := below_next bel c
  clear c
  obtain ⟨bp, hb⟩ : ∃ b, w.heap.size + 1 = b := ⟨_, rfl⟩
  rw [hb] at mp ⊢
  clear hb
  obtain ⟨bc, hb⟩ : ∃ b, w.heap.size = b := ⟨_, rfl⟩
  rw [hb] at mc ⊢
  clear hb
  refine (head44_any _ (ht.below bel (Nat.le_refl _))).mono ?_
  rintro e w2 ⟨rfl, c⟩
  replace bel := below_next bel c
  replace mc := (c.block _ (Array.getElem?_eq_some_iff.1 mc).1).trans mc
  replace mp := (c.block _ (Array.getElem?_eq_some_iff.1 mp).1).trans mp
  clear c
  have q_mc_0 := cell_of_heap (i := 0) mc
  have Hbel := Lib.hid bel
  have Hmc := Lib.hid mc
  have Hmp := Lib.hid mp
  clear bel mc mp
  go_wp2_with fail
  have bel := Hbel.out
  have mc := Hmc.out
  have mp := Hmp.out
  clear Hbel Hmc Hmp
  clear q_mc_0
  refine (small_any l _ _ (Hv.out.below bel (Nat.le_refl _)) (by omega) Hmax.out sb hsb).mono ?_
  rintro e w3 ⟨rfl, c⟩
  replace bel := below_next bel c
  replace mc := (c.block _ (Array.getElem?_eq_some_iff.1 mc).1).trans mc
  replace mp := (c.block _ (Array.getElem?_eq_some_iff.1 mp).1).trans mp
  clear c
  cases sb
  · skip
    have Hbel := Lib.hid bel
    have Hmc := Lib.hid mc
    have Hmp := Lib.hid mp
    clear bel mc mp
    go_wp2_with fail
    have bel := Hbel.out
    have mc := Hmc.out
    have mp := Hmp.out
    clear Hbel Hmc Hmp
    go_ret
    exact ⟨rfl, bel⟩
  · skip
    have Hok := Lib.hid (codeOk2_few hsb.out)
    have hl20 : l.length ≤ 20 := Co.fewC_len hsb.out
    have q_mp_0 := cell_of_heap (i := 0) mp
    have q_mp_1 := cell_of_heap (i := 1) mp
    have q_mp_2 := cell_of_heap (i := 2) mp
    have q_mp_3 := cell_of_heap (i := 3) mp
    have q_mp_4 := cell_of_heap (i := 4) mp
    have q_mp_5 := cell_of_heap (i := 5) mp
    have q_mp_6 := cell_of_heap (i := 6) mp
    have q_mp_7 := cell_of_heap (i := 7) mp
    have q_mp_8 := cell_of_heap (i := 8) mp
    have q_mp_9 := cell_of_heap (i := 9) mp
    have Hbel := Lib.hid bel
    have Hmc := Lib.hid mc
    have Hmp := Lib.hid mp
    clear bel mc mp
    go_wp2_with fail
    have bel := Hbel.out
    have mc := Hmc.out
    have mp := Hmp.out
    clear Hbel Hmc Hmp
    clear q_mp_0 q_mp_1 q_mp_2 q_mp_3 q_mp_4 q_mp_5 q_mp_6 q_mp_7 q_mp_8 q_mp_9
    refine (few44_any ⟨count, index, ⟨pkind, pid, pparent, pnumber, pnorth, psouth, pgone⟩, path⟩ _ _ (Hp.out.below bel (Nat.le_refl _)) Hpm.out.1 Hpm.out.2 fb hfb).mono ?_
    rintro e w4 ⟨rfl, c⟩
    replace bel := below_next bel c
    replace mc := (c.block _ (Array.getElem?_eq_some_iff.1 mc).1).trans mc
    replace mp := (c.block _ (Array.getElem?_eq_some_iff.1 mp).1).trans mp
    clear c
    cases fb
    · skip
      have Hbel := Lib.hid bel
      have Hmc := Lib.hid mc
      have Hmp := Lib.hid mp
      clear bel mc mp
      go_wp2_with fail
      have bel := Hbel.out
      have mc := Hmc.out
      have mp := Hmp.out
      clear Hbel Hmc Hmp
      go_ret
      exact ⟨rfl, bel⟩
    · skip
      have hpo : PrOk ⟨count, index, ⟨pkind, pid, pparent, pnumber, pnorth, psouth, pgone⟩, path⟩ := prOk_few hfb.out Hpi.out
      have Hpo := Lib.hid hpo
      clear hpo
      have q_mc_0 := cell_of_heap (i := 0) mc
      have Hbel := Lib.hid bel
      have Hmc := Lib.hid mc
      have Hmp := Lib.hid mp
      clear bel mc mp
      go_wp2_with fail
      have bel := Hbel.out
      have mc := Hmc.out
      have mp := Hmp.out
      clear Hbel Hmc Hmp
      clear q_mc_0
      refine (valid_any l _ _ (Hv.out.below bel (Nat.le_refl _)) Hok.out.1 vb hvb).mono ?_
      rintro e w5 ⟨rfl, c⟩
      replace bel := below_next bel c
      replace mc := (c.block _ (Array.getElem?_eq_some_iff.1 mc).1).trans mc
      replace mp := (c.block _ (Array.getElem?_eq_some_iff.1 mp).1).trans mp
      clear c
      cases vb
      · skip
        have Hbel := Lib.hid bel
        have Hmc := Lib.hid mc
        have Hmp := Lib.hid mp
        clear bel mc mp
        go_wp2_with fail
        have bel := Hbel.out
        have mc := Hmc.out
        have mp := Hmp.out
        clear Hbel Hmc Hmp
        go_ret
        exact ⟨rfl, bel⟩
      · skip
        have q_mc_0 := cell_of_heap (i := 0) mc
        have Hbel := Lib.hid bel
        have Hmc := Lib.hid mc
        have Hmp := Lib.hid mp
        clear bel mc mp
        go_wp2_with fail
        have bel := Hbel.out
        have mc := Hmc.out
        have mp := Hmp.out
        clear Hbel Hmc Hmp
        clear q_mc_0
        refine (leaves_any l _ _ (ht.below bel (Nat.le_refl _)) (Hv.out.below bel (Nat.le_refl _)) Hok.out).mono ?_
        rintro e w6 ⟨u, rfl, hu, c⟩
        replace bel := below_next bel c
        replace mc := (c.block _ (Array.getElem?_eq_some_iff.1 mc).1).trans mc
        replace mp := (c.block _ (Array.getElem?_eq_some_iff.1 mp).1).trans mp
        clear c
        have lv := OwnS.has hu (leavesL_len hl20)
        clear hu
        obtain ⟨ua, uc, rfl⟩ := lv.1.shape
        obtain ⟨root, hroot⟩ : ∃ r, Hid (Tr.rootL (Co.leavesL l) = r) := ⟨_, rfl⟩
        have Hlm := Lib.hid (leavesL_mod Hok.out)
        have hll : (Co.leavesL l).length ≤ 20 := Nat.le_trans (leavesL_le l) hl20
        have Hln : Hid ((Co.leavesL l).length = Pf.liveN l l.length) := leavesL_liveN hvb.out
        obtain ⟨cb, hcb⟩ : ∃ cb, Hid (Pf.checkL root ⟨count, index, ⟨pkind, pid, pparent, pnumber, pnorth, psouth, pgone⟩, path⟩ = cb) := ⟨_, rfl⟩
        by_cases hcnt : count = ((Co.leavesL l).length : Int)
        · skip
          obtain rfl := hcnt
          have m0 := cell_of_heap (i := 0) mp
          have m1 := cell_of_heap (i := 1) mp
          have m2 := cell_of_heap (i := 2) mp
          have m3 := cell_of_heap (i := 3) mp
          have m4 := cell_of_heap (i := 4) mp
          have m5 := cell_of_heap (i := 5) mp
          have m6 := cell_of_heap (i := 6) mp
          have m7 := cell_of_heap (i := 7) mp
          have m8 := cell_of_heap (i := 8) mp
          have m9 := cell_of_heap (i := 9) mp
          have SB : Hid (∀ Y, Below w6.heap.size w6 Y → (fun Y => Y.cell? ⟨bp, 0, none⟩ = some (.int .i64 ((Co.leavesL l).length : Int)) ∧ Y.cell? ⟨bp, 1, none⟩ = some (.int .i64 index) ∧ Y.cell? ⟨bp, 2, none⟩ = some (.int .i64 pkind) ∧ Y.cell? ⟨bp, 3, none⟩ = some (.string ⟨pid.toArray⟩) ∧ Y.cell? ⟨bp, 4, none⟩ = some (.string ⟨pparent.toArray⟩) ∧ Y.cell? ⟨bp, 5, none⟩ = some (.string ⟨pnumber.toArray⟩) ∧ Y.cell? ⟨bp, 6, none⟩ = some (.string ⟨pnorth.toArray⟩) ∧ Y.cell? ⟨bp, 7, none⟩ = some (.string ⟨psouth.toArray⟩) ∧ Y.cell? ⟨bp, 8, none⟩ = some (.bool pgone) ∧ Y.cell? ⟨bp, 9, none⟩ = some (.slice pa path.length pc) ∧ Below w6.heap.size w6 Y) Y) := fun Y hb => ⟨(hb.cell (p := ⟨bp, 0, none⟩) (Array.getElem?_eq_some_iff.1 mp).1).trans (cell_of_heap mp), (hb.cell (p := ⟨bp, 1, none⟩) (Array.getElem?_eq_some_iff.1 mp).1).trans (cell_of_heap mp), (hb.cell (p := ⟨bp, 2, none⟩) (Array.getElem?_eq_some_iff.1 mp).1).trans (cell_of_heap mp), (hb.cell (p := ⟨bp, 3, none⟩) (Array.getElem?_eq_some_iff.1 mp).1).trans (cell_of_heap mp), (hb.cell (p := ⟨bp, 4, none⟩) (Array.getElem?_eq_some_iff.1 mp).1).trans (cell_of_heap mp), (hb.cell (p := ⟨bp, 5, none⟩) (Array.getElem?_eq_some_iff.1 mp).1).trans (cell_of_heap mp), (hb.cell (p := ⟨bp, 6, none⟩) (Array.getElem?_eq_some_iff.1 mp).1).trans (cell_of_heap mp), (hb.cell (p := ⟨bp, 7, none⟩) (Array.getElem?_eq_some_iff.1 mp).1).trans (cell_of_heap mp), (hb.cell (p := ⟨bp, 8, none⟩) (Array.getElem?_eq_some_iff.1 mp).1).trans (cell_of_heap mp), (hb.cell (p := ⟨bp, 9, none⟩) (Array.getElem?_eq_some_iff.1 mp).1).trans (cell_of_heap mp), hb⟩
          have CR : Hid (∀ A, Below w6.heap.size w6 A → Calls Tryz.prog 33 #[.slice ua (Co.leavesL l).length uc] A fun e w' => e = .returned (.string ⟨root.toArray⟩) ∧ Below w6.heap.size w6 w') := fun A hA => (root_any (Co.leavesL l) _ root _ (ht.below (below_next bel hA) (Nat.le_refl _)) (lv.below hA (Nat.le_refl _)) Hlm.out hroot).mono fun e w' ⟨h1, h2⟩ => ⟨h1, below_next hA h2⟩
          have CK : Hid (∀ A, Below w6.heap.size w6 A → Calls Tryz.prog 17 #[.string ⟨root.toArray⟩, .agg #[.int .i64 ((Co.leavesL l).length : Int), .int .i64 index, .int .i64 pkind, .string ⟨pid.toArray⟩, .string ⟨pparent.toArray⟩, .string ⟨pnumber.toArray⟩, .string ⟨pnorth.toArray⟩, .string ⟨psouth.toArray⟩, .bool pgone, .slice pa path.length pc]] A fun e w' => e = .returned (.bool cb) ∧ Below w6.heap.size w6 w') := fun A hA => (checkP_any root ⟨((Co.leavesL l).length : Int), index, ⟨pkind, pid, pparent, pnumber, pnorth, psouth, pgone⟩, path⟩ _ cb _ (ht.below (below_next bel hA) (Nat.le_refl _)) (Hp.out.below (below_next bel hA) (Nat.le_refl _)) Hpo.out hcb).mono fun e w' ⟨h1, h2⟩ => ⟨h1, below_next hA h2⟩
          clear m0 m1 m2 m3 m4 m5 m6 m7 m8 m9
          have Hbel := Lib.hid bel
          have Hmc := Lib.hid mc
          have Hmp := Lib.hid mp
          have Hlv := Lib.hid lv
          clear bel mc mp lv
          go_wp2_with fail
          have bel := Hbel.out
          have mc := Hmc.out
          have mp := Hmp.out
          have lv := Hlv.out
          clear Hbel Hmc Hmp Hlv
          have hS0 := SB.out _ (Below.refl _ _)
          have hS1 := SB.out _ (Below.refl w6.heap.size w6).drew
          try simp only at hS0 hS1
          have Hbel := Lib.hid bel
          have Hmc := Lib.hid mc
          have Hmp := Lib.hid mp
          have Hlv := Lib.hid lv
          clear bel mc mp lv
          go_region_held3 (fun Y => Y.cell? ⟨bp, 0, none⟩ = some (.int .i64 ((Co.leavesL l).length : Int)) ∧ Y.cell? ⟨bp, 1, none⟩ = some (.int .i64 index) ∧ Y.cell? ⟨bp, 2, none⟩ = some (.int .i64 pkind) ∧ Y.cell? ⟨bp, 3, none⟩ = some (.string ⟨pid.toArray⟩) ∧ Y.cell? ⟨bp, 4, none⟩ = some (.string ⟨pparent.toArray⟩) ∧ Y.cell? ⟨bp, 5, none⟩ = some (.string ⟨pnumber.toArray⟩) ∧ Y.cell? ⟨bp, 6, none⟩ = some (.string ⟨pnorth.toArray⟩) ∧ Y.cell? ⟨bp, 7, none⟩ = some (.string ⟨psouth.toArray⟩) ∧ Y.cell? ⟨bp, 8, none⟩ = some (.bool pgone) ∧ Y.cell? ⟨bp, 9, none⟩ = some (.slice pa path.length pc) ∧ Below w6.heap.size w6 Y) (first | exact hS0 | exact hS1 | assumption) (first | (go_at_call 33; (with_reducible refine (CR.out _ (And.right (And.right (And.right (And.right (And.right (And.right (And.right (And.right (And.right (And.right (by assumption)))))))))))).mono ?_); rintro e z1 ⟨rfl, c1⟩; have hSa := SB.out _ c1; try simp only at hSa) | (go_at_call 17; (with_reducible refine (CK.out _ (And.right (And.right (And.right (And.right (And.right (And.right (And.right (And.right (And.right (And.right (by assumption)))))))))))).mono ?_); rintro e z2 ⟨rfl, c2⟩; have hSb := SB.out _ c2; try simp only at hSb))
          have bel := Hbel.out
          have mc := Hmc.out
          have mp := Hmp.out
          have lv := Hlv.out
          clear Hbel Hmc Hmp Hlv
          have c := c2
          replace bel := below_next bel c
          replace mc := (c.block _ (Array.getElem?_eq_some_iff.1 mc).1).trans mc
          replace mp := (c.block _ (Array.getElem?_eq_some_iff.1 mp).1).trans mp
          replace lv := lv.below c (Nat.le_refl _)
          clear c
          clear hS0 hS1 hSa hSb c1 CR CK SB
          cases cb
          · skip
            have Hbel := Lib.hid bel
            have Hmc := Lib.hid mc
            have Hmp := Lib.hid mp
            have Hlv := Lib.hid lv
            clear bel mc mp lv
            go_wp2_with fail
            have bel := Hbel.out
            have mc := Hmc.out
            have mp := Hmp.out
            have lv := Hlv.out
            clear Hbel Hmc Hmp Hlv
            go_ret
            exact ⟨rfl, bel⟩
          · skip
            have hck := check_sound Hok.out hvb.out (Co.fewC_all hsb.out) hroot.out hfb.out hcb.out
            obtain ⟨hx0, hx1, hnum, hgone, hpk, hsnd⟩ := hck
            have Hnum := Lib.hid hnum
            have Hgone := Lib.hid hgone
            have Hpk := Lib.hid hpk
            have Hsnd := Lib.hid hsnd
            clear hnum hgone hpk hsnd
            have q_mp_0 := cell_of_heap (i := 0) mp
            have q_mp_1 := cell_of_heap (i := 1) mp
            have q_mp_2 := cell_of_heap (i := 2) mp
            have q_mp_3 := cell_of_heap (i := 3) mp
            have q_mp_4 := cell_of_heap (i := 4) mp
            have q_mp_5 := cell_of_heap (i := 5) mp
            have q_mp_6 := cell_of_heap (i := 6) mp
            have q_mp_7 := cell_of_heap (i := 7) mp
            have q_mp_8 := cell_of_heap (i := 8) mp
            have q_mp_9 := cell_of_heap (i := 9) mp
            have Hbel := Lib.hid bel
            have Hmc := Lib.hid mc
            have Hmp := Lib.hid mp
            have Hlv := Lib.hid lv
            clear bel mc mp lv
            go_wp2_with fail
            have bel := Hbel.out
            have mc := Hmc.out
            have mp := Hmp.out
            have lv := Hlv.out
            clear Hbel Hmc Hmp Hlv
            clear q_mp_0 q_mp_1 q_mp_2 q_mp_3 q_mp_4 q_mp_5 q_mp_6 q_mp_7 q_mp_8 q_mp_9
            go_loopw [7, 8] (fun n i wr => ∃ k : Nat, k ≤ l.length ∧ i = .int .i64 (k : Int) ∧ n = .int .i64 (Pf.liveN l k : Int) ∧ SdS w bc bp (.cells #[.slice va l.length vc] 24 (0, 0)) (.cells #[.int .i64 ((Co.leavesL l).length : Int), .int .i64 index, .int .i64 pkind, .string ⟨pid.toArray⟩, .string ⟨pparent.toArray⟩, .string ⟨pnumber.toArray⟩, .string ⟨pnorth.toArray⟩, .string ⟨psouth.toArray⟩, .bool pgone, .slice pa path.length pc] 29 (0, 0)) (.slice ua (Co.leavesL l).length uc) (Co.leavesL l) wr ∧ NoM l index ⟨pkind, pid, pparent, pnumber, pnorth, psouth, pgone⟩ k) (fun _ i _ => l.length - (intOf i).toNat)
            case atStart => exact ⟨0, by omega, rfl, rfl, ⟨bel, mc, mp, lv⟩, fun j _ hj => absurd hj (by omega)⟩
            case round =>
              clear bel mc mp lv
              obtain ⟨k, hk, rfl, rfl, ⟨bel, mc, mp, lv⟩, hnm⟩ := hrel
              have Hnm := Lib.hid hnm
              clear hnm
              have hln : Pf.liveN l k ≤ k := Pf.liveN_le l k
              have hkz : (0 : Int) ≤ (k : Int) := by omega
              by_cases hkl : k < l.length
              · skip
                obtain ⟨b, off, rfl, hvb2, hit⟩ := Hv.out.at hkl
                replace hit := hit.below bel hvb2
                have Hst := Pf.liveN_step l k hkl
                have Hn8 : Hid ((l[k]).number.length ≤ 8) := valid_num hvb.out _ (List.getElem_mem hkl)
                have Hstep := noM_step Hnm.out hkl
                obtain ⟨x, hx⟩ : ∃ x, l[k] = x := ⟨_, rfl⟩
                rw [hx] at hit Hst Hn8 Hstep
                clear hx
                obtain ⟨kind, id, parent, number, north, south, gone⟩ := x
                obtain ⟨f0, f1, f2, f3, f4, f5, f6⟩ := hit
                simp only at f0 f1 f2 f3 f4 f5 f6
                have hst := Lib.hid Hst
                have hstep := Lib.hid Hstep
                clear Hst Hstep
                have hbc2 : bc < wr.heap.size := (Array.getElem?_eq_some_iff.1 mc).1
                have hbp2 : bp < wr.heap.size := (Array.getElem?_eq_some_iff.1 mp).1
                have hww : w.heap.size ≤ wr.heap.size := bel.size
                cases gone
                · skip
                  have mpS := (heap_alloc_lt wr (.cells #[.int .i64 kind, .string ⟨id.toArray⟩, .string ⟨parent.toArray⟩, .string ⟨#[]⟩, .string ⟨north.toArray⟩, .string ⟨south.toArray⟩, .bool false] 26) _ hbp2).trans mp
                  have mcS := (heap_alloc_lt wr (.cells #[.int .i64 kind, .string ⟨id.toArray⟩, .string ⟨parent.toArray⟩, .string ⟨#[]⟩, .string ⟨north.toArray⟩, .string ⟨south.toArray⟩, .bool false] 26) _ hbc2).trans mc
                  have belS := bel.alloc hww (.cells #[.int .i64 kind, .string ⟨id.toArray⟩, .string ⟨parent.toArray⟩, .string ⟨#[]⟩, .string ⟨north.toArray⟩, .string ⟨south.toArray⟩, .bool false] 26)
                  have lvS := lv.below ((Below.refl wr.heap.size wr).alloc (Nat.le_refl _) (.cells #[.int .i64 kind, .string ⟨id.toArray⟩, .string ⟨parent.toArray⟩, .string ⟨#[]⟩, .string ⟨north.toArray⟩, .string ⟨south.toArray⟩, .bool false] 26)) (Nat.le_refl _)
                  have q_mc_0 := cell_of_heap (i := 0) mc
                  have r_0 := cell_of_heap (i := 0) mpS
                  have r_1 := cell_of_heap (i := 1) mpS
                  have r_2 := cell_of_heap (i := 2) mpS
                  have r_3 := cell_of_heap (i := 3) mpS
                  have r_4 := cell_of_heap (i := 4) mpS
                  have r_5 := cell_of_heap (i := 5) mpS
                  have r_6 := cell_of_heap (i := 6) mpS
                  have r_7 := cell_of_heap (i := 7) mpS
                  have r_8 := cell_of_heap (i := 8) mpS
                  have r_9 := cell_of_heap (i := 9) mpS
                  have HF := Lib.hid (And.intro belS (And.intro mcS (And.intro mpS lvS)))
                  clear belS mcS mpS lvS bel mc mp lv
                  by_cases he : (Pf.liveN l k : Int) = index
                  · skip
                    obtain rfl := he
                    have hn0 := Hnum.out
                    have hg0 := Hgone.out
                    subst hn0
                    subst hg0
                    by_cases hq : kind = pkind
                    · skip
                      subst hq
                      by_cases hq : id = pid
                      · skip
                        subst hq
                        by_cases hq : parent = pparent
                        · skip
                          subst hq
                          by_cases hq : north = pnorth
                          · skip
                            subst hq
                            by_cases hq : south = psouth
                            · skip
                              subst hq
                              go_wp2_with fail
                              go_ret
                              exact ⟨rfl, HF.out.1⟩
                            · skip
                              have hqb : (south == psouth) = false := by simpa using hq
                              have Hno := Lib.hid (hstep.out (fun _ _ h => hq (h.2.2.2.2)))
                              clear hq
                              go_wp2_with fail
                              go_roundw
                              case rel => exact ⟨k + 1, by omega, by go_num, by rw [hst.out]; go_num, ⟨HF.out.1, HF.out.2.1, HF.out.2.2.1, HF.out.2.2.2⟩, Hno.out⟩
                              case measure => simp [intOf]; omega
                          · skip
                            have hqb : (north == pnorth) = false := by simpa using hq
                            have Hno := Lib.hid (hstep.out (fun _ _ h => hq (h.2.2.2.1)))
                            clear hq
                            go_wp2_with fail
                            go_roundw
                            case rel => exact ⟨k + 1, by omega, by go_num, by rw [hst.out]; go_num, ⟨HF.out.1, HF.out.2.1, HF.out.2.2.1, HF.out.2.2.2⟩, Hno.out⟩
                            case measure => simp [intOf]; omega
                        · skip
                          have hqb : (parent == pparent) = false := by simpa using hq
                          have Hno := Lib.hid (hstep.out (fun _ _ h => hq (h.2.2.1)))
                          clear hq
                          go_wp2_with fail
                          go_roundw
                          case rel => exact ⟨k + 1, by omega, by go_num, by rw [hst.out]; go_num, ⟨HF.out.1, HF.out.2.1, HF.out.2.2.1, HF.out.2.2.2⟩, Hno.out⟩
                          case measure => simp [intOf]; omega
                      · skip
                        have hqb : (id == pid) = false := by simpa using hq
                        have Hno := Lib.hid (hstep.out (fun _ _ h => hq (h.2.1)))
                        clear hq
                        go_wp2_with fail
                        go_roundw
                        case rel => exact ⟨k + 1, by omega, by go_num, by rw [hst.out]; go_num, ⟨HF.out.1, HF.out.2.1, HF.out.2.2.1, HF.out.2.2.2⟩, Hno.out⟩
                        case measure => simp [intOf]; omega
                    · skip
                      have hqb : (kind == pkind) = false := by simpa using hq
                      have Hno := Lib.hid (hstep.out (fun _ _ h => hq (h.1)))
                      clear hq
                      go_wp2_with fail
                      go_roundw
                      case rel => exact ⟨k + 1, by omega, by go_num, by rw [hst.out]; go_num, ⟨HF.out.1, HF.out.2.1, HF.out.2.2.1, HF.out.2.2.2⟩, Hno.out⟩
                      case measure => simp [intOf]; omega
                  · skip
                    have heb : ((Pf.liveN l k : Int) == index) = false := by simpa using he
                    have Hno := Lib.hid (hstep.out (fun _ e _ => he e))
                    clear he
                    go_wp2_with fail
                    go_roundw
                    case rel => exact ⟨k + 1, by omega, by go_num, by rw [hst.out]; go_num, ⟨HF.out.1, HF.out.2.1, HF.out.2.2.1, HF.out.2.2.2⟩, Hno.out⟩
                    case measure => simp [intOf]; omega
                · skip
                  have mpS := (heap_alloc_lt wr (.cells #[.int .i64 kind, .string ⟨id.toArray⟩, .string ⟨parent.toArray⟩, .string ⟨number.toArray⟩, .string ⟨north.toArray⟩, .string ⟨south.toArray⟩, .bool true] 26) _ hbp2).trans mp
                  have mcS := (heap_alloc_lt wr (.cells #[.int .i64 kind, .string ⟨id.toArray⟩, .string ⟨parent.toArray⟩, .string ⟨number.toArray⟩, .string ⟨north.toArray⟩, .string ⟨south.toArray⟩, .bool true] 26) _ hbc2).trans mc
                  have belS := bel.alloc hww (.cells #[.int .i64 kind, .string ⟨id.toArray⟩, .string ⟨parent.toArray⟩, .string ⟨number.toArray⟩, .string ⟨north.toArray⟩, .string ⟨south.toArray⟩, .bool true] 26)
                  have lvS := lv.below ((Below.refl wr.heap.size wr).alloc (Nat.le_refl _) (.cells #[.int .i64 kind, .string ⟨id.toArray⟩, .string ⟨parent.toArray⟩, .string ⟨number.toArray⟩, .string ⟨north.toArray⟩, .string ⟨south.toArray⟩, .bool true] 26)) (Nat.le_refl _)
                  have q_mc_0 := cell_of_heap (i := 0) mc
                  have HF := Lib.hid (And.intro belS (And.intro mcS (And.intro mpS lvS)))
                  clear belS mcS mpS lvS bel mc mp lv
                  have Hno := Lib.hid (hstep.out (fun e _ _ => by cases e))
                  go_wp2_with fail
                  go_roundw
                  case rel => exact ⟨k + 1, by omega, by go_num, by rw [hst.out]; rfl, ⟨HF.out.1, HF.out.2.1, HF.out.2.2.1, HF.out.2.2.2⟩, Hno.out⟩
                  case measure => simp [intOf]; omega
              · skip
                obtain rfl : k = l.length := by omega
                have hsh := Hsnd.out Hnm.out
                have hpl := Hpk.out
                obtain ⟨ix, rfl⟩ := Int.eq_ofNat_of_zero_le hx0
                rw [Int.toNat_natCast] at hsh hpl
                have hxn : ix < (Co.leavesL l).length := by omega
                have hTX : Tok ⟨pkind, pid, pparent, pnumber, pnorth, psouth, pgone⟩ := tok_few hfb.out
                obtain ⟨s, hs⟩ : ∃ s, Hid (Co.leafL ⟨pkind, pid, pparent, pnumber, pnorth, psouth, pgone⟩ = s) := ⟨_, rfl⟩
                have hsl : s.length ≤ 10000000 := by rw [← hs.out]; exact leaf_small2 _ hTX
                rw [hs.out] at hsh
                have hm1 := textsL_mod (Co.leavesL l) (leavesL_small Hok.out)
                have hm2 := ptextsL_mod (Co.leavesL l).length ix s path hsl (path_small hfb.out)
                have hl1 := Tr.textsL_le (Co.leavesL l)
                have hl2 := ptextsL_le (Co.leavesL l).length ix s path (by omega)
                have hp2 := ptextsL_pos (Co.leavesL l).length ix s path
                have CT : Hid (∀ A, Below wr.heap.size wr A → Calls Tryz.prog 35 #[.slice ua (Co.leavesL l).length uc] A fun e w' => ∃ a d, e = .returned (.slice a (Tr.textsL (Co.leavesL l)).length d) ∧ OwnS wr.heap.size w' (.slice a (Tr.textsL (Co.leavesL l)).length d) (Tr.textsL (Co.leavesL l)) ∧ Below wr.heap.size wr w') := by
                  intro A hA
                  refine (rtexts_rec (Co.leavesL l).length (Co.leavesL l) _ A rfl (by omega) (lv.below hA (Nat.le_refl _)) Hlm.out).mono ?_
                  rintro e w' ⟨u, rfl, h1, h2⟩
                  obtain ⟨a, d, rfl⟩ := h1.shape
                  exact ⟨a, d, rfl, ownS_base h1 hA.size, below_next hA h2⟩
                have CLf : Hid (∀ A, Below wr.heap.size wr A → Calls Tryz.prog 37 #[.agg #[.int .i64 pkind, .string ⟨pid.toArray⟩, .string ⟨pparent.toArray⟩, .string ⟨pnumber.toArray⟩, .string ⟨pnorth.toArray⟩, .string ⟨psouth.toArray⟩, .bool pgone]] A fun e w' => e = .returned (.string ⟨s.toArray⟩) ∧ Below A.heap.size A w' ∧ Below wr.heap.size wr w') := fun A hA => (rleaf18_any ⟨pkind, pid, pparent, pnumber, pnorth, psouth, pgone⟩ s A hTX hs).mono fun e w' ⟨h1, h2⟩ => ⟨h1, h2, below_next hA h2⟩
                have CP : Hid (∀ A, Below wr.heap.size wr A → Calls Tryz.prog 36 #[.int .i64 ((Co.leavesL l).length : Int), .int .i64 (ix : Int), .string ⟨s.toArray⟩, .slice pa path.length pc] A fun e w' => ∃ a d, e = .returned (.slice a (Tr.ptextsL (Co.leavesL l).length ix s path).length d) ∧ OwnS A.heap.size w' (.slice a (Tr.ptextsL (Co.leavesL l).length ix s path).length d) (Tr.ptextsL (Co.leavesL l).length ix s path) ∧ Below A.heap.size A w' ∧ Below wr.heap.size wr w') := by
                  intro A hA
                  refine (rptexts_rec s (by omega) (Co.leavesL l).length ix path _ A (by omega) (by omega) hxn (Hp.out.below (below_next bel hA) (Nat.le_refl _)) (path_mod hfb.out) (by omega)).mono ?_
                  rintro e w' ⟨u, rfl, h1, h2⟩
                  obtain ⟨a, d, rfl⟩ := h1.shape
                  exact ⟨a, d, rfl, h1, h2, below_next hA h2⟩
                generalize Tr.textsL (Co.leavesL l) = T1 at CT hsh hm1 hl1
                generalize Tr.ptextsL (Co.leavesL l).length ix s path = P1 at CP hsh hm2 hl2 hp2
                have hm3 : Mod (T1 ++ P1) := fun t ht => by rcases List.mem_append.1 ht with h | h; exact hm1 t h; exact hm2 t h
                have Hsh := Lib.hid hsh
                have Hm3 := Lib.hid hm3
                clear hsh hm1 hm2 hm3 hpl
                have CS : Hid (∀ A g d, OwnS wr.heap.size A (.slice (some ⟨g, 0, none⟩) (T1.length + P1.length) d) (T1 ++ P1) → Calls Tryz.prog 34 #[.slice (some ⟨g, 0, none⟩) (T1.length + P1.length) d] A fun e w' => e = .returned (.bool true) ∧ Below A.heap.size A w') := fun A g d h => rshown_any (T1 ++ P1) _ A (h.has (by rw [List.length_append]; omega)) Hm3.out (by rw [List.length_append]; omega) Hsh
                have hlen : T1.length + P1.length ≤ 8796093022207 := by omega
                have hP1 : P1.length ≤ 140737488355328 := by omega
                have SB : Hid (∀ Y, Below wr.heap.size wr Y → (fun Y => Y.cell? ⟨bp, 0, none⟩ = some (.int .i64 ((Co.leavesL l).length : Int)) ∧ Y.cell? ⟨bp, 1, none⟩ = some (.int .i64 (ix : Int)) ∧ Y.cell? ⟨bp, 2, none⟩ = some (.int .i64 pkind) ∧ Y.cell? ⟨bp, 3, none⟩ = some (.string ⟨pid.toArray⟩) ∧ Y.cell? ⟨bp, 4, none⟩ = some (.string ⟨pparent.toArray⟩) ∧ Y.cell? ⟨bp, 5, none⟩ = some (.string ⟨pnumber.toArray⟩) ∧ Y.cell? ⟨bp, 6, none⟩ = some (.string ⟨pnorth.toArray⟩) ∧ Y.cell? ⟨bp, 7, none⟩ = some (.string ⟨psouth.toArray⟩) ∧ Y.cell? ⟨bp, 8, none⟩ = some (.bool pgone) ∧ Y.cell? ⟨bp, 9, none⟩ = some (.slice pa path.length pc) ∧ Below wr.heap.size wr Y) Y) := fun Y hb => ⟨(hb.cell (p := ⟨bp, 0, none⟩) (Array.getElem?_eq_some_iff.1 mp).1).trans (cell_of_heap mp), (hb.cell (p := ⟨bp, 1, none⟩) (Array.getElem?_eq_some_iff.1 mp).1).trans (cell_of_heap mp), (hb.cell (p := ⟨bp, 2, none⟩) (Array.getElem?_eq_some_iff.1 mp).1).trans (cell_of_heap mp), (hb.cell (p := ⟨bp, 3, none⟩) (Array.getElem?_eq_some_iff.1 mp).1).trans (cell_of_heap mp), (hb.cell (p := ⟨bp, 4, none⟩) (Array.getElem?_eq_some_iff.1 mp).1).trans (cell_of_heap mp), (hb.cell (p := ⟨bp, 5, none⟩) (Array.getElem?_eq_some_iff.1 mp).1).trans (cell_of_heap mp), (hb.cell (p := ⟨bp, 6, none⟩) (Array.getElem?_eq_some_iff.1 mp).1).trans (cell_of_heap mp), (hb.cell (p := ⟨bp, 7, none⟩) (Array.getElem?_eq_some_iff.1 mp).1).trans (cell_of_heap mp), (hb.cell (p := ⟨bp, 8, none⟩) (Array.getElem?_eq_some_iff.1 mp).1).trans (cell_of_heap mp), (hb.cell (p := ⟨bp, 9, none⟩) (Array.getElem?_eq_some_iff.1 mp).1).trans (cell_of_heap mp), hb⟩
                have q_mc_0 := cell_of_heap (i := 0) mc
                have Hbel := Lib.hid bel
                have Hmc := Lib.hid mc
                have Hmp := Lib.hid mp
                have Hlv := Lib.hid lv
                clear bel mc mp lv
                go_wp2_with fail
                have bel := Hbel.out
                have mc := Hmc.out
                have mp := Hmp.out
                have lv := Hlv.out
                clear Hbel Hmc Hmp Hlv
                clear q_mc_0
                have hS0 := SB.out _ (Below.refl _ _)
                have hS1 := SB.out _ (Below.refl wr.heap.size wr).drew
                try simp only at hS0 hS1
                have Hbel := Lib.hid bel
                have Hmc := Lib.hid mc
                have Hmp := Lib.hid mp
                have Hlv := Lib.hid lv
                clear bel mc mp lv
                go_region_held3 (fun Y => Y.cell? ⟨bp, 0, none⟩ = some (.int .i64 ((Co.leavesL l).length : Int)) ∧ Y.cell? ⟨bp, 1, none⟩ = some (.int .i64 (ix : Int)) ∧ Y.cell? ⟨bp, 2, none⟩ = some (.int .i64 pkind) ∧ Y.cell? ⟨bp, 3, none⟩ = some (.string ⟨pid.toArray⟩) ∧ Y.cell? ⟨bp, 4, none⟩ = some (.string ⟨pparent.toArray⟩) ∧ Y.cell? ⟨bp, 5, none⟩ = some (.string ⟨pnumber.toArray⟩) ∧ Y.cell? ⟨bp, 6, none⟩ = some (.string ⟨pnorth.toArray⟩) ∧ Y.cell? ⟨bp, 7, none⟩ = some (.string ⟨psouth.toArray⟩) ∧ Y.cell? ⟨bp, 8, none⟩ = some (.bool pgone) ∧ Y.cell? ⟨bp, 9, none⟩ = some (.slice pa path.length pc) ∧ Below wr.heap.size wr Y) (first | exact hS0 | exact hS1 | assumption) (first | (go_at_call 35; (with_reducible refine (CT.out _ (And.right (And.right (And.right (And.right (And.right (And.right (And.right (And.right (And.right (And.right (by assumption)))))))))))).mono ?_); rintro e y1 ⟨a1, d1, rfl, ho1, c1⟩; have hSa := SB.out _ c1; try simp only at hSa) | (go_at_call 37; (with_reducible refine (CLf.out _ (And.right (And.right (And.right (And.right (And.right (And.right (And.right (And.right (And.right (And.right (by assumption)))))))))))).mono ?_); rintro e y2 ⟨rfl, b2, c2⟩; replace ho1 := ho1.below b2; have hSb := SB.out _ c2; try simp only at hSb) | (go_at_call 36; (with_reducible refine (CP.out _ (And.right (And.right (And.right (And.right (And.right (And.right (And.right (And.right (And.right (And.right (by assumption)))))))))))).mono ?_); rintro e y3 ⟨a3, d3, rfl, ho3, b3, c3⟩; replace ho1 := ho1.below b3; have hSc := SB.out _ c3; try simp only at hSc) | (refine step_appT (by rfl) (.tmp 81) (.tmp 91) (by rfl) (by rfl) (by rfl) (by rfl) ho1 (ho3.has hP1) hp2 hlen c3.size ?_; intro y4 g4 d4 ho4 b4; have c4 := c3.trans b4; have hSd := SB.out _ c4; try simp only at hSd) | (go_at_call 34; (with_reducible refine (CS.out _ _ _ ho4).mono ?_); rintro e y5 ⟨rfl, b5⟩; have c5 := below_next c4 b5; have hSe := SB.out _ c5; try simp only at hSe))
                have bel := Hbel.out
                have mc := Hmc.out
                have mp := Hmp.out
                have lv := Hlv.out
                clear Hbel Hmc Hmp Hlv
                replace bel := below_next bel c5
                clear mc mp lv
                clear hS0 hS1 hSa hSb hSc hSd hSe c1 c2 c3 c4 c5 b2 b3 b4 b5 ho1 ho3 ho4 CT CLf CP CS SB
                have Hbel := Lib.hid bel
                clear bel
                go_wp2_with fail
                have bel := Hbel.out
                clear Hbel
                go_ret
                exact ⟨rfl, bel⟩
        · skip
          have hcb2 : (count == ((Co.leavesL l).length : Int)) = false := by simpa using hcnt
          have hcb3 : (count != ((Co.leavesL l).length : Int)) = true := by simpa using hcnt
          clear hcnt
          have q_mp_0 := cell_of_heap (i := 0) mp
          have Hbel := Lib.hid bel
          have Hmc := Lib.hid mc
          have Hmp := Lib.hid mp
          have Hlv := Lib.hid lv
          clear bel mc mp lv
          go_wp2_with fail
          have bel := Hbel.out
          have mc := Hmc.out
          have mp := Hmp.out
          have lv := Hlv.out
          clear Hbel Hmc Hmp Hlv
          clear q_mp_0
          have m0 := cell_of_heap (i := 0) mp
          have m1 := cell_of_heap (i := 1) mp
          have m2 := cell_of_heap (i := 2) mp
          have m3 := cell_of_heap (i := 3) mp
          have m4 := cell_of_heap (i := 4) mp
          have m5 := cell_of_heap (i := 5) mp
          have m6 := cell_of_heap (i := 6) mp
          have m7 := cell_of_heap (i := 7) mp
          have m8 := cell_of_heap (i := 8) mp
          have m9 := cell_of_heap (i := 9) mp
          have Hbel := Lib.hid bel
          have Hmc := Lib.hid mc
          have Hmp := Lib.hid mp
          have Hlv := Lib.hid lv
          clear bel mc mp lv
          go_quiet (fail)
          have bel := Hbel.out
          have mc := Hmc.out
          have mp := Hmp.out
          have lv := Hlv.out
          clear Hbel Hmc Hmp Hlv
          clear m0 m1 m2 m3 m4 m5 m6 m7 m8 m9
          have c : Below w6.heap.size w6 (w6.drewN nq) := below_drewN _ _ _
          replace bel := below_next bel c
          clear c mc mp lv
          have Hbel := Lib.hid bel
          clear bel
          go_wp2_with fail
          have bel := Hbel.out
          clear Hbel
          go_ret
          exact ⟨rfl, bel⟩
end Go.Proofs.YteoclpjbeadkpaaGreatDoor
/- THE STATEMENT ProofSound: for every input within the form's reach, the five listed tables of Go's library holding what their initialisers lay, the call returns true and leaves the arguments as they were. -/
namespace Go.Proofs.YteoclpjbeadkpaaGreatDoor.rowProofSound
open Go.ChangeShapes Go.WideShapes Go.ChangeAt Go.RowKit
open Go.ChangeMaps (open_string)

theorem noHandles : (Rows.proofSoundRow.laid.filter fun x => x.2.handleName?.isSome) = [] := by kernel_rfl
theorem table {W : World} (h : laidMetH Tryz.prog Rows.proofSoundRow.laid W) : Tab W := by
  unfold laidMetH at h
  rw [noHandles] at h
  exact tab_of h (by simp [Rows.proofSoundRow])

set_option maxRecDepth 100000 in
theorem contract (H : Type) (enc : TypeId × Value → H) (W : World) (base : Nat) (args : Array Value) (ds gs : List (DataW H)) (before : List MemPlace)
    (hval : ∀ (j : Nat) t v, Tryz.f5.params[j]? = some t → args[j]? = some v → Value.okWide Tryz.prog W .any base t v)
    (hW : DataW.Whole enc Tryz.prog Tryz.f5.params.toList Rows.proofSoundSpec.vars false W args.toList ds gs before)
    (hsz0 : (DataW.weightsEach Tryz.prog (Tryz.f5.params.toList ++ Rows.proofSoundSpec.plain.varTypes Tryz.prog) (ds ++ gs)).all (· ≤ reachBytes) = true) (hL : laidMetH Tryz.prog Rows.proofSoundRow.laid W) :
    Calls Tryz.prog 5 args W fun e W' => ∃ v, e = .returned v ∧ Rows.proofSoundSpec.post enc Tryz.prog Tryz.f5 false true false false W args v W' := by
  have hW' := hW
  obtain ⟨p, q, hA0, hV, rfl, hfz, hnd⟩ := hW
  have hA : DataW.TrodAll enc Tryz.prog W 0 (fun _ => true) true Tryz.f5.params.toList args.toList ds p := hA0
  have hsz : (DataW.weightsEach Tryz.prog (Tryz.f5.params.toList ++ Rows.proofSoundSpec.plain.varTypes Tryz.prog) (ds ++ gs)).all (· ≤ reachBytes) = true := hsz0
  rw [Tryz.params5] at hA hval hsz
  obtain ⟨v0, vs0, d0, ds0, p0, q0, hargs, rfl, rfl, h0, r0⟩ := trodAll_cons hA
  obtain ⟨v1, vs1, d1, ds1, p1, q1, rfl, rfl, rfl, h1, r1⟩ := trodAll_cons r0
  obtain ⟨rfl, rfl, rfl⟩ := trodAll_nil r1
  obtain rfl : args = #[v0, v1] := by cases args; simp_all
  obtain ⟨rfl, rfl⟩ := trodVars_none hV
  have k0 := h0
  have lt0 : ∀ x ∈ p0, x.block < W.heap.size := by obtain ⟨m, hm⟩ := k0; exact DataW.trod_lt m _ _ _ hm
  have k1 := h1
  have lt1 : ∀ x ∈ p1, x.block < W.heap.size := by obtain ⟨m, hm⟩ := k1; exact DataW.trod_lt m _ _ _ hm
  have wt0 := wt_arg hsz (j := 0) (t := 24) (d := d0) rfl rfl
  obtain ⟨⟨c0⟩, rfl, _⟩ := okWide_struct Tryz.underlying24 (hval 0 24 v0 rfl rfl)
  obtain ⟨m0, hm0⟩ := h0
  obtain ⟨il0, iv0, e0, hi0, li0, ci0, ok0⟩ := code_open (cs := c0) hm0 wt0
  subst e0
  have wt1 := wt_arg hsz (j := 1) (t := 29) (d := d1) rfl rfl
  obtain ⟨⟨c1⟩, rfl, _⟩ := okWide_struct Tryz.underlying29 (hval 1 29 v1 rfl rfl)
  obtain ⟨m1, hm1⟩ := h1
  obtain ⟨pr1, pv1, e1, hp1, in1⟩ := proof_open (cs := c1) hm1 wt1
  subst e1
  refine (soundLaw_any il0 iv0 pr1 pv1 W (table hL) hi0 li0 ci0 ok0 hp1 in1).mono fun e W' ⟨he, bel⟩ => ?_
  subst he
  exact ⟨_, rfl, _, _, _, [], _, [], hW', trodAll_mk1 (shut_bool Tryz.underlying4 _), (trodAll_cons_mk (Below.trod laidOut (by kernel_rfl) (of_decide_eq_true (by kernel_rfl)) k0 bel lt0) (trodAll_cons_mk (Below.trod laidOut (by kernel_rfl) (of_decide_eq_true (by kernel_rfl)) k1 bel lt1) trodAll_mk0)), rfl, bel.frame _, fun h => by cases h⟩

theorem laid_met (os : Os) : laidMet Tryz.prog Rows.proofSoundRow.laid ((laidWorld os).forCall (fun _ _ => 0) ⟨#[], #[.agg #[.slice none 0 0], .agg #[.int .i64 0, .int .i64 0, .int .i64 0, .string ⟨#[]⟩, .string ⟨#[]⟩, .string ⟨#[]⟩, .string ⟨#[]⟩, .string ⟨#[]⟩, .bool false, .slice none 0 0]], []⟩).memory :=
  laidMet_of_run' 8 (by kernel_rfl) (by kernel_rfl)
theorem reads (os : Os) {H : Type} (enc : TypeId × Value → H) : ∃ places, DataW.whole enc Tryz.prog ((laidWorld os).forCall (fun _ _ => 0) ⟨#[], #[.agg #[.slice none 0 0], .agg #[.int .i64 0, .int .i64 0, .int .i64 0, .string ⟨#[]⟩, .string ⟨#[]⟩, .string ⟨#[]⟩, .string ⟨#[]⟩, .string ⟨#[]⟩, .bool false, .slice none 0 0]], []⟩).memory Tryz.f5.params.toList Rows.proofSoundSpec.vars false (#[.agg #[.slice none 0 0], .agg #[.int .i64 0, .int .i64 0, .int .i64 0, .string ⟨#[]⟩, .string ⟨#[]⟩, .string ⟨#[]⟩, .string ⟨#[]⟩, .string ⟨#[]⟩, .bool false, .slice none 0 0]] : Array Value).toList 8 = some ([.agg [.nil], .agg [.lit (.int .i64 0), .lit (.int .i64 0), .agg [.lit (.int .i64 0), .lit (.string []), .lit (.string []), .lit (.string []), .lit (.string []), .lit (.string []), .lit (.bool false)], .nil]], [], places) :=
  ⟨[], by kernel_rfl⟩

set_option maxRecDepth 100000 in
theorem lifted (os : Os) (started : os.Started) (H : Type) (enc : TypeId × Value → H) (F : Stop.Interp) :
    ReturnsInHanded {} Tryz.checked os 5 .any ((OpenSpec.ofChange Rows.proofSoundSpec).preRow enc Tryz.prog Tryz.f5 Rows.proofSoundRow.domain false Rows.proofSoundRow.laid) (((OpenSpec.ofChange Rows.proofSoundSpec).at F).post enc Tryz.prog Tryz.f5 false true false false) := by
  obtain ⟨places, hx⟩ := reads os enc
  refine returnsInHanded_of_row (C := Tryz.checked) (s := OpenSpec.ofChange Rows.proofSoundSpec) own started (by kernel_rfl) Tryz.func5
    (witness_row_at (enc := enc) (C := Tryz.checked) false (laidWorld os) #[.agg #[.slice none 0 0], .agg #[.int .i64 0, .int .i64 0, .int .i64 0, .string ⟨#[]⟩, .string ⟨#[]⟩, .string ⟨#[]⟩, .string ⟨#[]⟩, .string ⟨#[]⟩, .bool false, .slice none 0 0]] rfl (by kernel_rfl) (by kernel_rfl) (by kernel_rfl)
      (OpenSpec.preRow_of_cond 8 hx (by kernel_rfl) (fun k hk => by cases hk) (by kernel_rfl) (laid_met os))) ?_
  intro W base args ds gs before hval hW _ _ hsz hL _ _
  exact contract H enc W base args ds gs before hval hW hsz hL

theorem said : Rows.ProofSoundSaid :=
  OpenClaim.holds_of_cond 5 Tryz.f5 rfl rfl rfl rfl rfl rfl rfl ⟨rfl, rfl, rfl, rfl, rfl⟩ rfl rfl rfl rfl rfl (by kernel_rfl) Tryz.func5 (by kernel_rfl)
    (of_decide_eq_true (by kernel_rfl)) (by unfold Func.isWrapper; rw [if_neg (of_decide_eq_false (by kernel_rfl))]; exact ⟨rfl, rfl⟩)
    (fun os started H enc _ F => by rw [OpenClaim.pre_eq_preRow]; exact lifted os started H enc F)

theorem plain (f : FuncId) (fn : Func) (hf : Tryz.pinned.checked.prog.funcNamed "pandect/pandectlaw44.ProofSound" = some f) (hfn : Tryz.pinned.checked.prog.funcs[f]? = some fn) :
    false = Tryz.pinned.checked.prog.looks [] ∧ ∀ (j : Nat) t, fn.params[j]? = some t → Tryz.pinned.checked.prog.wantsStandIn t = false := by
  obtain rfl : f = 5 := Option.some.inj ((show Tryz.prog.funcNamed "pandect/pandectlaw44.ProofSound" = some 5 by kernel_rfl).symm.trans hf) |>.symm
  obtain rfl : fn = Tryz.f5 := (Option.some.inj (Tryz.func5.symm.trans hfn)).symm
  refine ⟨by kernel_rfl, fun j t ht => ?_⟩
  rw [Tryz.params5] at ht
  have hall : ∀ x ∈ [24, 29], Tryz.prog.wantsStandIn x = false := by
    intro x hx
    simp only [List.mem_cons, List.not_mem_nil, or_false] at hx
    rcases hx with rfl | rfl <;> kernel_rfl
  exact hall t (by simpa using Array.mem_of_getElem? ht)

/-- the card of the statement -/
theorem card : Rows.ProofSoundCardSaid :=
  Claim7.holds_tied_plain_at .later [] _ _ _ _ said (fun _ h => by cases h) (by kernel_rfl) (fun _ h => by cases h) proofSound_row_tie rfl ⟨rfl, rfl⟩ (by kernel_rfl) rfl plain (by kernel_rfl)
end Go.Proofs.YteoclpjbeadkpaaGreatDoor.rowProofSound
