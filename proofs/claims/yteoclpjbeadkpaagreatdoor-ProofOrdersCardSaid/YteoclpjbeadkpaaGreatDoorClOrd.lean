/- THE STATEMENT ProofOrders: for every input within the form's reach, the five listed tables of Go's library holding what their initialisers lay, the call returns true and leaves the arguments as they were. -/
import Derived.Test.YteoclpjbeadkpaaGreatDoorMpH
import Derived.Deep.QuietTactic
import Derived.BigQuiet
import Derived.IntWalk
set_option linter.unusedSimpArgs false
set_option linter.unusedVariables false
/- WALK: pandectref44.Few (a proof of a moderate size). -/
namespace Go.Proofs.YteoclpjbeadkpaaGreatDoor.Pf
def fewL (p : Pr) : Bool := decide (p.item.id.length + p.item.parent.length + p.item.number.length ≤ 600) && decide (p.item.north.length ≤ 600) && decide (p.item.south.length ≤ 600) && decide (p.path.length ≤ 30) && p.path.all fun t => decide (t.length ≤ 100)
theorem few_iff (p : Pr) : fewL p = true ↔ p.item.id.length + p.item.parent.length + p.item.number.length ≤ 600 ∧ p.item.north.length ≤ 600 ∧ p.item.south.length ≤ 600 ∧ p.path.length ≤ 30 ∧ ∀ t ∈ p.path, t.length ≤ 100 := by
  unfold fewL
  simp only [Bool.and_eq_true, decide_eq_true_eq, List.all_eq_true, and_assoc]
theorem few_false (p : Pr) (h : ¬ (p.item.id.length + p.item.parent.length + p.item.number.length ≤ 600 ∧ p.item.north.length ≤ 600 ∧ p.item.south.length ≤ 600 ∧ p.path.length ≤ 30 ∧ ∀ t ∈ p.path, t.length ≤ 100)) : fewL p = false := by
  cases e : fewL p with
  | false => rfl
  | true => exact absurd ((few_iff p).1 e) h
end Go.Proofs.YteoclpjbeadkpaaGreatDoor.Pf
namespace Go.Proofs.YteoclpjbeadkpaaGreatDoor
open Go.RowKit Go.Shelf Go.Maps

def ItMax (x : Co.It) : Prop := x.id.length ≤ 140737488355328 ∧ x.parent.length ≤ 140737488355328 ∧ x.number.length ≤ 140737488355328 ∧ x.north.length ≤ 140737488355328 ∧ x.south.length ≤ 140737488355328

set_option maxHeartbeats 2000000 in
set_option maxRecDepth 100000 in
theorem few44_any (p : Pf.Pr) (pv : Value) (w : World) (hv : HasStrsC w pv p.path) (hit : ItMax p.item) (hpl : ∀ t ∈ p.path, t.length ≤ 9223372036854775807) (b : Bool) (hb : Hid (Pf.fewL p = b)) :
    Calls Tryz.prog 12 #[prV p pv] w fun e w' => e = .returned (.bool b) ∧ Below w.heap.size w w' := by
  obtain ⟨hvs, pa, pc, rfl, hpc, hpm⟩ := hv
  obtain ⟨count, index, ⟨kind, id, parent, number, north, south, gone⟩, path⟩ := p
  obtain ⟨z1, z2, z3, z4, z5⟩ := hit
  simp only at z1 z2 z3 z4 z5 hvs hpc hpm hpl
  simp only [prV]
  by_cases g0 : id.length + parent.length + number.length ≤ 600
  · skip
    have g0p : (id.length : Int) + (parent.length : Int) + (number.length : Int) ≤ 600 := by omega
    by_cases g1 : north.length ≤ 600
    · skip
      have g1p : (north.length : Int) ≤ 600 := by omega
      by_cases g2 : south.length ≤ 600
      · skip
        have g2p : (south.length : Int) ≤ 600 := by omega
        by_cases g3 : path.length ≤ 30
        · skip
          have g3p : (path.length : Int) ≤ 30 := by omega
          rcases hvs with ⟨rfl, a, c, he⟩ | ⟨h0, bb, off, c, he, hlt, hc⟩
          · cases he
            have hf : Hid (b = true) := by unfold Hid; rw [← hb.out]; exact (Pf.few_iff _).2 ⟨g0, g1, g2, g3, by simp⟩
            clear hb
            go_enter Tryz.func12, Tryz.ntmps12
            go_wp2_with fail
            refine wp_loop_rounds 1 ?_
            rw [rounds_succ]
            go_wp2_with fail
            go_ret
            exact ⟨by rw [hf.out]; rfl, ((Below.refl _ w).alloc (Nat.le_refl _) _).alloc (by simp) _⟩
          · cases he
            have hcb : ∀ W, Below w.heap.size w W → ∀ j, j < path.length → W.cell? ⟨bb, off + j, none⟩ = some (.string ⟨(path.getD j []).toArray⟩) := fun W hW j hj => (hW.cell (p := ⟨bb, off + j, none⟩) hlt).trans (hc j hj)
            have HC := Lib.hid hcb
            clear hcb hc
            go_enter Tryz.func12, Tryz.ntmps12
            go_wp2_with fail
            have hbel : Below w.heap.size w ((w.alloc (.cells #[.int .i64 count, .int .i64 index, .int .i64 kind, .string ⟨id.toArray⟩, .string ⟨parent.toArray⟩, .string ⟨number.toArray⟩, .string ⟨north.toArray⟩, .string ⟨south.toArray⟩, .bool gone, .slice (some ⟨bb, off, none⟩) path.length pc] 29)).alloc (.cells #[.int .i64 kind, .string ⟨id.toArray⟩, .string ⟨parent.toArray⟩, .string ⟨number.toArray⟩, .string ⟨north.toArray⟩, .string ⟨south.toArray⟩, .bool gone] 26)) := ((Below.refl _ w).alloc (Nat.le_refl _) _).alloc (by simp) _
            have hb9 : ((w.alloc (.cells #[.int .i64 count, .int .i64 index, .int .i64 kind, .string ⟨id.toArray⟩, .string ⟨parent.toArray⟩, .string ⟨number.toArray⟩, .string ⟨north.toArray⟩, .string ⟨south.toArray⟩, .bool gone, .slice (some ⟨bb, off, none⟩) path.length pc] 29)).alloc (.cells #[.int .i64 kind, .string ⟨id.toArray⟩, .string ⟨parent.toArray⟩, .string ⟨number.toArray⟩, .string ⟨north.toArray⟩, .string ⟨south.toArray⟩, .bool gone] 26)).cell? ⟨w.heap.size, 9, none⟩ = some (.slice (some ⟨bb, off, none⟩) path.length pc) := cell_of_heap ((heap_alloc_lt _ _ _ (by simp)).trans (heap_alloc_at w _))
            generalize ((w.alloc (.cells #[.int .i64 count, .int .i64 index, .int .i64 kind, .string ⟨id.toArray⟩, .string ⟨parent.toArray⟩, .string ⟨number.toArray⟩, .string ⟨north.toArray⟩, .string ⟨south.toArray⟩, .bool gone, .slice (some ⟨bb, off, none⟩) path.length pc] 29)).alloc (.cells #[.int .i64 kind, .string ⟨id.toArray⟩, .string ⟨parent.toArray⟩, .string ⟨number.toArray⟩, .string ⟨north.toArray⟩, .string ⟨south.toArray⟩, .bool gone] 26)) = W at hbel hb9 ⊢
            have HB := Lib.hid hbel
            clear hbel
            go_loopw [4] (fun i wr => ∃ k : Nat, k ≤ path.length ∧ i = .int .i64 (k : Int) ∧ Hid ((path.take k).all (fun t => decide (t.length ≤ 100)) = true) ∧ W = wr) (fun i _ => path.length - (intOf i).toNat)
            case atStart => exact ⟨0, by omega, rfl, by simp [Hid], rfl⟩
            case round =>
              obtain ⟨k, hk, rfl, HA, rfl⟩ := hrel
              by_cases hkl : k < path.length
              · skip
                have f0 := HC.out _ HB.out k hkl
                have hpk : (path.getD k []).length ≤ 9223372036854775807 := by rw [List.getD_eq_getElem?_getD, List.getElem?_eq_getElem hkl]; exact hpl _ (List.getElem_mem hkl)
                have HS : Hid ((path.take (k + 1)).all (fun t => decide (t.length ≤ 100)) = decide ((path.getD k []).length ≤ 100)) := by
                  unfold Hid
                  rw [List.take_succ_eq_append_getElem hkl, List.all_append, HA.out, List.getD_eq_getElem?_getD, List.getElem?_eq_getElem hkl]; simp
                have HM : Hid (path.getD k [] ∈ path) := by unfold Hid; rw [List.getD_eq_getElem?_getD, List.getElem?_eq_getElem hkl]; exact List.getElem_mem hkl
                generalize path.getD k [] = s at f0 hpk HS HM
                by_cases hs : s.length ≤ 100
                · skip
                  have hsi : (s.length : Int) ≤ 100 := by omega
                  go_wp2_with fail
                  go_roundw
                  case rel => exact ⟨k + 1, by omega, by go_num, by unfold Hid; rw [HS.out]; simpa using hs, trivial⟩
                  case measure => simp [intOf]; omega
                · skip
                  have hsi : 100 < (s.length : Int) := by omega
                  have hf : Hid (b = false) := by unfold Hid; rw [← hb.out]; exact Pf.few_false _ (fun h => hs (h.2.2.2.2 s HM.out))
                  clear hb
                  go_wp2_with fail
                  go_ret
                  exact ⟨by rw [hf.out]; rfl, HB.out⟩
              · skip
                obtain rfl : k = path.length := by omega
                have hf : Hid (b = true) := by
                  unfold Hid; rw [← hb.out]; refine (Pf.few_iff _).2 ⟨g0, g1, g2, g3, fun t hm => ?_⟩
                  have h1 := HA.out
                  rw [List.take_length, List.all_eq_true] at h1
                  simpa using h1 t hm
                clear hb
                go_wp2_with fail
                go_ret
                exact ⟨by rw [hf.out]; rfl, HB.out⟩
        · skip
          have hf : Hid (b = false) := by unfold Hid; rw [← hb.out]; exact Pf.few_false _ (fun h => g3 (h.2.2.2.1))
          clear hb
          have g3n : 30 < (path.length : Int) := by omega
          go_enter Tryz.func12, Tryz.ntmps12
          go_wp2_with fail
          go_ret
          exact ⟨by rw [hf.out]; rfl, ((Below.refl _ w).alloc (Nat.le_refl _) _).alloc (by simp) _⟩
      · skip
        have hf : Hid (b = false) := by unfold Hid; rw [← hb.out]; exact Pf.few_false _ (fun h => g2 (h.2.2.1))
        clear hb
        have g2n : 600 < (south.length : Int) := by omega
        go_enter Tryz.func12, Tryz.ntmps12
        go_wp2_with fail
        go_ret
        exact ⟨by rw [hf.out]; rfl, ((Below.refl _ w).alloc (Nat.le_refl _) _).alloc (by simp) _⟩
    · skip
      have hf : Hid (b = false) := by unfold Hid; rw [← hb.out]; exact Pf.few_false _ (fun h => g1 (h.2.1))
      clear hb
      have g1n : 600 < (north.length : Int) := by omega
      go_enter Tryz.func12, Tryz.ntmps12
      go_wp2_with fail
      go_ret
      exact ⟨by rw [hf.out]; rfl, ((Below.refl _ w).alloc (Nat.le_refl _) _).alloc (by simp) _⟩
  · skip
    have hf : Hid (b = false) := by unfold Hid; rw [← hb.out]; exact Pf.few_false _ (fun h => g0 (h.1))
    clear hb
    have g0n : 600 < (id.length : Int) + (parent.length : Int) + (number.length : Int) := by omega
    go_enter Tryz.func12, Tryz.ntmps12
    go_wp2_with fail
    go_ret
    exact ⟨by rw [hf.out]; rfl, ((Below.refl _ w).alloc (Nat.le_refl _) _).alloc (by simp) _⟩
end Go.Proofs.YteoclpjbeadkpaaGreatDoor
/- The map of what was told first on a day (ProofPublished): in memory and plain. -/
namespace Go.Proofs.YteoclpjbeadkpaaGreatDoor
open Go.RowKit Go.Shelf Go.Maps

def zeroTd : Td := ⟨0, 0, [], false⟩
def fstL (fs : List Td) (d : Int) : Option Td := fs.find? (fun t => t.day == d)
/-- What a reader knows who was told these things. -/
def knows (fs : List Td) : Pf.Rd := fs.map fun t => (t.day, t.cnt, t.root)
theorem find_knows (fs : List Td) (d : Int) : Pf.findL (knows fs) d = (fstL fs d).map fun t => (t.cnt, t.root) := by
  unfold Pf.findL knows fstL
  rw [List.find?_map, Option.map_map]
  rfl
theorem fstL_snoc (fs : List Td) (t : Td) (d : Int) : fstL (fs ++ [t]) d = (fstL fs d).or (if t.day = d then some t else none) := by
  unfold fstL
  rw [List.find?_append]
  by_cases e : t.day = d
  · simp [e]
  · simp [e]
def FMapAt (w : World) (m n : Nat) (fs : List Td) : Prop := ∃ D : DataW Value, w.ownsMap Tryz.prog 3 heldR m n D ∧ (∀ d : Int, has D (.int .i64 d) = (fstL fs d).isSome ∧ ∀ zd, D.atKey (.int .i64 d) zd = match fstL fs d with | some x => .held (tdV x) | none => zd) ∧ size D = fs.length
theorem fmap_new (w : World) : FMapAt (w.alloc (.map #[] 0)) w.heap.size 0 [] := ⟨_, World.ownsMap_made w _ _ _, fun d => ⟨rfl, fun zd => rfl⟩, rfl⟩
theorem FMapAt.kept {w w' : World} {row : Option Nat} {m n : Nat} {fs : List Td} (h : FMapAt w m n fs) (hg : w.grownBy w' row) (hne : some m ≠ row) : FMapAt w' m n fs := by
  obtain ⟨D, h1, h2⟩ := h
  exact ⟨D, World.ownsMap.kept h1 hg hne, h2⟩
theorem FMapAt.below {w w' : World} {m n : Nat} {fs : List Td} (h : FMapAt w m n fs) (hb : Below w.heap.size w w') : FMapAt w' m n fs := h.kept (grown_none hb) (by simp)
theorem FMapAt.lt {w : World} {m n : Nat} {fs : List Td} (h : FMapAt w m n fs) : m < w.heap.size := by
  obtain ⟨D, h1, h2⟩ := h
  exact h1.lt
theorem FMapAt.ne {W : World} {m n : Nat} {fs : List Td} (h : FMapAt W m n fs) {b : Nat} {vs : Array Value} {t : TypeId} {fr : Nat × Nat} (hb : W.heap[b]? = some (.cells vs t fr)) : b ≠ m := by
  rintro rfl
  obtain ⟨D, ⟨es', clock, h1, _⟩, _⟩ := h
  rw [h1] at hb
  cases hb
theorem fmap_look {w : World} {m n : Nat} {fs : List Td} (h : FMapAt w m n fs) (d : Int) (h0 : -9223372036854775808 ≤ d) (h1 : d ≤ 9223372036854775807) :
    (Instr.lookup 64 (.map (some m)) (.int .i64 d) true).run Tryz.prog w = .ok (.tuple #[tdV ((fstL fs d).getD zeroTd), .bool (fstL fs d).isSome]) w := by
  obtain ⟨D, ho, hD, _⟩ := h
  obtain ⟨v, ps, hrun, hv⟩ := World.ownsMap.look_ok ho (int_keyed Tryz.underlying3) Tryz.underlying64 (Tryz.zeroValue46 w) (zd := .held (tdV zeroTd)) (zp := []) rfl (key_int d h0 h1)
  obtain ⟨e1, e2⟩ := hD d
  rw [e1] at hrun
  rw [e2] at hv
  unfold heldR at hv
  cases hf : fstL fs d with
  | some x =>
    rw [hf] at hv hrun
    simp only [Option.some.injEq, Prod.mk.injEq, DataW.held.injEq] at hv
    rw [hrun, hv.1]; rfl
  | none =>
    rw [hf] at hv hrun
    simp only [Option.some.injEq, Prod.mk.injEq, DataW.held.injEq] at hv
    rw [hrun, hv.1]; rfl
theorem fmap_len {w : World} {m n : Nat} {fs : List Td} (h : FMapAt w m n fs) (ty : TypeId) : (Builtin.len_ #[64] ty #[.map (some m)]).run Tryz.prog w = .ok (.int .i64 (fs.length : Int)) w := by
  obtain ⟨D, ho, _, hs⟩ := h
  rw [← hs]
  exact ho.len Tryz.underlying64 ty
theorem fmap_put {w : World} {m n : Nat} {fs : List Td} (h : FMapAt w m n fs) (t : Td) (h0 : -9223372036854775808 ≤ t.day) (h1 : t.day ≤ 9223372036854775807) (hn : n < maxLen) (hs : fstL fs t.day = none) :
    ∃ w', (Instr.mapUpdate 64 (.map (some m)) (.int .i64 t.day) (tdV t)).run Tryz.prog w = .ok () w' ∧ FMapAt w' m (n + 1) (fs ++ [t]) ∧ w.grownBy w' (some m) := by
  obtain ⟨D, ho, hD, hsz⟩ := h
  have hty : Tidy D := ho.tidy (int_keyed Tryz.underlying3)
  obtain ⟨w', hrun, h2, h3⟩ := World.ownsMap.update ho (int_keyed Tryz.underlying3) Tryz.underlying64 hn (key_int t.day h0 h1) (val := tdV t) (d := .held (tdV t)) (ps := []) rfl
  refine ⟨w', hrun, ⟨_, h2, ?_, ?_⟩, h3⟩
  · intro d
    by_cases e : d = t.day
    · subst e
      have hf : fstL (fs ++ [t]) t.day = some t := by rw [fstL_snoc, hs]; simp
      rw [hf]
      exact ⟨has_put_same ho.isMap (by trivial) _, fun zd => atKey_put_same ho.isMap (by trivial) _ _⟩
    · have hf : fstL (fs ++ [t]) d = fstL fs d := by rw [fstL_snoc, if_neg (fun h => e h.symm)]; simp
      rw [hf]
      have hne : (Lit.int .i64 d) ≠ (Lit.int .i64 t.day) := fun h => e (by injection h)
      exact ⟨(has_put_other hne _).trans (hD d).1, fun zd => (atKey_put_other hne _ _).trans ((hD d).2 zd)⟩
  · have h4 := (hD t.day).1
    rw [hs] at h4
    have h5 : has D (.int .i64 t.day) = false := by simpa using h4
    rw [size_put hty, h5, hsz, List.length_append]
    rfl

/-- What happens when a reader is told a thing, beside what a new reader says of it. -/
theorem learn_next {key : List UInt8} {fs : List Td} {t : Td} {sig : List (List UInt8)} {es : Pf.Rd} {er : Int} {es0 : Pf.Rd} {er0 : Int} (h : Pf.learnL key (knows fs) t.day t.cnt t.root sig = (es, er)) (h0 : Pf.learnL key [] t.day t.cnt t.root sig = (es0, er0)) :
    (es = knows fs ∧ (er = 1 ∨ er = 19) ∧ er0 = er) ∨ (∃ x, fstL fs t.day = some x ∧ x.cnt = t.cnt ∧ x.root = t.root ∧ es = knows fs ∧ er = 0 ∧ er0 = 0) ∨
    (∃ x, fstL fs t.day = some x ∧ ¬ (x.root = t.root ∧ x.cnt = t.cnt) ∧ es = knows fs ∧ er = 23 ∧ er0 = 0) ∨ (fstL fs t.day = none ∧ es = knows (fs ++ [t]) ∧ er = 0 ∧ er0 = 0) := by
  unfold Pf.learnL at h h0
  by_cases hb : t.day < 0 ∨ 1000000 < t.day ∨ t.cnt < 0 ∨ 2000 < t.cnt ∨ Dg.isL t.root = false
  · rw [if_pos hb] at h h0
    cases h; cases h0
    exact .inl ⟨rfl, .inl rfl, rfl⟩
  · rw [if_neg hb] at h h0
    by_cases hv : Se.verL key (Pf.msgL t.day t.cnt t.root) sig = false
    · rw [if_pos hv] at h h0
      cases h; cases h0
      exact .inl ⟨rfl, .inr rfl, rfl⟩
    · rw [if_neg hv] at h h0
      have e0 : er0 = 0 := by cases h0; rfl
      subst e0
      rw [find_knows] at h
      cases hf : fstL fs t.day with
      | none =>
        rw [hf] at h
        cases h
        refine .inr (.inr (.inr ⟨rfl, ?_, rfl, rfl⟩))
        unfold knows; simp
      | some x =>
        rw [hf] at h
        simp only [Option.map_some] at h
        by_cases e : x.cnt = t.cnt ∧ x.root = t.root
        · rw [if_pos e] at h
          cases h
          exact .inr (.inl ⟨x, rfl, e.1, e.2, rfl, rfl, rfl⟩)
        · rw [if_neg e] at h
          cases h
          exact .inr (.inr (.inl ⟨x, rfl, fun h => e ⟨h.2, h.1⟩, rfl, rfl, rfl⟩))
theorem knows_length (fs : List Td) : (Pf.daysL (knows fs)).length = fs.length := by
  unfold Pf.daysL knows; rw [List.length_mergeSort, List.length_map, List.length_map]
/-- What a proof is for a day: as what was told first says. -/
theorem was_none {fs : List Td} {day : Int} {p : Pf.Pr} (h : fstL fs day = none) : Pf.wasL (knows fs) day p = 11 := by
  unfold Pf.wasL; rw [find_knows, h]; rfl
theorem was_some {fs : List Td} {day : Int} {p : Pf.Pr} {x : Td} (h : fstL fs day = some x) : Pf.wasL (knows fs) day p = if x.cnt = p.count ∧ Pf.checkL x.root p = true then 0 else 21 := by
  unfold Pf.wasL; rw [find_knows, h]; rfl
end Go.Proofs.YteoclpjbeadkpaaGreatDoor
/- WALK: pandectref03.Few at the seals of layer 44. -/
namespace Go.Proofs.YteoclpjbeadkpaaGreatDoor
open Go.RowKit Go.Shelf Go.Maps

set_option maxHeartbeats 1000000 in
set_option maxRecDepth 100000 in
theorem few3_any (sig : List (List UInt8)) (sv : Value) (w : World) (hs : SealAt w sv sig) (hok : SigOk sig) :
    Calls Tryz.prog 39 #[sv] w fun e w' => e = .returned (.bool true) ∧ Below w.heap.size w w' := by
  obtain ⟨a, c, pa, pc, rfl, h, _⟩ := hs
  have hl := hok.1
  rcases h with ⟨rfl, _⟩ | ⟨h0, b, off, c', hv, hlt, hc⟩
  · cases hl
  rw [hl] at hv
  simp only [Value.slice.injEq, true_and] at hv
  obtain ⟨rfl, rfl⟩ := hv
  have hlen : ∀ k, k < 18 → (sig.getD k []).length ≤ 100 := by
    intro k hk
    have h2 := hok.2.1
    rw [List.all_eq_true] at h2
    have h3 : sig.getD k [] ∈ sig := by
      simp only [List.getD, List.getElem?_eq_getElem (show k < sig.length by omega), Option.getD_some]
      exact List.getElem_mem _
    rw [isL_len (h2 _ h3)]; decide
  rw [hl] at hc
  have hb : Hid (Below w.heap.size w (w.alloc (.cells #[.int .i64 0, .slice (some ⟨b, off, none⟩) 18 c, .slice pa 0 pc] 42))) := (Below.refl _ w).alloc (Nat.le_refl _) _
  have hA : Hid (∀ j, j < 18 → (w.alloc (.cells #[.int .i64 0, .slice (some ⟨b, off, none⟩) 18 c, .slice pa 0 pc] 42)).cell? ⟨b, off + j, none⟩ = some (.string ⟨(sig.getD j []).toArray⟩)) := fun j hj => (hb.out.cell (p := ⟨b, off + j, none⟩) hlt).trans (hc j hj)
  clear hc h0 hl hok
  go_enter Tryz.func39, Tryz.ntmps39
  go_wp2_with fail
  go_loop [3] (fun i => ∃ k : Nat, k ≤ 18 ∧ i = .int .i64 (k : Int)) (fun i => 18 - (intOf i).toNat)
  case atStart => exact ⟨0, by omega, rfl⟩
  case round =>
    obtain ⟨k, hk, rfl⟩ := hrel
    by_cases hkl : k < 18
    · have hck := hA.out k hkl
      have hlk := hlen k hkl
      generalize sig.getD k [] = s at hck hlk
      go_wp2_with fail
      go_round
      case rel => exact ⟨k + 1, by omega, by go_num⟩
      case measure => simp [intOf]; omega
    · obtain rfl : k = 18 := by omega
      go_wp2_with fail
      refine wp_loop_rounds 1 ?_
      rw [rounds_succ]
      go_wp2_with fail
      go_ret
      exact ⟨rfl, hb.out⟩
end Go.Proofs.YteoclpjbeadkpaaGreatDoor
/- WALK: ProofSigned. -/
namespace Go.Proofs.YteoclpjbeadkpaaGreatDoor
open Go.RowKit Go.Shelf Go.Maps

theorem hasTds_one {W : World} {b c : Nat} {day cnt : Int} {root : List UInt8} {wrong : Bool} (h : W.heap[b]? = some (.cells #[.int .i64 day, .int .i64 cnt, .string ⟨root.toArray⟩, .bool wrong] 46 (0, 0))) : HasTds W (.slice (some ⟨b, 0, none⟩) 1 c) [⟨day, cnt, root, wrong⟩] := by
  refine Or.inr ⟨by simp, b, 0, c, rfl, (Array.getElem?_eq_some_iff.1 h).1, fun j hj => ?_⟩
  match j, hj with
  | 0, _ => exact ⟨cell_of_heap h, cell_of_heap h, cell_of_heap h, cell_of_heap h⟩
  | (n + 1), h => exact absurd h (by show ¬ (n + 1 < 1); omega)
theorem short_one {day cnt : Int} {root : List UInt8} {wrong : Bool} (h : shortL [⟨day, cnt, root, wrong⟩] 1 = true) : root.length ≤ 100 := by
  simpa [shortL] using h
theorem sigOk' {wrong : Bool} {day cnt : Int} {root : List UInt8} {sig : List (List UInt8)} (h : Hid (sgL wrong day cnt root = sig)) : SigOk sig := by rw [← h.out]; exact sigOk _ _
theorem ver_own' (d c : Int) (r : List UInt8) : Se.verL offKey (Pf.msgL d c r) (Se.sigL (secL false) (Pf.msgL d c r)) = true := Se.ver_sig officeL _
theorem sgn_any (day cnt : Int) (root : List UInt8) (wrong : Bool) (W : World) (ht : Tab W) (hd0 : -9223372036854775808 ≤ day) (hd1 : day ≤ 9223372036854775807) (hc0 : -9223372036854775808 ≤ cnt) (hc1 : cnt ≤ 9223372036854775807) (hr : root.length ≤ 100)
    (sig : List (List UInt8)) (hsig : Hid (sgL wrong day cnt root = sig)) :
    Calls Tryz.prog 21 #[.agg #[.int .i64 day, .int .i64 cnt, .string ⟨root.toArray⟩, .bool wrong]] W fun e w' => ∃ a c pa pc, e = .returned (.tuple #[.string ⟨offKey.toArray⟩, .agg #[.int .i64 0, .slice a 18 c, .slice pa 0 pc]]) ∧ HasStrsC w' (.slice a 18 c) sig ∧ Below W.heap.size W w' := by
  refine (signed_any day cnt root wrong W ht hd0 hd1 hc0 hc1 (Nat.le_trans hr (by decide)) offKey rfl sig hsig).mono ?_
  rintro e w' ⟨sv, rfl, ⟨a, c, pa, pc, rfl, h⟩, b⟩
  exact ⟨a, c, pa, pc, rfl, h, b⟩
theorem learn_cases {key : List UInt8} {day cnt : Int} {root : List UInt8} {sig : List (List UInt8)} {es : Pf.Rd} {er : Int} (h : Pf.learnL key [] day cnt root sig = (es, er)) :
    (es = [] ∧ er = 1) ∨ ((0 ≤ day ∧ day ≤ 1000000 ∧ 0 ≤ cnt ∧ cnt ≤ 2000 ∧ Dg.isL root = true) ∧ Se.verL key (Pf.msgL day cnt root) sig = true ∧ es = [(day, cnt, root)] ∧ er = 0) ∨
    ((0 ≤ day ∧ day ≤ 1000000 ∧ 0 ≤ cnt ∧ cnt ≤ 2000 ∧ Dg.isL root = true) ∧ Se.verL key (Pf.msgL day cnt root) sig = false ∧ es = [] ∧ er = 19) := by
  unfold Pf.learnL at h
  by_cases hb : day < 0 ∨ 1000000 < day ∨ cnt < 0 ∨ 2000 < cnt ∨ Dg.isL root = false
  · rw [if_pos hb] at h
    cases h; exact .inl ⟨rfl, rfl⟩
  · rw [if_neg hb] at h
    have hg : 0 ≤ day ∧ day ≤ 1000000 ∧ 0 ≤ cnt ∧ cnt ≤ 2000 ∧ Dg.isL root = true := by
      simp only [not_or, Bool.not_eq_false] at hb
      exact ⟨by omega, by omega, by omega, by omega, hb.2.2.2.2⟩
    by_cases hv : Se.verL key (Pf.msgL day cnt root) sig = false
    · rw [if_pos hv] at h
      cases h; exact .inr (.inr ⟨hg, hv, rfl, rfl⟩)
    · rw [if_neg hv] at h
      cases h; exact .inr (.inl ⟨hg, by simpa using hv, rfl, rfl⟩)
theorem days_len (es : Pf.Rd) : (Pf.daysL es).length = es.length := by unfold Pf.daysL; rw [List.length_mergeSort, List.length_map]

set_option maxHeartbeats 16000000 in
set_option maxRecDepth 100000 in
theorem signedLaw_any (day cnt : Int) (root : List UInt8) (wrong : Bool) (w : World) (ht : Tab w) (hd0 : -9223372036854775808 ≤ day) (hd1 : day ≤ 9223372036854775807) (hc0 : -9223372036854775808 ≤ cnt) (hc1 : cnt ≤ 9223372036854775807) (hrl : root.length ≤ 140737488355328) :
    Calls Tryz.prog 7 #[.agg #[.int .i64 day, .int .i64 cnt, .string ⟨root.toArray⟩, .bool wrong]] w fun e w' => e = .returned (.bool true) ∧ Below w.heap.size w w' := by
  have hmm := @run_makeMap Tryz.prog
  obtain ⟨sb, hsb⟩ : ∃ sb, Hid (shortL [⟨day, cnt, root, wrong⟩] 1 = sb) := ⟨_, rfl⟩
  obtain ⟨sig, hsig⟩ : ∃ sig, Hid (sgL wrong day cnt root = sig) := ⟨_, rfl⟩
  obtain ⟨⟨es, er⟩, hlr⟩ : ∃ r, Hid (Pf.learnL offKey [] day cnt root sig = r) := ⟨_, rfl⟩
  go_enter Tryz.func7, Tryz.ntmps7
  have bel := Below.refl w.heap.size w
  have Hbel := Lib.hid bel
  clear bel
  go_wp2_with fail
  have bel := Hbel.out
  clear Hbel
  obtain ⟨w1, hw⟩ : ∃ z, w.alloc (.cells #[.int .i64 day, .int .i64 cnt, .string ⟨root.toArray⟩, .bool wrong] 46) = z := ⟨_, rfl⟩
  have c : Below w.heap.size w w1 := by rw [← hw]; exact (Below.refl _ _).alloc (Nat.le_refl _) _
  have mt : w1.heap[w.heap.size]? = some (.cells #[.int .i64 day, .int .i64 cnt, .string ⟨root.toArray⟩, .bool wrong] 46 (0, 0)) := by rw [← hw]; exact heap_alloc_at _ _
  rw [hw]
  clear hw
  replace bel := below_next bel c
  clear c
  obtain ⟨bt, hb⟩ : ∃ b, w.heap.size = b := ⟨_, rfl⟩
  rw [hb] at mt ⊢
  clear hb
  refine (head44_any _ (ht.below bel (Nat.le_refl _))).mono ?_
  rintro e w2 ⟨rfl, c⟩
  replace bel := below_next bel c
  replace mt := (c.block _ (Array.getElem?_eq_some_iff.1 mt).1).trans mt
  clear c
  have q_mt_0 := cell_of_heap (i := 0) mt
  have q_mt_1 := cell_of_heap (i := 1) mt
  have q_mt_2 := cell_of_heap (i := 2) mt
  have q_mt_3 := cell_of_heap (i := 3) mt
  have Hbel := Lib.hid bel
  have Hmt := Lib.hid mt
  clear bel mt
  go_wp2_with fail
  have bel := Hbel.out
  have mt := Hmt.out
  clear Hbel Hmt
  clear q_mt_0 q_mt_1 q_mt_2 q_mt_3
  obtain ⟨w3, hw⟩ : ∃ z, w2.alloc (.cells #[.int .i64 day, .int .i64 cnt, .string ⟨root.toArray⟩, .bool wrong] 46) = z := ⟨_, rfl⟩
  have c : Below w2.heap.size w2 w3 := by rw [← hw]; exact (Below.refl _ _).alloc (Nat.le_refl _) _
  have mx : w3.heap[w2.heap.size]? = some (.cells #[.int .i64 day, .int .i64 cnt, .string ⟨root.toArray⟩, .bool wrong] 46 (0, 0)) := by rw [← hw]; exact heap_alloc_at _ _
  rw [hw]
  clear hw
  replace bel := below_next bel c
  replace mt := (c.block _ (Array.getElem?_eq_some_iff.1 mt).1).trans mt
  clear c
  obtain ⟨bx, hb⟩ : ∃ b, w2.heap.size = b := ⟨_, rfl⟩
  rw [hb] at mx ⊢
  clear hb
  have htd : HasTds w3 (.slice (some ⟨bx, 0, none⟩) 1 1) [⟨day, cnt, root, wrong⟩] := hasTds_one mx
  clear mx
  refine (short_any [⟨day, cnt, root, wrong⟩] 1 _ _ htd (by simp) (by decide) (by simpa using hrl) sb hsb).mono ?_
  rintro e w4 ⟨rfl, c⟩
  clear htd
  replace bel := below_next bel c
  replace mt := (c.block _ (Array.getElem?_eq_some_iff.1 mt).1).trans mt
  clear c
  cases sb
  · skip
    have Hbel := Lib.hid bel
    have Hmt := Lib.hid mt
    clear bel mt
    go_wp2_with fail
    have bel := Hbel.out
    have mt := Hmt.out
    clear Hbel Hmt
    go_ret
    exact ⟨rfl, bel⟩
  · skip
    have hr100 : root.length ≤ 100 := short_one hsb.out
    have q_mt_0 := cell_of_heap (i := 0) mt
    have q_mt_1 := cell_of_heap (i := 1) mt
    have q_mt_2 := cell_of_heap (i := 2) mt
    have q_mt_3 := cell_of_heap (i := 3) mt
    have Hbel := Lib.hid bel
    have Hmt := Lib.hid mt
    clear bel mt
    go_wp2_with fail
    have bel := Hbel.out
    have mt := Hmt.out
    clear Hbel Hmt
    clear q_mt_0 q_mt_1 q_mt_2 q_mt_3
    refine (sgn_any day cnt root wrong _ (ht.below bel (Nat.le_refl _)) hd0 hd1 hc0 hc1 hr100 sig hsig).mono ?_
    rintro e w5 ⟨sa, sc, sp, sq, rfl, sg, c⟩
    replace bel := below_next bel c
    replace mt := (c.block _ (Array.getElem?_eq_some_iff.1 mt).1).trans mt
    clear c
    have Hbel := Lib.hid bel
    have Hmt := Lib.hid mt
    have Hsg := Lib.hid sg
    clear bel mt sg
    go_wp2_with fail
    have bel := Hbel.out
    have mt := Hmt.out
    have sg := Hsg.out
    clear Hbel Hmt Hsg
    obtain ⟨w6, hw⟩ : ∃ z, w5.alloc (.cells #[.int .i64 0, .slice sa 18 sc, .slice sp 0 sq] 42) = z := ⟨_, rfl⟩
    have c : Below w5.heap.size w5 w6 := by rw [← hw]; exact (Below.refl _ _).alloc (Nat.le_refl _) _
    have ms : w6.heap[w5.heap.size]? = some (.cells #[.int .i64 0, .slice sa 18 sc, .slice sp 0 sq] 42 (0, 0)) := by rw [← hw]; exact heap_alloc_at _ _
    rw [hw]
    clear hw
    replace bel := below_next bel c
    replace mt := (c.block _ (Array.getElem?_eq_some_iff.1 mt).1).trans mt
    replace sg := sg.below c (Nat.le_refl _)
    clear c
    obtain ⟨bs, hb⟩ : ∃ b, w5.heap.size = b := ⟨_, rfl⟩
    rw [hb] at ms ⊢
    clear hb
    refine (newR_any offKey _).mono ?_
    rintro e w7 ⟨rfl, rd, c⟩
    obtain ⟨rb, hrb⟩ : ∃ r, w6.heap.size + 1 = r := ⟨_, rfl⟩
    obtain ⟨rm, hrm⟩ : ∃ r, w6.heap.size = r := ⟨_, rfl⟩
    have hrw : w.heap.size ≤ rm := by rw [← hrm]; exact bel.size
    rw [hrb, hrm] at rd
    rw [hrb]
    clear hrb hrm
    replace bel := below_next bel c
    replace mt := (c.block _ (Array.getElem?_eq_some_iff.1 mt).1).trans mt
    replace sg := sg.below c (Nat.le_refl _)
    replace ms := (c.block _ (Array.getElem?_eq_some_iff.1 ms).1).trans ms
    clear c
    have q_mt_0 := cell_of_heap (i := 0) mt
    have q_mt_1 := cell_of_heap (i := 1) mt
    have q_mt_2 := cell_of_heap (i := 2) mt
    have q_ms_0 := cell_of_heap (i := 0) ms
    have q_ms_1 := cell_of_heap (i := 1) ms
    have q_ms_2 := cell_of_heap (i := 2) ms
    have Hbel := Lib.hid bel
    have Hmt := Lib.hid mt
    have Hsg := Lib.hid sg
    have Hms := Lib.hid ms
    have Hrd := Lib.hid rd
    clear bel mt sg ms rd
    go_wp2_with fail
    have bel := Hbel.out
    have mt := Hmt.out
    have sg := Hsg.out
    have ms := Hms.out
    have rd := Hrd.out
    clear Hbel Hmt Hsg Hms Hrd
    clear q_mt_0 q_mt_1 q_mt_2 q_ms_0 q_ms_1 q_ms_2
    have mm := rd.2.1
    refine (learn_any offKey root day cnt sig _ rb rm 0 [] _ (ht.below bel (Nat.le_refl _)) rd ⟨sa, sc, sp, sq, rfl, sg⟩ (by rw [← hsig.out]; exact sigOk _ _) hd0 hd1 hc0 hc1 (by omega) (by decide) (es, er) hlr).mono ?_
    rintro e w8 ⟨rfl, rd2, g⟩
    replace bel := bel.grown g bel.size (fun k e => by injection e with e; omega)
    replace mt := map_heap mm g mt
    replace sg := sg.grown mm g
    replace ms := map_heap mm g ms
    clear g mm
    clear rd
    have rd := rd2
    clear rd2
    rcases learn_cases hlr.out with ⟨rfl, rfl⟩ | ⟨⟨k1, k2, k3, k4, k5⟩, hver, rfl, rfl⟩ | ⟨⟨k1, k2, k3, k4, k5⟩, hver, rfl, rfl⟩
    · skip
      by_cases hk0 : 0 ≤ day
      · skip
        by_cases hk1 : day ≤ 1000000
        · skip
          by_cases hk2 : 0 ≤ cnt
          · skip
            by_cases hk3 : cnt ≤ 2000
            · skip
              have q_mt_0 := cell_of_heap (i := 0) mt
              have q_mt_1 := cell_of_heap (i := 1) mt
              have q_mt_2 := cell_of_heap (i := 2) mt
              have q_mt_3 := cell_of_heap (i := 3) mt
              have Hbel := Lib.hid bel
              have Hmt := Lib.hid mt
              have Hsg := Lib.hid sg
              have Hms := Lib.hid ms
              have Hrd := Lib.hid rd
              clear bel mt sg ms rd
              go_wp2_with fail
              have bel := Hbel.out
              have mt := Hmt.out
              have sg := Hsg.out
              have ms := Hms.out
              have rd := Hrd.out
              clear Hbel Hmt Hsg Hms Hrd
              clear q_mt_0 q_mt_1 q_mt_2 q_mt_3
              refine (days_any offKey rb rm 1 [] _ rd (by decide)).mono ?_
              rintro e w9 ⟨dv, rfl, hdv, c⟩
              replace bel := below_next bel c
              replace mt := (c.block _ (Array.getElem?_eq_some_iff.1 mt).1).trans mt
              replace sg := sg.below c (Nat.le_refl _)
              replace ms := (c.block _ (Array.getElem?_eq_some_iff.1 ms).1).trans ms
              replace rd := rd.below c
              clear c
              obtain ⟨da, dc, rfl⟩ := hdv.shape
              clear hdv
              rw [days_len]
              have Hbel := Lib.hid bel
              have Hmt := Lib.hid mt
              have Hsg := Lib.hid sg
              have Hms := Lib.hid ms
              have Hrd := Lib.hid rd
              clear bel mt sg ms rd
              go_wp2_with fail
              have bel := Hbel.out
              have mt := Hmt.out
              have sg := Hsg.out
              have ms := Hms.out
              have rd := Hrd.out
              clear Hbel Hmt Hsg Hms Hrd
              go_ret
              exact ⟨rfl, bel⟩
            · skip
              have q_mt_0 := cell_of_heap (i := 0) mt
              have q_mt_1 := cell_of_heap (i := 1) mt
              have q_mt_2 := cell_of_heap (i := 2) mt
              have q_mt_3 := cell_of_heap (i := 3) mt
              have Hbel := Lib.hid bel
              have Hmt := Lib.hid mt
              have Hsg := Lib.hid sg
              have Hms := Lib.hid ms
              have Hrd := Lib.hid rd
              clear bel mt sg ms rd
              go_wp2_with fail
              have bel := Hbel.out
              have mt := Hmt.out
              have sg := Hsg.out
              have ms := Hms.out
              have rd := Hrd.out
              clear Hbel Hmt Hsg Hms Hrd
              clear q_mt_0 q_mt_1 q_mt_2 q_mt_3
              refine (days_any offKey rb rm 1 [] _ rd (by decide)).mono ?_
              rintro e w9 ⟨dv, rfl, hdv, c⟩
              replace bel := below_next bel c
              replace mt := (c.block _ (Array.getElem?_eq_some_iff.1 mt).1).trans mt
              replace sg := sg.below c (Nat.le_refl _)
              replace ms := (c.block _ (Array.getElem?_eq_some_iff.1 ms).1).trans ms
              replace rd := rd.below c
              clear c
              obtain ⟨da, dc, rfl⟩ := hdv.shape
              clear hdv
              rw [days_len]
              have Hbel := Lib.hid bel
              have Hmt := Lib.hid mt
              have Hsg := Lib.hid sg
              have Hms := Lib.hid ms
              have Hrd := Lib.hid rd
              clear bel mt sg ms rd
              go_wp2_with fail
              have bel := Hbel.out
              have mt := Hmt.out
              have sg := Hsg.out
              have ms := Hms.out
              have rd := Hrd.out
              clear Hbel Hmt Hsg Hms Hrd
              go_ret
              exact ⟨rfl, bel⟩
          · skip
            have q_mt_0 := cell_of_heap (i := 0) mt
            have q_mt_1 := cell_of_heap (i := 1) mt
            have q_mt_2 := cell_of_heap (i := 2) mt
            have q_mt_3 := cell_of_heap (i := 3) mt
            have Hbel := Lib.hid bel
            have Hmt := Lib.hid mt
            have Hsg := Lib.hid sg
            have Hms := Lib.hid ms
            have Hrd := Lib.hid rd
            clear bel mt sg ms rd
            go_wp2_with fail
            have bel := Hbel.out
            have mt := Hmt.out
            have sg := Hsg.out
            have ms := Hms.out
            have rd := Hrd.out
            clear Hbel Hmt Hsg Hms Hrd
            clear q_mt_0 q_mt_1 q_mt_2 q_mt_3
            refine (days_any offKey rb rm 1 [] _ rd (by decide)).mono ?_
            rintro e w9 ⟨dv, rfl, hdv, c⟩
            replace bel := below_next bel c
            replace mt := (c.block _ (Array.getElem?_eq_some_iff.1 mt).1).trans mt
            replace sg := sg.below c (Nat.le_refl _)
            replace ms := (c.block _ (Array.getElem?_eq_some_iff.1 ms).1).trans ms
            replace rd := rd.below c
            clear c
            obtain ⟨da, dc, rfl⟩ := hdv.shape
            clear hdv
            rw [days_len]
            have Hbel := Lib.hid bel
            have Hmt := Lib.hid mt
            have Hsg := Lib.hid sg
            have Hms := Lib.hid ms
            have Hrd := Lib.hid rd
            clear bel mt sg ms rd
            go_wp2_with fail
            have bel := Hbel.out
            have mt := Hmt.out
            have sg := Hsg.out
            have ms := Hms.out
            have rd := Hrd.out
            clear Hbel Hmt Hsg Hms Hrd
            go_ret
            exact ⟨rfl, bel⟩
        · skip
          have q_mt_0 := cell_of_heap (i := 0) mt
          have q_mt_1 := cell_of_heap (i := 1) mt
          have q_mt_2 := cell_of_heap (i := 2) mt
          have q_mt_3 := cell_of_heap (i := 3) mt
          have Hbel := Lib.hid bel
          have Hmt := Lib.hid mt
          have Hsg := Lib.hid sg
          have Hms := Lib.hid ms
          have Hrd := Lib.hid rd
          clear bel mt sg ms rd
          go_wp2_with fail
          have bel := Hbel.out
          have mt := Hmt.out
          have sg := Hsg.out
          have ms := Hms.out
          have rd := Hrd.out
          clear Hbel Hmt Hsg Hms Hrd
          clear q_mt_0 q_mt_1 q_mt_2 q_mt_3
          refine (days_any offKey rb rm 1 [] _ rd (by decide)).mono ?_
          rintro e w9 ⟨dv, rfl, hdv, c⟩
          replace bel := below_next bel c
          replace mt := (c.block _ (Array.getElem?_eq_some_iff.1 mt).1).trans mt
          replace sg := sg.below c (Nat.le_refl _)
          replace ms := (c.block _ (Array.getElem?_eq_some_iff.1 ms).1).trans ms
          replace rd := rd.below c
          clear c
          obtain ⟨da, dc, rfl⟩ := hdv.shape
          clear hdv
          rw [days_len]
          have Hbel := Lib.hid bel
          have Hmt := Lib.hid mt
          have Hsg := Lib.hid sg
          have Hms := Lib.hid ms
          have Hrd := Lib.hid rd
          clear bel mt sg ms rd
          go_wp2_with fail
          have bel := Hbel.out
          have mt := Hmt.out
          have sg := Hsg.out
          have ms := Hms.out
          have rd := Hrd.out
          clear Hbel Hmt Hsg Hms Hrd
          go_ret
          exact ⟨rfl, bel⟩
      · skip
        have q_mt_0 := cell_of_heap (i := 0) mt
        have q_mt_1 := cell_of_heap (i := 1) mt
        have q_mt_2 := cell_of_heap (i := 2) mt
        have q_mt_3 := cell_of_heap (i := 3) mt
        have Hbel := Lib.hid bel
        have Hmt := Lib.hid mt
        have Hsg := Lib.hid sg
        have Hms := Lib.hid ms
        have Hrd := Lib.hid rd
        clear bel mt sg ms rd
        go_wp2_with fail
        have bel := Hbel.out
        have mt := Hmt.out
        have sg := Hsg.out
        have ms := Hms.out
        have rd := Hrd.out
        clear Hbel Hmt Hsg Hms Hrd
        clear q_mt_0 q_mt_1 q_mt_2 q_mt_3
        refine (days_any offKey rb rm 1 [] _ rd (by decide)).mono ?_
        rintro e w9 ⟨dv, rfl, hdv, c⟩
        replace bel := below_next bel c
        replace mt := (c.block _ (Array.getElem?_eq_some_iff.1 mt).1).trans mt
        replace sg := sg.below c (Nat.le_refl _)
        replace ms := (c.block _ (Array.getElem?_eq_some_iff.1 ms).1).trans ms
        replace rd := rd.below c
        clear c
        obtain ⟨da, dc, rfl⟩ := hdv.shape
        clear hdv
        rw [days_len]
        have Hbel := Lib.hid bel
        have Hmt := Lib.hid mt
        have Hsg := Lib.hid sg
        have Hms := Lib.hid ms
        have Hrd := Lib.hid rd
        clear bel mt sg ms rd
        go_wp2_with fail
        have bel := Hbel.out
        have mt := Hmt.out
        have sg := Hsg.out
        have ms := Hms.out
        have rd := Hrd.out
        clear Hbel Hmt Hsg Hms Hrd
        go_ret
        exact ⟨rfl, bel⟩
    · cases wrong
      · skip
        have hL16 : root.length = 16 := isL_len k5
        have q_mt_0 := cell_of_heap (i := 0) mt
        have q_mt_1 := cell_of_heap (i := 1) mt
        have q_mt_2 := cell_of_heap (i := 2) mt
        have q_mt_3 := cell_of_heap (i := 3) mt
        have Hbel := Lib.hid bel
        have Hmt := Lib.hid mt
        have Hsg := Lib.hid sg
        have Hms := Lib.hid ms
        have Hrd := Lib.hid rd
        clear bel mt sg ms rd
        go_wp2_with fail
        have bel := Hbel.out
        have mt := Hmt.out
        have sg := Hsg.out
        have ms := Hms.out
        have rd := Hrd.out
        clear Hbel Hmt Hsg Hms Hrd
        clear q_mt_0 q_mt_1 q_mt_2 q_mt_3
        clear hL16
        obtain ⟨x, hx⟩ : ∃ x, Hid (Pf.msgL day cnt root = x) := ⟨_, rfl⟩
        have hxl : x.length ≤ 35184372088832 := by rw [← hx.out]; unfold Pf.msgL Dg.listL; rw [Dg.sumL_length]; decide
        rw [hx.out] at hver
        have hv2 : HasStrsC w8 (.slice sa 18 sc) sig := sg
        have CM : Hid (∀ A, Below w8.heap.size w8 A → Calls Tryz.prog 19 #[.int .i64 day, .int .i64 cnt, .string ⟨root.toArray⟩] A fun e w' => e = .returned (.string ⟨x.toArray⟩) ∧ Below A.heap.size A w') := fun A hA => message_any day cnt root x A (ht.below (below_next bel hA) (Nat.le_refl _)) hd0 hd1 hc0 hc1 (by omega) hx
        have CV : Hid (∀ A, Below w8.heap.size w8 A → Calls Tryz.prog 38 #[.string ⟨offKey.toArray⟩, .string ⟨x.toArray⟩, .agg #[.int .i64 0, .slice sa 18 sc, .slice sp 0 sq]] A fun e w' => e = .returned (.bool true) ∧ Below A.heap.size A w') := fun A hA => by rw [← hver]; exact verify_any offKey x sig sa sc sp sq A (ht.below (below_next bel hA) (Nat.le_refl _)) (hv2.below hA (Nat.le_refl _)) (sigOk' hsig).1 (sigOk' hsig).2.1 (sigOk' hsig).2.2 hxl
        have SN : Hid (∀ A B, (fun Y => Y.cell? ⟨bt, 0, none⟩ = some (.int .i64 day) ∧ Y.cell? ⟨bt, 1, none⟩ = some (.int .i64 cnt) ∧ Y.cell? ⟨bt, 2, none⟩ = some (.string ⟨root.toArray⟩) ∧ Y.cell? ⟨bt, 3, none⟩ = some (.bool false) ∧ Y.cell? ⟨bs, 0, none⟩ = some (.int .i64 0) ∧ Y.cell? ⟨bs, 1, none⟩ = some (.slice sa 18 sc) ∧ Y.cell? ⟨bs, 2, none⟩ = some (.slice sp 0 sq) ∧ Below w8.heap.size w8 Y) A → Below A.heap.size A B → (fun Y => Y.cell? ⟨bt, 0, none⟩ = some (.int .i64 day) ∧ Y.cell? ⟨bt, 1, none⟩ = some (.int .i64 cnt) ∧ Y.cell? ⟨bt, 2, none⟩ = some (.string ⟨root.toArray⟩) ∧ Y.cell? ⟨bt, 3, none⟩ = some (.bool false) ∧ Y.cell? ⟨bs, 0, none⟩ = some (.int .i64 0) ∧ Y.cell? ⟨bs, 1, none⟩ = some (.slice sa 18 sc) ∧ Y.cell? ⟨bs, 2, none⟩ = some (.slice sp 0 sq) ∧ Below w8.heap.size w8 Y) B) := by
          intro A B h c
          obtain ⟨h0, h1, h2, h3, h4, h5, h6, hb⟩ := h
          have lt := Nat.lt_of_lt_of_le (Array.getElem?_eq_some_iff.1 mt).1 hb.size
          have ls := Nat.lt_of_lt_of_le (Array.getElem?_eq_some_iff.1 ms).1 hb.size
          exact ⟨(c.cell (p := ⟨bt, 0, none⟩) lt).trans h0, (c.cell (p := ⟨bt, 1, none⟩) lt).trans h1, (c.cell (p := ⟨bt, 2, none⟩) lt).trans h2, (c.cell (p := ⟨bt, 3, none⟩) lt).trans h3, (c.cell (p := ⟨bs, 0, none⟩) ls).trans h4, (c.cell (p := ⟨bs, 1, none⟩) ls).trans h5, (c.cell (p := ⟨bs, 2, none⟩) ls).trans h6, below_next hb c⟩
        have hS0 : (fun Y => Y.cell? ⟨bt, 0, none⟩ = some (.int .i64 day) ∧ Y.cell? ⟨bt, 1, none⟩ = some (.int .i64 cnt) ∧ Y.cell? ⟨bt, 2, none⟩ = some (.string ⟨root.toArray⟩) ∧ Y.cell? ⟨bt, 3, none⟩ = some (.bool false) ∧ Y.cell? ⟨bs, 0, none⟩ = some (.int .i64 0) ∧ Y.cell? ⟨bs, 1, none⟩ = some (.slice sa 18 sc) ∧ Y.cell? ⟨bs, 2, none⟩ = some (.slice sp 0 sq) ∧ Below w8.heap.size w8 Y) w8 := ⟨cell_of_heap mt, cell_of_heap mt, cell_of_heap mt, cell_of_heap mt, cell_of_heap ms, cell_of_heap ms, cell_of_heap ms, Below.refl _ _⟩
        have hS1 := SN.out _ _ hS0 (Below.refl _ _).drew
        try simp only at hS0 hS1
        have Hbel := Lib.hid bel
        have Hmt := Lib.hid mt
        have Hsg := Lib.hid sg
        have Hms := Lib.hid ms
        have Hrd := Lib.hid rd
        clear bel mt sg ms rd
        go_region_held3 (fun Y => Y.cell? ⟨bt, 0, none⟩ = some (.int .i64 day) ∧ Y.cell? ⟨bt, 1, none⟩ = some (.int .i64 cnt) ∧ Y.cell? ⟨bt, 2, none⟩ = some (.string ⟨root.toArray⟩) ∧ Y.cell? ⟨bt, 3, none⟩ = some (.bool false) ∧ Y.cell? ⟨bs, 0, none⟩ = some (.int .i64 0) ∧ Y.cell? ⟨bs, 1, none⟩ = some (.slice sa 18 sc) ∧ Y.cell? ⟨bs, 2, none⟩ = some (.slice sp 0 sq) ∧ Below w8.heap.size w8 Y) (first | exact hS0 | exact hS1 | assumption) (first | (go_at_call 19; (with_reducible refine (CM.out _ (And.right (And.right (And.right (And.right (And.right (And.right (And.right (by assumption))))))))).mono ?_); rintro e z1 ⟨rfl, c1⟩; have hSa := SN.out _ _ (by assumption) c1; try simp only at hSa) | (go_at_call 38; (with_reducible refine (CV.out _ (And.right (And.right (And.right (And.right (And.right (And.right (And.right (by assumption))))))))).mono ?_); rintro e z2 ⟨rfl, c2⟩; have hSb := SN.out _ _ (by assumption) c2; try simp only at hSb))
        have bel := Hbel.out
        have mt := Hmt.out
        have sg := Hsg.out
        have ms := Hms.out
        have rd := Hrd.out
        clear Hbel Hmt Hsg Hms Hrd
        obtain ⟨_, _, _, _, _, _, _, c⟩ := hSb
        replace bel := below_next bel c
        replace mt := (c.block _ (Array.getElem?_eq_some_iff.1 mt).1).trans mt
        replace sg := sg.below c (Nat.le_refl _)
        replace ms := (c.block _ (Array.getElem?_eq_some_iff.1 ms).1).trans ms
        replace rd := rd.below c
        clear c
        clear hS0 hS1
        have q_mt_0 := cell_of_heap (i := 0) mt
        have q_mt_1 := cell_of_heap (i := 1) mt
        have q_mt_2 := cell_of_heap (i := 2) mt
        have q_mt_3 := cell_of_heap (i := 3) mt
        have q_ms_0 := cell_of_heap (i := 0) ms
        have q_ms_1 := cell_of_heap (i := 1) ms
        have q_ms_2 := cell_of_heap (i := 2) ms
        have Hbel := Lib.hid bel
        have Hmt := Lib.hid mt
        have Hsg := Lib.hid sg
        have Hms := Lib.hid ms
        have Hrd := Lib.hid rd
        clear bel mt sg ms rd
        go_wp2_with fail
        have bel := Hbel.out
        have mt := Hmt.out
        have sg := Hsg.out
        have ms := Hms.out
        have rd := Hrd.out
        clear Hbel Hmt Hsg Hms Hrd
        clear q_mt_0 q_mt_1 q_mt_2 q_mt_3 q_ms_0 q_ms_1 q_ms_2
        refine (few3_any sig _ _ ⟨sa, sc, sp, sq, rfl, sg⟩ (sigOk' hsig)).mono ?_
        rintro e w9 ⟨rfl, c⟩
        replace bel := below_next bel c
        replace mt := (c.block _ (Array.getElem?_eq_some_iff.1 mt).1).trans mt
        replace sg := sg.below c (Nat.le_refl _)
        replace ms := (c.block _ (Array.getElem?_eq_some_iff.1 ms).1).trans ms
        replace rd := rd.below c
        clear c
        have Hbel := Lib.hid bel
        have Hmt := Lib.hid mt
        have Hsg := Lib.hid sg
        have Hms := Lib.hid ms
        have Hrd := Lib.hid rd
        clear bel mt sg ms rd
        go_wp2_with fail
        have bel := Hbel.out
        have mt := Hmt.out
        have sg := Hsg.out
        have ms := Hms.out
        have rd := Hrd.out
        clear Hbel Hmt Hsg Hms Hrd
        refine (days_any offKey rb rm 1 [(day, cnt, root)] _ rd (by decide)).mono ?_
        rintro e w10 ⟨dv, rfl, hdv, c⟩
        replace bel := below_next bel c
        replace mt := (c.block _ (Array.getElem?_eq_some_iff.1 mt).1).trans mt
        replace sg := sg.below c (Nat.le_refl _)
        replace ms := (c.block _ (Array.getElem?_eq_some_iff.1 ms).1).trans ms
        replace rd := rd.below c
        clear c
        obtain ⟨da, dc, rfl⟩ := hdv.shape
        clear hdv
        rw [days_len]
        have Hbel := Lib.hid bel
        have Hmt := Lib.hid mt
        have Hsg := Lib.hid sg
        have Hms := Lib.hid ms
        have Hrd := Lib.hid rd
        clear bel mt sg ms rd
        go_wp2_with fail
        have bel := Hbel.out
        have mt := Hmt.out
        have sg := Hsg.out
        have ms := Hms.out
        have rd := Hrd.out
        clear Hbel Hmt Hsg Hms Hrd
        go_ret
        exact ⟨rfl, bel⟩
      · skip
        have hL16 : root.length = 16 := isL_len k5
        have q_mt_0 := cell_of_heap (i := 0) mt
        have q_mt_1 := cell_of_heap (i := 1) mt
        have q_mt_2 := cell_of_heap (i := 2) mt
        have q_mt_3 := cell_of_heap (i := 3) mt
        have Hbel := Lib.hid bel
        have Hmt := Lib.hid mt
        have Hsg := Lib.hid sg
        have Hms := Lib.hid ms
        have Hrd := Lib.hid rd
        clear bel mt sg ms rd
        go_wp2_with fail
        have bel := Hbel.out
        have mt := Hmt.out
        have sg := Hsg.out
        have ms := Hms.out
        have rd := Hrd.out
        clear Hbel Hmt Hsg Hms Hrd
        clear q_mt_0 q_mt_1 q_mt_2 q_mt_3
        clear hL16
        obtain ⟨x, hx⟩ : ∃ x, Hid (Pf.msgL day cnt root = x) := ⟨_, rfl⟩
        have hxl : x.length ≤ 35184372088832 := by rw [← hx.out]; unfold Pf.msgL Dg.listL; rw [Dg.sumL_length]; decide
        rw [hx.out] at hver
        have hv2 : HasStrsC w8 (.slice sa 18 sc) sig := sg
        have CM : Hid (∀ A, Below w8.heap.size w8 A → Calls Tryz.prog 19 #[.int .i64 day, .int .i64 cnt, .string ⟨root.toArray⟩] A fun e w' => e = .returned (.string ⟨x.toArray⟩) ∧ Below A.heap.size A w') := fun A hA => message_any day cnt root x A (ht.below (below_next bel hA) (Nat.le_refl _)) hd0 hd1 hc0 hc1 (by omega) hx
        have CV : Hid (∀ A, Below w8.heap.size w8 A → Calls Tryz.prog 38 #[.string ⟨offKey.toArray⟩, .string ⟨x.toArray⟩, .agg #[.int .i64 0, .slice sa 18 sc, .slice sp 0 sq]] A fun e w' => e = .returned (.bool true) ∧ Below A.heap.size A w') := fun A hA => by rw [← hver]; exact verify_any offKey x sig sa sc sp sq A (ht.below (below_next bel hA) (Nat.le_refl _)) (hv2.below hA (Nat.le_refl _)) (sigOk' hsig).1 (sigOk' hsig).2.1 (sigOk' hsig).2.2 hxl
        have SN : Hid (∀ A B, (fun Y => Y.cell? ⟨bt, 0, none⟩ = some (.int .i64 day) ∧ Y.cell? ⟨bt, 1, none⟩ = some (.int .i64 cnt) ∧ Y.cell? ⟨bt, 2, none⟩ = some (.string ⟨root.toArray⟩) ∧ Y.cell? ⟨bt, 3, none⟩ = some (.bool true) ∧ Y.cell? ⟨bs, 0, none⟩ = some (.int .i64 0) ∧ Y.cell? ⟨bs, 1, none⟩ = some (.slice sa 18 sc) ∧ Y.cell? ⟨bs, 2, none⟩ = some (.slice sp 0 sq) ∧ Below w8.heap.size w8 Y) A → Below A.heap.size A B → (fun Y => Y.cell? ⟨bt, 0, none⟩ = some (.int .i64 day) ∧ Y.cell? ⟨bt, 1, none⟩ = some (.int .i64 cnt) ∧ Y.cell? ⟨bt, 2, none⟩ = some (.string ⟨root.toArray⟩) ∧ Y.cell? ⟨bt, 3, none⟩ = some (.bool true) ∧ Y.cell? ⟨bs, 0, none⟩ = some (.int .i64 0) ∧ Y.cell? ⟨bs, 1, none⟩ = some (.slice sa 18 sc) ∧ Y.cell? ⟨bs, 2, none⟩ = some (.slice sp 0 sq) ∧ Below w8.heap.size w8 Y) B) := by
          intro A B h c
          obtain ⟨h0, h1, h2, h3, h4, h5, h6, hb⟩ := h
          have lt := Nat.lt_of_lt_of_le (Array.getElem?_eq_some_iff.1 mt).1 hb.size
          have ls := Nat.lt_of_lt_of_le (Array.getElem?_eq_some_iff.1 ms).1 hb.size
          exact ⟨(c.cell (p := ⟨bt, 0, none⟩) lt).trans h0, (c.cell (p := ⟨bt, 1, none⟩) lt).trans h1, (c.cell (p := ⟨bt, 2, none⟩) lt).trans h2, (c.cell (p := ⟨bt, 3, none⟩) lt).trans h3, (c.cell (p := ⟨bs, 0, none⟩) ls).trans h4, (c.cell (p := ⟨bs, 1, none⟩) ls).trans h5, (c.cell (p := ⟨bs, 2, none⟩) ls).trans h6, below_next hb c⟩
        have hS0 : (fun Y => Y.cell? ⟨bt, 0, none⟩ = some (.int .i64 day) ∧ Y.cell? ⟨bt, 1, none⟩ = some (.int .i64 cnt) ∧ Y.cell? ⟨bt, 2, none⟩ = some (.string ⟨root.toArray⟩) ∧ Y.cell? ⟨bt, 3, none⟩ = some (.bool true) ∧ Y.cell? ⟨bs, 0, none⟩ = some (.int .i64 0) ∧ Y.cell? ⟨bs, 1, none⟩ = some (.slice sa 18 sc) ∧ Y.cell? ⟨bs, 2, none⟩ = some (.slice sp 0 sq) ∧ Below w8.heap.size w8 Y) w8 := ⟨cell_of_heap mt, cell_of_heap mt, cell_of_heap mt, cell_of_heap mt, cell_of_heap ms, cell_of_heap ms, cell_of_heap ms, Below.refl _ _⟩
        have hS1 := SN.out _ _ hS0 (Below.refl _ _).drew
        try simp only at hS0 hS1
        have Hbel := Lib.hid bel
        have Hmt := Lib.hid mt
        have Hsg := Lib.hid sg
        have Hms := Lib.hid ms
        have Hrd := Lib.hid rd
        clear bel mt sg ms rd
        go_region_held3 (fun Y => Y.cell? ⟨bt, 0, none⟩ = some (.int .i64 day) ∧ Y.cell? ⟨bt, 1, none⟩ = some (.int .i64 cnt) ∧ Y.cell? ⟨bt, 2, none⟩ = some (.string ⟨root.toArray⟩) ∧ Y.cell? ⟨bt, 3, none⟩ = some (.bool true) ∧ Y.cell? ⟨bs, 0, none⟩ = some (.int .i64 0) ∧ Y.cell? ⟨bs, 1, none⟩ = some (.slice sa 18 sc) ∧ Y.cell? ⟨bs, 2, none⟩ = some (.slice sp 0 sq) ∧ Below w8.heap.size w8 Y) (first | exact hS0 | exact hS1 | assumption) (first | (go_at_call 19; (with_reducible refine (CM.out _ (And.right (And.right (And.right (And.right (And.right (And.right (And.right (by assumption))))))))).mono ?_); rintro e z1 ⟨rfl, c1⟩; have hSa := SN.out _ _ (by assumption) c1; try simp only at hSa) | (go_at_call 38; (with_reducible refine (CV.out _ (And.right (And.right (And.right (And.right (And.right (And.right (And.right (by assumption))))))))).mono ?_); rintro e z2 ⟨rfl, c2⟩; have hSb := SN.out _ _ (by assumption) c2; try simp only at hSb))
        have bel := Hbel.out
        have mt := Hmt.out
        have sg := Hsg.out
        have ms := Hms.out
        have rd := Hrd.out
        clear Hbel Hmt Hsg Hms Hrd
        obtain ⟨_, _, _, _, _, _, _, c⟩ := hSb
        replace bel := below_next bel c
        replace mt := (c.block _ (Array.getElem?_eq_some_iff.1 mt).1).trans mt
        replace sg := sg.below c (Nat.le_refl _)
        replace ms := (c.block _ (Array.getElem?_eq_some_iff.1 ms).1).trans ms
        replace rd := rd.below c
        clear c
        clear hS0 hS1
        have q_mt_0 := cell_of_heap (i := 0) mt
        have q_mt_1 := cell_of_heap (i := 1) mt
        have q_mt_2 := cell_of_heap (i := 2) mt
        have q_mt_3 := cell_of_heap (i := 3) mt
        have q_ms_0 := cell_of_heap (i := 0) ms
        have q_ms_1 := cell_of_heap (i := 1) ms
        have q_ms_2 := cell_of_heap (i := 2) ms
        have Hbel := Lib.hid bel
        have Hmt := Lib.hid mt
        have Hsg := Lib.hid sg
        have Hms := Lib.hid ms
        have Hrd := Lib.hid rd
        clear bel mt sg ms rd
        go_wp2_with fail
        have bel := Hbel.out
        have mt := Hmt.out
        have sg := Hsg.out
        have ms := Hms.out
        have rd := Hrd.out
        clear Hbel Hmt Hsg Hms Hrd
        clear q_mt_0 q_mt_1 q_mt_2 q_mt_3 q_ms_0 q_ms_1 q_ms_2
        refine (few3_any sig _ _ ⟨sa, sc, sp, sq, rfl, sg⟩ (sigOk' hsig)).mono ?_
        rintro e w9 ⟨rfl, c⟩
        replace bel := below_next bel c
        replace mt := (c.block _ (Array.getElem?_eq_some_iff.1 mt).1).trans mt
        replace sg := sg.below c (Nat.le_refl _)
        replace ms := (c.block _ (Array.getElem?_eq_some_iff.1 ms).1).trans ms
        replace rd := rd.below c
        clear c
        have Hbel := Lib.hid bel
        have Hmt := Lib.hid mt
        have Hsg := Lib.hid sg
        have Hms := Lib.hid ms
        have Hrd := Lib.hid rd
        clear bel mt sg ms rd
        go_wp2_with fail
        have bel := Hbel.out
        have mt := Hmt.out
        have sg := Hsg.out
        have ms := Hms.out
        have rd := Hrd.out
        clear Hbel Hmt Hsg Hms Hrd
        refine (days_any offKey rb rm 1 [(day, cnt, root)] _ rd (by decide)).mono ?_
        rintro e w10 ⟨dv, rfl, hdv, c⟩
        replace bel := below_next bel c
        replace mt := (c.block _ (Array.getElem?_eq_some_iff.1 mt).1).trans mt
        replace sg := sg.below c (Nat.le_refl _)
        replace ms := (c.block _ (Array.getElem?_eq_some_iff.1 ms).1).trans ms
        replace rd := rd.below c
        clear c
        obtain ⟨da, dc, rfl⟩ := hdv.shape
        clear hdv
        rw [days_len]
        have Hbel := Lib.hid bel
        have Hmt := Lib.hid mt
        have Hsg := Lib.hid sg
        have Hms := Lib.hid ms
        have Hrd := Lib.hid rd
        clear bel mt sg ms rd
        go_wp2_with fail
        have bel := Hbel.out
        have mt := Hmt.out
        have sg := Hsg.out
        have ms := Hms.out
        have rd := Hrd.out
        clear Hbel Hmt Hsg Hms Hrd
        go_ret
        exact ⟨rfl, bel⟩
    · cases wrong
      · exact absurd hver (by rw [← hsig.out]; unfold sgL; rw [ver_own']; decide)
      · skip
        have hL16 : root.length = 16 := isL_len k5
        have q_mt_0 := cell_of_heap (i := 0) mt
        have q_mt_1 := cell_of_heap (i := 1) mt
        have q_mt_2 := cell_of_heap (i := 2) mt
        have q_mt_3 := cell_of_heap (i := 3) mt
        have Hbel := Lib.hid bel
        have Hmt := Lib.hid mt
        have Hsg := Lib.hid sg
        have Hms := Lib.hid ms
        have Hrd := Lib.hid rd
        clear bel mt sg ms rd
        go_wp2_with fail
        have bel := Hbel.out
        have mt := Hmt.out
        have sg := Hsg.out
        have ms := Hms.out
        have rd := Hrd.out
        clear Hbel Hmt Hsg Hms Hrd
        clear q_mt_0 q_mt_1 q_mt_2 q_mt_3
        clear hL16
        obtain ⟨x, hx⟩ : ∃ x, Hid (Pf.msgL day cnt root = x) := ⟨_, rfl⟩
        have hxl : x.length ≤ 35184372088832 := by rw [← hx.out]; unfold Pf.msgL Dg.listL; rw [Dg.sumL_length]; decide
        rw [hx.out] at hver
        have hv2 : HasStrsC w8 (.slice sa 18 sc) sig := sg
        have CM : Hid (∀ A, Below w8.heap.size w8 A → Calls Tryz.prog 19 #[.int .i64 day, .int .i64 cnt, .string ⟨root.toArray⟩] A fun e w' => e = .returned (.string ⟨x.toArray⟩) ∧ Below A.heap.size A w') := fun A hA => message_any day cnt root x A (ht.below (below_next bel hA) (Nat.le_refl _)) hd0 hd1 hc0 hc1 (by omega) hx
        have CV : Hid (∀ A, Below w8.heap.size w8 A → Calls Tryz.prog 38 #[.string ⟨offKey.toArray⟩, .string ⟨x.toArray⟩, .agg #[.int .i64 0, .slice sa 18 sc, .slice sp 0 sq]] A fun e w' => e = .returned (.bool false) ∧ Below A.heap.size A w') := fun A hA => by rw [← hver]; exact verify_any offKey x sig sa sc sp sq A (ht.below (below_next bel hA) (Nat.le_refl _)) (hv2.below hA (Nat.le_refl _)) (sigOk' hsig).1 (sigOk' hsig).2.1 (sigOk' hsig).2.2 hxl
        have SN : Hid (∀ A B, (fun Y => Y.cell? ⟨bt, 0, none⟩ = some (.int .i64 day) ∧ Y.cell? ⟨bt, 1, none⟩ = some (.int .i64 cnt) ∧ Y.cell? ⟨bt, 2, none⟩ = some (.string ⟨root.toArray⟩) ∧ Y.cell? ⟨bt, 3, none⟩ = some (.bool true) ∧ Y.cell? ⟨bs, 0, none⟩ = some (.int .i64 0) ∧ Y.cell? ⟨bs, 1, none⟩ = some (.slice sa 18 sc) ∧ Y.cell? ⟨bs, 2, none⟩ = some (.slice sp 0 sq) ∧ Below w8.heap.size w8 Y) A → Below A.heap.size A B → (fun Y => Y.cell? ⟨bt, 0, none⟩ = some (.int .i64 day) ∧ Y.cell? ⟨bt, 1, none⟩ = some (.int .i64 cnt) ∧ Y.cell? ⟨bt, 2, none⟩ = some (.string ⟨root.toArray⟩) ∧ Y.cell? ⟨bt, 3, none⟩ = some (.bool true) ∧ Y.cell? ⟨bs, 0, none⟩ = some (.int .i64 0) ∧ Y.cell? ⟨bs, 1, none⟩ = some (.slice sa 18 sc) ∧ Y.cell? ⟨bs, 2, none⟩ = some (.slice sp 0 sq) ∧ Below w8.heap.size w8 Y) B) := by
          intro A B h c
          obtain ⟨h0, h1, h2, h3, h4, h5, h6, hb⟩ := h
          have lt := Nat.lt_of_lt_of_le (Array.getElem?_eq_some_iff.1 mt).1 hb.size
          have ls := Nat.lt_of_lt_of_le (Array.getElem?_eq_some_iff.1 ms).1 hb.size
          exact ⟨(c.cell (p := ⟨bt, 0, none⟩) lt).trans h0, (c.cell (p := ⟨bt, 1, none⟩) lt).trans h1, (c.cell (p := ⟨bt, 2, none⟩) lt).trans h2, (c.cell (p := ⟨bt, 3, none⟩) lt).trans h3, (c.cell (p := ⟨bs, 0, none⟩) ls).trans h4, (c.cell (p := ⟨bs, 1, none⟩) ls).trans h5, (c.cell (p := ⟨bs, 2, none⟩) ls).trans h6, below_next hb c⟩
        have hS0 : (fun Y => Y.cell? ⟨bt, 0, none⟩ = some (.int .i64 day) ∧ Y.cell? ⟨bt, 1, none⟩ = some (.int .i64 cnt) ∧ Y.cell? ⟨bt, 2, none⟩ = some (.string ⟨root.toArray⟩) ∧ Y.cell? ⟨bt, 3, none⟩ = some (.bool true) ∧ Y.cell? ⟨bs, 0, none⟩ = some (.int .i64 0) ∧ Y.cell? ⟨bs, 1, none⟩ = some (.slice sa 18 sc) ∧ Y.cell? ⟨bs, 2, none⟩ = some (.slice sp 0 sq) ∧ Below w8.heap.size w8 Y) w8 := ⟨cell_of_heap mt, cell_of_heap mt, cell_of_heap mt, cell_of_heap mt, cell_of_heap ms, cell_of_heap ms, cell_of_heap ms, Below.refl _ _⟩
        have hS1 := SN.out _ _ hS0 (Below.refl _ _).drew
        try simp only at hS0 hS1
        have Hbel := Lib.hid bel
        have Hmt := Lib.hid mt
        have Hsg := Lib.hid sg
        have Hms := Lib.hid ms
        have Hrd := Lib.hid rd
        clear bel mt sg ms rd
        go_region_held3 (fun Y => Y.cell? ⟨bt, 0, none⟩ = some (.int .i64 day) ∧ Y.cell? ⟨bt, 1, none⟩ = some (.int .i64 cnt) ∧ Y.cell? ⟨bt, 2, none⟩ = some (.string ⟨root.toArray⟩) ∧ Y.cell? ⟨bt, 3, none⟩ = some (.bool true) ∧ Y.cell? ⟨bs, 0, none⟩ = some (.int .i64 0) ∧ Y.cell? ⟨bs, 1, none⟩ = some (.slice sa 18 sc) ∧ Y.cell? ⟨bs, 2, none⟩ = some (.slice sp 0 sq) ∧ Below w8.heap.size w8 Y) (first | exact hS0 | exact hS1 | assumption) (first | (go_at_call 19; (with_reducible refine (CM.out _ (And.right (And.right (And.right (And.right (And.right (And.right (And.right (by assumption))))))))).mono ?_); rintro e z1 ⟨rfl, c1⟩; have hSa := SN.out _ _ (by assumption) c1; try simp only at hSa) | (go_at_call 38; (with_reducible refine (CV.out _ (And.right (And.right (And.right (And.right (And.right (And.right (And.right (by assumption))))))))).mono ?_); rintro e z2 ⟨rfl, c2⟩; have hSb := SN.out _ _ (by assumption) c2; try simp only at hSb))
        have bel := Hbel.out
        have mt := Hmt.out
        have sg := Hsg.out
        have ms := Hms.out
        have rd := Hrd.out
        clear Hbel Hmt Hsg Hms Hrd
        obtain ⟨_, _, _, _, _, _, _, c⟩ := hSb
        replace bel := below_next bel c
        replace mt := (c.block _ (Array.getElem?_eq_some_iff.1 mt).1).trans mt
        replace sg := sg.below c (Nat.le_refl _)
        replace ms := (c.block _ (Array.getElem?_eq_some_iff.1 ms).1).trans ms
        replace rd := rd.below c
        clear c
        clear hS0 hS1
        have q_mt_0 := cell_of_heap (i := 0) mt
        have q_mt_1 := cell_of_heap (i := 1) mt
        have q_mt_2 := cell_of_heap (i := 2) mt
        have q_mt_3 := cell_of_heap (i := 3) mt
        have q_ms_0 := cell_of_heap (i := 0) ms
        have q_ms_1 := cell_of_heap (i := 1) ms
        have q_ms_2 := cell_of_heap (i := 2) ms
        have Hbel := Lib.hid bel
        have Hmt := Lib.hid mt
        have Hsg := Lib.hid sg
        have Hms := Lib.hid ms
        have Hrd := Lib.hid rd
        clear bel mt sg ms rd
        go_wp2_with fail
        have bel := Hbel.out
        have mt := Hmt.out
        have sg := Hsg.out
        have ms := Hms.out
        have rd := Hrd.out
        clear Hbel Hmt Hsg Hms Hrd
        clear q_mt_0 q_mt_1 q_mt_2 q_mt_3 q_ms_0 q_ms_1 q_ms_2
        refine (few3_any sig _ _ ⟨sa, sc, sp, sq, rfl, sg⟩ (sigOk' hsig)).mono ?_
        rintro e w9 ⟨rfl, c⟩
        replace bel := below_next bel c
        replace mt := (c.block _ (Array.getElem?_eq_some_iff.1 mt).1).trans mt
        replace sg := sg.below c (Nat.le_refl _)
        replace ms := (c.block _ (Array.getElem?_eq_some_iff.1 ms).1).trans ms
        replace rd := rd.below c
        clear c
        have Hbel := Lib.hid bel
        have Hmt := Lib.hid mt
        have Hsg := Lib.hid sg
        have Hms := Lib.hid ms
        have Hrd := Lib.hid rd
        clear bel mt sg ms rd
        go_wp2_with fail
        have bel := Hbel.out
        have mt := Hmt.out
        have sg := Hsg.out
        have ms := Hms.out
        have rd := Hrd.out
        clear Hbel Hmt Hsg Hms Hrd
        refine (days_any offKey rb rm 1 [] _ rd (by decide)).mono ?_
        rintro e w10 ⟨dv, rfl, hdv, c⟩
        replace bel := below_next bel c
        replace mt := (c.block _ (Array.getElem?_eq_some_iff.1 mt).1).trans mt
        replace sg := sg.below c (Nat.le_refl _)
        replace ms := (c.block _ (Array.getElem?_eq_some_iff.1 ms).1).trans ms
        replace rd := rd.below c
        clear c
        obtain ⟨da, dc, rfl⟩ := hdv.shape
        clear hdv
        rw [days_len]
        have Hbel := Lib.hid bel
        have Hmt := Lib.hid mt
        have Hsg := Lib.hid sg
        have Hms := Lib.hid ms
        have Hrd := Lib.hid rd
        clear bel mt sg ms rd
        go_wp2_with fail
        have bel := Hbel.out
        have mt := Hmt.out
        have sg := Hsg.out
        have ms := Hms.out
        have rd := Hrd.out
        clear Hbel Hmt Hsg Hms Hrd
        go_ret
        exact ⟨rfl, bel⟩
end Go.Proofs.YteoclpjbeadkpaaGreatDoor
/- WALK: ProofPublished. -/
namespace Go.Proofs.YteoclpjbeadkpaaGreatDoor
open Go.RowKit Go.Shelf Go.Maps

theorem short_len {l : List Td} {n : Nat} (h : shortL l n = true) : l.length ≤ n := by
  unfold shortL at h
  rw [Bool.and_eq_true, decide_eq_true_eq] at h
  exact h.1
theorem short_roots {l : List Td} {n : Nat} (h : shortL l n = true) : ∀ t ∈ l, t.root.length ≤ 100 := by
  unfold shortL at h
  rw [Bool.and_eq_true, List.all_eq_true] at h
  intro t ht
  simpa using h.2 t ht
theorem HasTds.at {w : World} {a : Option Addr} {n c : Nat} {l : List Td} (h : HasTds w (.slice a n c) l) {k : Nat} (hk : k < l.length) : ∃ vb off, a = some ⟨vb, off, none⟩ ∧ vb < w.heap.size ∧ TdAt w vb (off + k * 4) l[k] := by
  rcases h with ⟨rfl, _⟩ | ⟨_, b, off, c, e, hlt, hc⟩
  · simp at hk
  · cases e; exact ⟨b, off, rfl, hlt, hc k hk⟩
theorem prOk_few {p : Pf.Pr} (h : Pf.fewL p = true) (hi : PrIn p) : PrOk p := by
  obtain ⟨h1, h2, h3, h4, h5⟩ := (Pf.few_iff p).1 h
  refine ⟨⟨by omega, by omega, by omega, by omega⟩, fun s hs => ?_, by omega, hi.1, hi.2.1, hi.2.2.1, hi.2.2.2.1⟩
  have := h5 s hs
  omega
theorem FMapAt.mono {w : World} {m n n' : Nat} {fs : List Td} (h : FMapAt w m n fs) (hn : n ≤ n') : FMapAt w m n' fs := by
  obtain ⟨D, h1, h2⟩ := h
  exact ⟨D, h1.mono hn, h2⟩
theorem prMax {p : Pf.Pr} (h : PrIn p) : ItMax p.item ∧ ∀ t ∈ p.path, t.length ≤ 9223372036854775807 := by
  obtain ⟨_, _, _, _, _, h5, h6⟩ := h
  refine ⟨h5, fun t ht => ?_⟩
  obtain ⟨j, hj, rfl⟩ := List.mem_iff_getElem.1 ht
  have := h6.2 j hj
  rwa [List.getD_eq_getElem?_getD, List.getElem?_eq_getElem hj] at this
def PbS (w : World) (bp rb rm fm : Nat) (pc : Obj) (k : Nat) (fs : List Td) (wr : World) : Prop := Below w.heap.size w wr ∧ wr.heap[bp]? = some pc ∧ ReaderAt wr rb rm k offKey (knows fs) ∧ FMapAt wr fm k fs

set_option maxHeartbeats 32000000 in
set_option maxRecDepth 100000 in
theorem publishedLaw_any (l : List Td) (v : Value) (p : Pf.Pr) (pv : Value) (day : Int) (w : World) (ht : Tab w) (hv : HasTds w v l) (hl : l.length ≤ 140737488355328) (hin : ∀ t ∈ l, TdIn t ∧ t.root.length ≤ 140737488355328) (hp : HasStrsC w pv p.path) (hpi : PrIn p) (hd0 : -9223372036854775808 ≤ day) (hd1 : day ≤ 9223372036854775807) :
    Calls Tryz.prog 6 #[v, prV p pv, .int .i64 day] w fun e w' => e = .returned (.bool true) ∧ Below w.heap.size w w' := by
  have hmm := @run_makeMap Tryz.prog
  obtain ⟨sb, hsb⟩ : ∃ sb, Hid (shortL l 10 = sb) := ⟨_, rfl⟩
  obtain ⟨fb, hfb⟩ : ∃ fb, Hid (Pf.fewL p = fb) := ⟨_, rfl⟩
  obtain ⟨sig0, hsig0⟩ : ∃ sig, Hid (sgL false 0 0 [] = sig) := ⟨_, rfl⟩
  have hpm : ItMax p.item ∧ ∀ t ∈ p.path, t.length ≤ 9223372036854775807 := prMax hpi
  obtain ⟨a, c, rfl⟩ := hv.shape
  obtain ⟨pa, pc, rfl⟩ : ∃ pa pc, pv = .slice pa p.path.length pc := by obtain ⟨_, pa, pc, e, _⟩ := hp; exact ⟨pa, pc, e⟩
  simp only [prV]
  have Hv := Lib.hid hv
  have Hin := Lib.hid hin
  have Hp := Lib.hid hp
  have Hpi := Lib.hid hpi
  have Hpm := Lib.hid hpm
  clear hv hin hp hpi hpm
  go_enter Tryz.func6, Tryz.ntmps6
  have bel := Below.refl w.heap.size w
  have Hbel := Lib.hid bel
  clear bel
  go_wp2_with fail
  have bel := Hbel.out
  clear Hbel
  obtain ⟨w1, hw⟩ : ∃ z, w.alloc (.cells #[.int .i64 p.count, .int .i64 p.index, .int .i64 p.item.kind, .string ⟨p.item.id.toArray⟩, .string ⟨p.item.parent.toArray⟩, .string ⟨p.item.number.toArray⟩, .string ⟨p.item.north.toArray⟩, .string ⟨p.item.south.toArray⟩, .bool p.item.gone, .slice pa p.path.length pc] 29) = z := ⟨_, rfl⟩
  have c : Below w.heap.size w w1 := by rw [← hw]; exact (Below.refl _ _).alloc (Nat.le_refl _) _
  have mp : w1.heap[w.heap.size]? = some (.cells #[.int .i64 p.count, .int .i64 p.index, .int .i64 p.item.kind, .string ⟨p.item.id.toArray⟩, .string ⟨p.item.parent.toArray⟩, .string ⟨p.item.number.toArray⟩, .string ⟨p.item.north.toArray⟩, .string ⟨p.item.south.toArray⟩, .bool p.item.gone, .slice pa p.path.length pc] 29 (0, 0)) := by rw [← hw]; exact heap_alloc_at _ _
  rw [hw]
  clear hw
  replace bel := below_next bel c
  clear c
  obtain ⟨bp, hb⟩ : ∃ b, w.heap.size = b := ⟨_, rfl⟩
  rw [hb] at mp ⊢
  clear hb
  refine (head44_any _ (ht.below bel (Nat.le_refl _))).mono ?_
  rintro e w2 ⟨rfl, c⟩
  replace bel := below_next bel c
  replace mp := (c.block _ (Array.getElem?_eq_some_iff.1 mp).1).trans mp
  clear c
  have Hbel := Lib.hid bel
  have Hmp := Lib.hid mp
  clear bel mp
  go_wp2_with fail
  have bel := Hbel.out
  have mp := Hmp.out
  clear Hbel Hmp
  have htd := Hv.out.below bel (Nat.le_refl _)
  refine (short_any l 10 _ _ htd hl (by decide) (fun t h => (Hin.out t h).2) sb hsb).mono ?_
  rintro e w3 ⟨rfl, c⟩
  clear htd
  replace bel := below_next bel c
  replace mp := (c.block _ (Array.getElem?_eq_some_iff.1 mp).1).trans mp
  clear c
  cases sb
  · skip
    have Hbel := Lib.hid bel
    have Hmp := Lib.hid mp
    clear bel mp
    go_wp2_with fail
    have bel := Hbel.out
    have mp := Hmp.out
    clear Hbel Hmp
    go_ret
    exact ⟨rfl, bel⟩
  · skip
    have hl10 : l.length ≤ 10 := short_len hsb.out
    have Hr100 : Hid (∀ t ∈ l, t.root.length ≤ 100) := short_roots hsb.out
    have q_mp_0 := cell_of_heap (i := 0) mp
    have q_mp_1 := cell_of_heap (i := 1) mp
    have q_mp_2 := cell_of_heap (i := 2) mp
    have q_mp_3 := cell_of_heap (i := 3) mp
    have q_mp_4 := cell_of_heap (i := 4) mp
    have q_mp_5 := cell_of_heap (i := 5) mp
    have q_mp_6 := cell_of_heap (i := 6) mp
    have q_mp_7 := cell_of_heap (i := 7) mp
    have q_mp_8 := cell_of_heap (i := 8) mp
    have q_mp_9 := cell_of_heap (i := 9) mp
    have Hbel := Lib.hid bel
    have Hmp := Lib.hid mp
    clear bel mp
    go_wp2_with fail
    have bel := Hbel.out
    have mp := Hmp.out
    clear Hbel Hmp
    clear q_mp_0 q_mp_1 q_mp_2 q_mp_3 q_mp_4 q_mp_5 q_mp_6 q_mp_7 q_mp_8 q_mp_9
    refine (few44_any p _ _ (Hp.out.below bel (Nat.le_refl _)) Hpm.out.1 Hpm.out.2 fb hfb).mono ?_
    rintro e w4 ⟨rfl, c⟩
    replace bel := below_next bel c
    replace mp := (c.block _ (Array.getElem?_eq_some_iff.1 mp).1).trans mp
    clear c
    cases fb
    · skip
      have Hbel := Lib.hid bel
      have Hmp := Lib.hid mp
      clear bel mp
      go_wp2_with fail
      have bel := Hbel.out
      have mp := Hmp.out
      clear Hbel Hmp
      go_ret
      exact ⟨rfl, bel⟩
    · skip
      have hpo : PrOk p := prOk_few hfb.out Hpi.out
      have Hbel := Lib.hid bel
      have Hmp := Lib.hid mp
      clear bel mp
      go_wp2_with fail
      have bel := Hbel.out
      have mp := Hmp.out
      clear Hbel Hmp
      refine (sgn_any 0 0 [] false _ (ht.below bel (Nat.le_refl _)) (by decide) (by decide) (by decide) (by decide) (by decide) sig0 hsig0).mono ?_
      rintro e w5 ⟨za, zc, zp, zq, rfl, sz, c⟩
      replace bel := below_next bel c
      replace mp := (c.block _ (Array.getElem?_eq_some_iff.1 mp).1).trans mp
      clear c
      clear sz
      have Hbel := Lib.hid bel
      have Hmp := Lib.hid mp
      clear bel mp
      go_wp2_with fail
      have bel := Hbel.out
      have mp := Hmp.out
      clear Hbel Hmp
      obtain ⟨w6, hw⟩ : ∃ z, w5.alloc (.cells #[.int .i64 0, .slice za 18 zc, .slice zp 0 zq] 42) = z := ⟨_, rfl⟩
      have c : Below w5.heap.size w5 w6 := by rw [← hw]; exact (Below.refl _ _).alloc (Nat.le_refl _) _
      have mz : w6.heap[w5.heap.size]? = some (.cells #[.int .i64 0, .slice za 18 zc, .slice zp 0 zq] 42 (0, 0)) := by rw [← hw]; exact heap_alloc_at _ _
      rw [hw]
      clear hw
      replace bel := below_next bel c
      replace mp := (c.block _ (Array.getElem?_eq_some_iff.1 mp).1).trans mp
      clear c
      obtain ⟨bz, hb⟩ : ∃ b, w5.heap.size = b := ⟨_, rfl⟩
      rw [hb] at mz ⊢
      clear hb
      clear mz
      refine (newR_any offKey _).mono ?_
      rintro e w7 ⟨rfl, rd, c⟩
      obtain ⟨rb, hrb⟩ : ∃ r, w6.heap.size + 1 = r := ⟨_, rfl⟩
      obtain ⟨rm, hrm⟩ : ∃ r, w6.heap.size = r := ⟨_, rfl⟩
      have hrw : w.heap.size ≤ rm := by rw [← hrm]; exact bel.size
      rw [hrb, hrm] at rd
      rw [hrb]
      clear hrb hrm
      replace bel := below_next bel c
      replace mp := (c.block _ (Array.getElem?_eq_some_iff.1 mp).1).trans mp
      clear c
      have hrb : rb < w7.heap.size := (Array.getElem?_eq_some_iff.1 rd.1).1
      have hrm : rm < rb := rd.2.2.2
      have Hbel := Lib.hid bel
      have Hmp := Lib.hid mp
      have Hrd := Lib.hid rd
      clear bel mp rd
      go_wp2_with fail
      have bel := Hbel.out
      have mp := Hmp.out
      have rd := Hrd.out
      clear Hbel Hmp Hrd
      obtain ⟨w8, hw⟩ : ∃ z, w7.alloc (.map #[] 0) = z := ⟨_, rfl⟩
      have c : Below w7.heap.size w7 w8 := by rw [← hw]; exact (Below.refl _ _).alloc (Nat.le_refl _) _
      have fm : FMapAt w8 w7.heap.size 0 [] := by rw [← hw]; exact fmap_new _
      rw [hw]
      clear hw
      have hfw : w.heap.size ≤ w7.heap.size := bel.size
      replace bel := below_next bel c
      replace mp := (c.block _ (Array.getElem?_eq_some_iff.1 mp).1).trans mp
      replace rd := rd.below c
      clear c
      obtain ⟨fm1, hb⟩ : ∃ b, w7.heap.size = b := ⟨_, rfl⟩
      rw [hb] at fm hrb hfw ⊢
      clear hb
      go_loopw [12] (fun i wr => ∃ (k : Nat) (fs : List Td), k ≤ l.length ∧ i = .int .i64 (k : Int) ∧ PbS w bp rb rm fm1 (.cells #[.int .i64 p.count, .int .i64 p.index, .int .i64 p.item.kind, .string ⟨p.item.id.toArray⟩, .string ⟨p.item.parent.toArray⟩, .string ⟨p.item.number.toArray⟩, .string ⟨p.item.north.toArray⟩, .string ⟨p.item.south.toArray⟩, .bool p.item.gone, .slice pa p.path.length pc] 29 (0, 0)) k fs wr) (fun i _ => l.length - (intOf i).toNat)
      case atStart => exact ⟨0, [], by omega, rfl, bel, mp, rd, fm⟩
      case round =>
        clear bel mp rd fm
        obtain ⟨k, fs, hk, rfl, bel, mp, rd, fm⟩ := hrel
        by_cases hkl : k < l.length
        · skip
          obtain ⟨vb, off, rfl, hvb, htd⟩ := Hv.out.at hkl
          obtain ⟨⟨i0, i1, i2, i3⟩, _⟩ := Hin.out _ (List.getElem_mem hkl)
          have h100 := Hr100.out _ (List.getElem_mem hkl)
          replace htd := htd.below bel hvb
          obtain ⟨⟨day', cnt, root, wrong⟩, ht0⟩ : ∃ t, l[k] = t := ⟨_, rfl⟩
          rw [ht0] at htd i0 i1 i2 i3 h100
          clear ht0
          simp only at i0 i1 i2 i3 h100
          obtain ⟨f0, f1, f2, f3⟩ := htd
          simp only at f0 f1 f2 f3
          have hkz : (0 : Int) ≤ (k : Int) := by omega
          have Hbel := Lib.hid bel
          have Hmp := Lib.hid mp
          have Hrd := Lib.hid rd
          have Hfm := Lib.hid fm
          clear bel mp rd fm
          go_wp2_with fail
          have bel := Hbel.out
          have mp := Hmp.out
          have rd := Hrd.out
          have fm := Hfm.out
          clear Hbel Hmp Hrd Hfm
          clear f0 f1 f2 f3
          obtain ⟨w9, hw⟩ : ∃ z, wr.alloc (.cells #[.int .i64 day', .int .i64 cnt, .string ⟨root.toArray⟩, .bool wrong] 46) = z := ⟨_, rfl⟩
          have c : Below wr.heap.size wr w9 := by rw [← hw]; exact (Below.refl _ _).alloc (Nat.le_refl _) _
          have mt : w9.heap[wr.heap.size]? = some (.cells #[.int .i64 day', .int .i64 cnt, .string ⟨root.toArray⟩, .bool wrong] 46 (0, 0)) := by rw [← hw]; exact heap_alloc_at _ _
          rw [hw]
          clear hw
          replace bel := below_next bel c
          replace mp := (c.block _ (Array.getElem?_eq_some_iff.1 mp).1).trans mp
          replace rd := rd.below c
          replace fm := fm.below c
          clear c
          obtain ⟨bt, hb⟩ : ∃ b, wr.heap.size = b := ⟨_, rfl⟩
          rw [hb] at mt ⊢
          clear hb
          obtain ⟨sig, hsig⟩ : ∃ sig, Hid (sgL wrong day' cnt root = sig) := ⟨_, rfl⟩
          have q_mt_0 := cell_of_heap (i := 0) mt
          have q_mt_1 := cell_of_heap (i := 1) mt
          have q_mt_2 := cell_of_heap (i := 2) mt
          have q_mt_3 := cell_of_heap (i := 3) mt
          have Hbel := Lib.hid bel
          have Hmp := Lib.hid mp
          have Hrd := Lib.hid rd
          have Hfm := Lib.hid fm
          have Hmt := Lib.hid mt
          clear bel mp rd fm mt
          go_wp2_with fail
          have bel := Hbel.out
          have mp := Hmp.out
          have rd := Hrd.out
          have fm := Hfm.out
          have mt := Hmt.out
          clear Hbel Hmp Hrd Hfm Hmt
          clear q_mt_0 q_mt_1 q_mt_2 q_mt_3
          refine (sgn_any day' cnt root wrong _ (ht.below bel (Nat.le_refl _)) i0 i1 i2 i3 h100 sig hsig).mono ?_
          rintro e w10 ⟨sa, sc, sp, sq, rfl, sg, c⟩
          replace bel := below_next bel c
          replace mp := (c.block _ (Array.getElem?_eq_some_iff.1 mp).1).trans mp
          replace rd := rd.below c
          replace fm := fm.below c
          replace mt := (c.block _ (Array.getElem?_eq_some_iff.1 mt).1).trans mt
          clear c
          have q_mt_0 := cell_of_heap (i := 0) ((heap_alloc_lt w10 (.cells #[.int .i64 0, .slice sa 18 sc, .slice sp 0 sq] 42) _ (Array.getElem?_eq_some_iff.1 mt).1).trans mt)
          have q_mt_1 := cell_of_heap (i := 1) ((heap_alloc_lt w10 (.cells #[.int .i64 0, .slice sa 18 sc, .slice sp 0 sq] 42) _ (Array.getElem?_eq_some_iff.1 mt).1).trans mt)
          have q_mt_2 := cell_of_heap (i := 2) ((heap_alloc_lt w10 (.cells #[.int .i64 0, .slice sa 18 sc, .slice sp 0 sq] 42) _ (Array.getElem?_eq_some_iff.1 mt).1).trans mt)
          have Hbel := Lib.hid bel
          have Hmp := Lib.hid mp
          have Hrd := Lib.hid rd
          have Hfm := Lib.hid fm
          have Hmt := Lib.hid mt
          have Hsg := Lib.hid sg
          clear bel mp rd fm mt sg
          go_wp2_with fail
          have bel := Hbel.out
          have mp := Hmp.out
          have rd := Hrd.out
          have fm := Hfm.out
          have mt := Hmt.out
          have sg := Hsg.out
          clear Hbel Hmp Hrd Hfm Hmt Hsg
          clear q_mt_0 q_mt_1 q_mt_2
          obtain ⟨w11, hw⟩ : ∃ z, w10.alloc (.cells #[.int .i64 0, .slice sa 18 sc, .slice sp 0 sq] 42) = z := ⟨_, rfl⟩
          have c : Below w10.heap.size w10 w11 := by rw [← hw]; exact (Below.refl _ _).alloc (Nat.le_refl _) _
          have ms : w11.heap[w10.heap.size]? = some (.cells #[.int .i64 0, .slice sa 18 sc, .slice sp 0 sq] 42 (0, 0)) := by rw [← hw]; exact heap_alloc_at _ _
          rw [hw]
          clear hw
          replace bel := below_next bel c
          replace mp := (c.block _ (Array.getElem?_eq_some_iff.1 mp).1).trans mp
          replace rd := rd.below c
          replace fm := fm.below c
          replace mt := (c.block _ (Array.getElem?_eq_some_iff.1 mt).1).trans mt
          replace sg := sg.below c (Nat.le_refl _)
          clear c
          obtain ⟨bs, hb⟩ : ∃ b, w10.heap.size = b := ⟨_, rfl⟩
          rw [hb] at ms ⊢
          clear hb
          obtain ⟨⟨es, er⟩, hlr⟩ : ∃ r, Hid (Pf.learnL offKey (knows fs) day' cnt root sig = r) := ⟨_, rfl⟩
          obtain ⟨⟨es0, er0⟩, hlr0⟩ : ∃ r, Hid (Pf.learnL offKey [] day' cnt root sig = r) := ⟨_, rfl⟩
          have mm := rd.2.1
          refine (learn_any offKey root day' cnt sig _ rb rm k (knows fs) _ (ht.below bel (Nat.le_refl _)) rd ⟨sa, sc, sp, sq, rfl, sg⟩ (by rw [← hsig.out]; exact sigOk _ _) i0 i1 i2 i3 (by omega) (by omega) (es, er) hlr).mono ?_
          rintro e w12 ⟨rfl, rd2, g⟩
          replace bel := bel.grown g bel.size (fun k e => by injection e with e; omega)
          replace mp := map_heap mm g mp
          replace fm := fm.kept g (by intro e; injection e with e; omega)
          replace mt := map_heap mm g mt
          replace sg := sg.grown mm g
          replace ms := map_heap mm g ms
          clear g mm
          clear rd
          have rd := rd2
          clear rd2
          have look := fmap_look fm day' i0 i1
          have hsok := sigOk' hsig
          rcases learn_next (t := ⟨day', cnt, root, wrong⟩) hlr.out hlr0.out with ⟨rfl, rfl | rfl, rfl⟩ | ⟨x, hf, hx1, hx2, rfl, rfl, rfl⟩ | ⟨x, hf, hx1, rfl, rfl, rfl⟩ | ⟨hf, rfl, rfl, rfl⟩
          · skip
            obtain ⟨⟨xd, xc, xr, xw⟩, hwx⟩ : ∃ x, Hid ((fstL fs day').getD zeroTd = x) := ⟨_, rfl⟩
            obtain ⟨okb, hok⟩ : ∃ x, Hid ((fstL fs day').isSome = x) := ⟨_, rfl⟩
            rw [hwx.out, hok.out] at look
            simp only [tdV] at look
            have q_mt_0 := cell_of_heap (i := 0) mt
            have Hbel := Lib.hid bel
            have Hmp := Lib.hid mp
            have Hrd := Lib.hid rd
            have Hfm := Lib.hid fm
            have Hmt := Lib.hid mt
            have Hsg := Lib.hid sg
            have Hms := Lib.hid ms
            clear bel mp rd fm mt sg ms
            go_wp2_with fail
            have bel := Hbel.out
            have mp := Hmp.out
            have rd := Hrd.out
            have fm := Hfm.out
            have mt := Hmt.out
            have sg := Hsg.out
            have ms := Hms.out
            clear Hbel Hmp Hrd Hfm Hmt Hsg Hms
            clear q_mt_0
            clear look
            obtain ⟨w13, hw⟩ : ∃ z, w12.alloc (.cells #[.int .i64 xd, .int .i64 xc, .string ⟨xr.toArray⟩, .bool xw] 46) = z := ⟨_, rfl⟩
            have c : Below w12.heap.size w12 w13 := by rw [← hw]; exact (Below.refl _ _).alloc (Nat.le_refl _) _
            have mw : w13.heap[w12.heap.size]? = some (.cells #[.int .i64 xd, .int .i64 xc, .string ⟨xr.toArray⟩, .bool xw] 46 (0, 0)) := by rw [← hw]; exact heap_alloc_at _ _
            rw [hw]
            clear hw
            replace bel := below_next bel c
            replace mp := (c.block _ (Array.getElem?_eq_some_iff.1 mp).1).trans mp
            replace rd := rd.below c
            replace fm := fm.below c
            replace mt := (c.block _ (Array.getElem?_eq_some_iff.1 mt).1).trans mt
            replace sg := sg.below c (Nat.le_refl _)
            replace ms := (c.block _ (Array.getElem?_eq_some_iff.1 ms).1).trans ms
            clear c
            obtain ⟨bw, hb⟩ : ∃ b, w12.heap.size = b := ⟨_, rfl⟩
            rw [hb] at mw ⊢
            clear hb
            have Hbel := Lib.hid bel
            have Hmp := Lib.hid mp
            have Hrd := Lib.hid rd
            have Hfm := Lib.hid fm
            have Hmt := Lib.hid mt
            have Hsg := Lib.hid sg
            have Hms := Lib.hid ms
            have Hmw := Lib.hid mw
            clear bel mp rd fm mt sg ms mw
            go_wp2_with fail
            have bel := Hbel.out
            have mp := Hmp.out
            have rd := Hrd.out
            have fm := Hfm.out
            have mt := Hmt.out
            have sg := Hsg.out
            have ms := Hms.out
            have mw := Hmw.out
            clear Hbel Hmp Hrd Hfm Hmt Hsg Hms Hmw
            have SB : Hid (∀ Y, Below w13.heap.size w13 Y → (fun Y => Y.cell? ⟨bt, 0, none⟩ = some (.int .i64 day') ∧ Y.cell? ⟨bt, 1, none⟩ = some (.int .i64 cnt) ∧ Y.cell? ⟨bt, 2, none⟩ = some (.string ⟨root.toArray⟩) ∧ Y.cell? ⟨bs, 0, none⟩ = some (.int .i64 0) ∧ Y.cell? ⟨bs, 1, none⟩ = some (.slice sa 18 sc) ∧ Y.cell? ⟨bs, 2, none⟩ = some (.slice sp 0 sq) ∧ Below w13.heap.size w13 Y) Y) := by
              intro Y hb
              have lt := (Array.getElem?_eq_some_iff.1 mt).1
              have ls := (Array.getElem?_eq_some_iff.1 ms).1
              exact ⟨(hb.cell (p := ⟨bt, 0, none⟩) lt).trans (cell_of_heap mt), (hb.cell (p := ⟨bt, 1, none⟩) lt).trans (cell_of_heap mt), (hb.cell (p := ⟨bt, 2, none⟩) lt).trans (cell_of_heap mt), (hb.cell (p := ⟨bs, 0, none⟩) ls).trans (cell_of_heap ms), (hb.cell (p := ⟨bs, 1, none⟩) ls).trans (cell_of_heap ms), (hb.cell (p := ⟨bs, 2, none⟩) ls).trans (cell_of_heap ms), hb⟩
            have CN : Hid (∀ A, Below w13.heap.size w13 A → Calls Tryz.prog 22 #[.string ⟨offKey.toArray⟩] A fun e w' => ∃ rb2 rm2, e = .returned (.pointer (some ⟨rb2, 0, none⟩)) ∧ w13.heap.size ≤ rm2 ∧ ReaderAt w' rb2 rm2 0 offKey [] ∧ Below w13.heap.size w13 w') := fun A hA => (newR_any offKey A).mono fun e w' ⟨h1, h2, h3⟩ => ⟨_, _, h1, hA.size, h2, below_next hA h3⟩
            have CL : Hid (∀ A rb2 rm2, Below w13.heap.size w13 A → w13.heap.size ≤ rm2 → ReaderAt A rb2 rm2 0 offKey [] → Calls Tryz.prog 24 #[.pointer (some ⟨rb2, 0, none⟩), .int .i64 day', .int .i64 cnt, .string ⟨root.toArray⟩, .agg #[.int .i64 0, .slice sa 18 sc, .slice sp 0 sq]] A fun e w' => e = .returned (.int .i64 1) ∧ Below w13.heap.size w13 w') := fun A rb2 rm2 hA hge hrd => (learn_any offKey root day' cnt sig _ rb2 rm2 0 [] _ (ht.below (below_next bel hA) (Nat.le_refl _)) hrd ⟨sa, sc, sp, sq, rfl, sg.below hA (Nat.le_refl _)⟩ hsok i0 i1 i2 i3 (by omega) (by decide) (es0, 1) hlr0).mono fun e w' ⟨h1, _, h3⟩ => ⟨h1, hA.grown h3 hA.size (fun k e => by injection e with e; omega)⟩
            have hS0 := SB.out _ (Below.refl _ _)
            have hS1 := SB.out _ (Below.refl w13.heap.size w13).drew
            try simp only at hS0 hS1
            have Hbel := Lib.hid bel
            have Hmp := Lib.hid mp
            have Hrd := Lib.hid rd
            have Hfm := Lib.hid fm
            have Hmt := Lib.hid mt
            have Hsg := Lib.hid sg
            have Hms := Lib.hid ms
            have Hmw := Lib.hid mw
            clear bel mp rd fm mt sg ms mw
            go_region_held3 (fun Y => Y.cell? ⟨bt, 0, none⟩ = some (.int .i64 day') ∧ Y.cell? ⟨bt, 1, none⟩ = some (.int .i64 cnt) ∧ Y.cell? ⟨bt, 2, none⟩ = some (.string ⟨root.toArray⟩) ∧ Y.cell? ⟨bs, 0, none⟩ = some (.int .i64 0) ∧ Y.cell? ⟨bs, 1, none⟩ = some (.slice sa 18 sc) ∧ Y.cell? ⟨bs, 2, none⟩ = some (.slice sp 0 sq) ∧ Below w13.heap.size w13 Y) (first | exact hS0 | exact hS1 | assumption) (first | (go_at_call 22; (with_reducible refine (CN.out _ (And.right (And.right (And.right (And.right (And.right (And.right (by assumption)))))))).mono ?_); rintro e z1 ⟨rb2, rm2, rfl, hge, hrd, c1⟩; have hSa := SB.out _ c1; try simp only at hSa) | (go_at_call 24; (with_reducible refine (CL.out _ _ _ (And.right (And.right (And.right (And.right (And.right (And.right (by assumption))))))) hge hrd).mono ?_); rintro e z2 ⟨rfl, c2⟩; have hSb := SB.out _ c2; try simp only at hSb))
            have bel := Hbel.out
            have mp := Hmp.out
            have rd := Hrd.out
            have fm := Hfm.out
            have mt := Hmt.out
            have sg := Hsg.out
            have ms := Hms.out
            have mw := Hmw.out
            clear Hbel Hmp Hrd Hfm Hmt Hsg Hms Hmw
            obtain ⟨_, _, _, _, _, _, c⟩ := hSb
            replace bel := below_next bel c
            replace mp := (c.block _ (Array.getElem?_eq_some_iff.1 mp).1).trans mp
            replace rd := rd.below c
            replace fm := fm.below c
            replace mt := (c.block _ (Array.getElem?_eq_some_iff.1 mt).1).trans mt
            replace sg := sg.below c (Nat.le_refl _)
            replace ms := (c.block _ (Array.getElem?_eq_some_iff.1 ms).1).trans ms
            replace mw := (c.block _ (Array.getElem?_eq_some_iff.1 mw).1).trans mw
            clear c
            clear hS0 hS1 hSa hge hrd c1
            have q_mt_0 := cell_of_heap (i := 0) mt
            have q_mt_1 := cell_of_heap (i := 1) mt
            have q_mt_2 := cell_of_heap (i := 2) mt
            have q_mt_3 := cell_of_heap (i := 3) mt
            have q_mw_0 := cell_of_heap (i := 0) mw
            have q_mw_1 := cell_of_heap (i := 1) mw
            have q_mw_2 := cell_of_heap (i := 2) mw
            have Hbel := Lib.hid bel
            have Hmp := Lib.hid mp
            have Hrd := Lib.hid rd
            have Hfm := Lib.hid fm
            have Hmt := Lib.hid mt
            have Hsg := Lib.hid sg
            have Hms := Lib.hid ms
            have Hmw := Lib.hid mw
            clear bel mp rd fm mt sg ms mw
            go_wp2_with fail
            have bel := Hbel.out
            have mp := Hmp.out
            have rd := Hrd.out
            have fm := Hfm.out
            have mt := Hmt.out
            have sg := Hsg.out
            have ms := Hms.out
            have mw := Hmw.out
            clear Hbel Hmp Hrd Hfm Hmt Hsg Hms Hmw
            clear q_mt_0 q_mt_1 q_mt_2 q_mt_3 q_mw_0 q_mw_1 q_mw_2
            go_roundw
            case rel => exact ⟨k + 1, fs, by omega, by go_num, bel, mp, rd, fm.mono (by omega)⟩
            case measure => simp [intOf]; omega
          · skip
            obtain ⟨⟨xd, xc, xr, xw⟩, hwx⟩ : ∃ x, Hid ((fstL fs day').getD zeroTd = x) := ⟨_, rfl⟩
            obtain ⟨okb, hok⟩ : ∃ x, Hid ((fstL fs day').isSome = x) := ⟨_, rfl⟩
            rw [hwx.out, hok.out] at look
            simp only [tdV] at look
            have q_mt_0 := cell_of_heap (i := 0) mt
            have Hbel := Lib.hid bel
            have Hmp := Lib.hid mp
            have Hrd := Lib.hid rd
            have Hfm := Lib.hid fm
            have Hmt := Lib.hid mt
            have Hsg := Lib.hid sg
            have Hms := Lib.hid ms
            clear bel mp rd fm mt sg ms
            go_wp2_with fail
            have bel := Hbel.out
            have mp := Hmp.out
            have rd := Hrd.out
            have fm := Hfm.out
            have mt := Hmt.out
            have sg := Hsg.out
            have ms := Hms.out
            clear Hbel Hmp Hrd Hfm Hmt Hsg Hms
            clear q_mt_0
            clear look
            obtain ⟨w13, hw⟩ : ∃ z, w12.alloc (.cells #[.int .i64 xd, .int .i64 xc, .string ⟨xr.toArray⟩, .bool xw] 46) = z := ⟨_, rfl⟩
            have c : Below w12.heap.size w12 w13 := by rw [← hw]; exact (Below.refl _ _).alloc (Nat.le_refl _) _
            have mw : w13.heap[w12.heap.size]? = some (.cells #[.int .i64 xd, .int .i64 xc, .string ⟨xr.toArray⟩, .bool xw] 46 (0, 0)) := by rw [← hw]; exact heap_alloc_at _ _
            rw [hw]
            clear hw
            replace bel := below_next bel c
            replace mp := (c.block _ (Array.getElem?_eq_some_iff.1 mp).1).trans mp
            replace rd := rd.below c
            replace fm := fm.below c
            replace mt := (c.block _ (Array.getElem?_eq_some_iff.1 mt).1).trans mt
            replace sg := sg.below c (Nat.le_refl _)
            replace ms := (c.block _ (Array.getElem?_eq_some_iff.1 ms).1).trans ms
            clear c
            obtain ⟨bw, hb⟩ : ∃ b, w12.heap.size = b := ⟨_, rfl⟩
            rw [hb] at mw ⊢
            clear hb
            have Hbel := Lib.hid bel
            have Hmp := Lib.hid mp
            have Hrd := Lib.hid rd
            have Hfm := Lib.hid fm
            have Hmt := Lib.hid mt
            have Hsg := Lib.hid sg
            have Hms := Lib.hid ms
            have Hmw := Lib.hid mw
            clear bel mp rd fm mt sg ms mw
            go_wp2_with fail
            have bel := Hbel.out
            have mp := Hmp.out
            have rd := Hrd.out
            have fm := Hfm.out
            have mt := Hmt.out
            have sg := Hsg.out
            have ms := Hms.out
            have mw := Hmw.out
            clear Hbel Hmp Hrd Hfm Hmt Hsg Hms Hmw
            have SB : Hid (∀ Y, Below w13.heap.size w13 Y → (fun Y => Y.cell? ⟨bt, 0, none⟩ = some (.int .i64 day') ∧ Y.cell? ⟨bt, 1, none⟩ = some (.int .i64 cnt) ∧ Y.cell? ⟨bt, 2, none⟩ = some (.string ⟨root.toArray⟩) ∧ Y.cell? ⟨bs, 0, none⟩ = some (.int .i64 0) ∧ Y.cell? ⟨bs, 1, none⟩ = some (.slice sa 18 sc) ∧ Y.cell? ⟨bs, 2, none⟩ = some (.slice sp 0 sq) ∧ Below w13.heap.size w13 Y) Y) := by
              intro Y hb
              have lt := (Array.getElem?_eq_some_iff.1 mt).1
              have ls := (Array.getElem?_eq_some_iff.1 ms).1
              exact ⟨(hb.cell (p := ⟨bt, 0, none⟩) lt).trans (cell_of_heap mt), (hb.cell (p := ⟨bt, 1, none⟩) lt).trans (cell_of_heap mt), (hb.cell (p := ⟨bt, 2, none⟩) lt).trans (cell_of_heap mt), (hb.cell (p := ⟨bs, 0, none⟩) ls).trans (cell_of_heap ms), (hb.cell (p := ⟨bs, 1, none⟩) ls).trans (cell_of_heap ms), (hb.cell (p := ⟨bs, 2, none⟩) ls).trans (cell_of_heap ms), hb⟩
            have CN : Hid (∀ A, Below w13.heap.size w13 A → Calls Tryz.prog 22 #[.string ⟨offKey.toArray⟩] A fun e w' => ∃ rb2 rm2, e = .returned (.pointer (some ⟨rb2, 0, none⟩)) ∧ w13.heap.size ≤ rm2 ∧ ReaderAt w' rb2 rm2 0 offKey [] ∧ Below w13.heap.size w13 w') := fun A hA => (newR_any offKey A).mono fun e w' ⟨h1, h2, h3⟩ => ⟨_, _, h1, hA.size, h2, below_next hA h3⟩
            have CL : Hid (∀ A rb2 rm2, Below w13.heap.size w13 A → w13.heap.size ≤ rm2 → ReaderAt A rb2 rm2 0 offKey [] → Calls Tryz.prog 24 #[.pointer (some ⟨rb2, 0, none⟩), .int .i64 day', .int .i64 cnt, .string ⟨root.toArray⟩, .agg #[.int .i64 0, .slice sa 18 sc, .slice sp 0 sq]] A fun e w' => e = .returned (.int .i64 19) ∧ Below w13.heap.size w13 w') := fun A rb2 rm2 hA hge hrd => (learn_any offKey root day' cnt sig _ rb2 rm2 0 [] _ (ht.below (below_next bel hA) (Nat.le_refl _)) hrd ⟨sa, sc, sp, sq, rfl, sg.below hA (Nat.le_refl _)⟩ hsok i0 i1 i2 i3 (by omega) (by decide) (es0, 19) hlr0).mono fun e w' ⟨h1, _, h3⟩ => ⟨h1, hA.grown h3 hA.size (fun k e => by injection e with e; omega)⟩
            have hS0 := SB.out _ (Below.refl _ _)
            have hS1 := SB.out _ (Below.refl w13.heap.size w13).drew
            try simp only at hS0 hS1
            have Hbel := Lib.hid bel
            have Hmp := Lib.hid mp
            have Hrd := Lib.hid rd
            have Hfm := Lib.hid fm
            have Hmt := Lib.hid mt
            have Hsg := Lib.hid sg
            have Hms := Lib.hid ms
            have Hmw := Lib.hid mw
            clear bel mp rd fm mt sg ms mw
            go_region_held3 (fun Y => Y.cell? ⟨bt, 0, none⟩ = some (.int .i64 day') ∧ Y.cell? ⟨bt, 1, none⟩ = some (.int .i64 cnt) ∧ Y.cell? ⟨bt, 2, none⟩ = some (.string ⟨root.toArray⟩) ∧ Y.cell? ⟨bs, 0, none⟩ = some (.int .i64 0) ∧ Y.cell? ⟨bs, 1, none⟩ = some (.slice sa 18 sc) ∧ Y.cell? ⟨bs, 2, none⟩ = some (.slice sp 0 sq) ∧ Below w13.heap.size w13 Y) (first | exact hS0 | exact hS1 | assumption) (first | (go_at_call 22; (with_reducible refine (CN.out _ (And.right (And.right (And.right (And.right (And.right (And.right (by assumption)))))))).mono ?_); rintro e z1 ⟨rb2, rm2, rfl, hge, hrd, c1⟩; have hSa := SB.out _ c1; try simp only at hSa) | (go_at_call 24; (with_reducible refine (CL.out _ _ _ (And.right (And.right (And.right (And.right (And.right (And.right (by assumption))))))) hge hrd).mono ?_); rintro e z2 ⟨rfl, c2⟩; have hSb := SB.out _ c2; try simp only at hSb))
            have bel := Hbel.out
            have mp := Hmp.out
            have rd := Hrd.out
            have fm := Hfm.out
            have mt := Hmt.out
            have sg := Hsg.out
            have ms := Hms.out
            have mw := Hmw.out
            clear Hbel Hmp Hrd Hfm Hmt Hsg Hms Hmw
            obtain ⟨_, _, _, _, _, _, c⟩ := hSb
            replace bel := below_next bel c
            replace mp := (c.block _ (Array.getElem?_eq_some_iff.1 mp).1).trans mp
            replace rd := rd.below c
            replace fm := fm.below c
            replace mt := (c.block _ (Array.getElem?_eq_some_iff.1 mt).1).trans mt
            replace sg := sg.below c (Nat.le_refl _)
            replace ms := (c.block _ (Array.getElem?_eq_some_iff.1 ms).1).trans ms
            replace mw := (c.block _ (Array.getElem?_eq_some_iff.1 mw).1).trans mw
            clear c
            clear hS0 hS1 hSa hge hrd c1
            have q_mt_0 := cell_of_heap (i := 0) mt
            have q_mt_1 := cell_of_heap (i := 1) mt
            have q_mt_2 := cell_of_heap (i := 2) mt
            have q_mt_3 := cell_of_heap (i := 3) mt
            have q_mw_0 := cell_of_heap (i := 0) mw
            have q_mw_1 := cell_of_heap (i := 1) mw
            have q_mw_2 := cell_of_heap (i := 2) mw
            have Hbel := Lib.hid bel
            have Hmp := Lib.hid mp
            have Hrd := Lib.hid rd
            have Hfm := Lib.hid fm
            have Hmt := Lib.hid mt
            have Hsg := Lib.hid sg
            have Hms := Lib.hid ms
            have Hmw := Lib.hid mw
            clear bel mp rd fm mt sg ms mw
            go_wp2_with fail
            have bel := Hbel.out
            have mp := Hmp.out
            have rd := Hrd.out
            have fm := Hfm.out
            have mt := Hmt.out
            have sg := Hsg.out
            have ms := Hms.out
            have mw := Hmw.out
            clear Hbel Hmp Hrd Hfm Hmt Hsg Hms Hmw
            clear q_mt_0 q_mt_1 q_mt_2 q_mt_3 q_mw_0 q_mw_1 q_mw_2
            go_roundw
            case rel => exact ⟨k + 1, fs, by omega, by go_num, bel, mp, rd, fm.mono (by omega)⟩
            case measure => simp [intOf]; omega
          · skip
            simp only at hf
            obtain ⟨xd, xc, xr, xw⟩ := x
            simp only at hx1 hx2
            obtain rfl := hx1.symm
            obtain rfl := hx2.symm
            rw [hf] at look
            have Hf := Lib.hid hf
            clear hf
            simp only [Option.getD_some, Option.getD_none, Option.isSome_some, Option.isSome_none, tdV, zeroTd] at look
            have q_mt_0 := cell_of_heap (i := 0) mt
            have Hbel := Lib.hid bel
            have Hmp := Lib.hid mp
            have Hrd := Lib.hid rd
            have Hfm := Lib.hid fm
            have Hmt := Lib.hid mt
            have Hsg := Lib.hid sg
            have Hms := Lib.hid ms
            clear bel mp rd fm mt sg ms
            go_wp2_with fail
            have bel := Hbel.out
            have mp := Hmp.out
            have rd := Hrd.out
            have fm := Hfm.out
            have mt := Hmt.out
            have sg := Hsg.out
            have ms := Hms.out
            clear Hbel Hmp Hrd Hfm Hmt Hsg Hms
            clear q_mt_0
            clear look
            obtain ⟨w13, hw⟩ : ∃ z, w12.alloc (.cells #[.int .i64 xd, .int .i64 cnt, .string ⟨root.toArray⟩, .bool xw] 46) = z := ⟨_, rfl⟩
            have c : Below w12.heap.size w12 w13 := by rw [← hw]; exact (Below.refl _ _).alloc (Nat.le_refl _) _
            have mw : w13.heap[w12.heap.size]? = some (.cells #[.int .i64 xd, .int .i64 cnt, .string ⟨root.toArray⟩, .bool xw] 46 (0, 0)) := by rw [← hw]; exact heap_alloc_at _ _
            rw [hw]
            clear hw
            replace bel := below_next bel c
            replace mp := (c.block _ (Array.getElem?_eq_some_iff.1 mp).1).trans mp
            replace rd := rd.below c
            replace fm := fm.below c
            replace mt := (c.block _ (Array.getElem?_eq_some_iff.1 mt).1).trans mt
            replace sg := sg.below c (Nat.le_refl _)
            replace ms := (c.block _ (Array.getElem?_eq_some_iff.1 ms).1).trans ms
            clear c
            obtain ⟨bw, hb⟩ : ∃ b, w12.heap.size = b := ⟨_, rfl⟩
            rw [hb] at mw ⊢
            clear hb
            have Hbel := Lib.hid bel
            have Hmp := Lib.hid mp
            have Hrd := Lib.hid rd
            have Hfm := Lib.hid fm
            have Hmt := Lib.hid mt
            have Hsg := Lib.hid sg
            have Hms := Lib.hid ms
            have Hmw := Lib.hid mw
            clear bel mp rd fm mt sg ms mw
            go_wp2_with fail
            have bel := Hbel.out
            have mp := Hmp.out
            have rd := Hrd.out
            have fm := Hfm.out
            have mt := Hmt.out
            have sg := Hsg.out
            have ms := Hms.out
            have mw := Hmw.out
            clear Hbel Hmp Hrd Hfm Hmt Hsg Hms Hmw
            have SB : Hid (∀ Y, Below w13.heap.size w13 Y → (fun Y => Y.cell? ⟨bt, 0, none⟩ = some (.int .i64 day') ∧ Y.cell? ⟨bt, 1, none⟩ = some (.int .i64 cnt) ∧ Y.cell? ⟨bt, 2, none⟩ = some (.string ⟨root.toArray⟩) ∧ Y.cell? ⟨bs, 0, none⟩ = some (.int .i64 0) ∧ Y.cell? ⟨bs, 1, none⟩ = some (.slice sa 18 sc) ∧ Y.cell? ⟨bs, 2, none⟩ = some (.slice sp 0 sq) ∧ Below w13.heap.size w13 Y) Y) := by
              intro Y hb
              have lt := (Array.getElem?_eq_some_iff.1 mt).1
              have ls := (Array.getElem?_eq_some_iff.1 ms).1
              exact ⟨(hb.cell (p := ⟨bt, 0, none⟩) lt).trans (cell_of_heap mt), (hb.cell (p := ⟨bt, 1, none⟩) lt).trans (cell_of_heap mt), (hb.cell (p := ⟨bt, 2, none⟩) lt).trans (cell_of_heap mt), (hb.cell (p := ⟨bs, 0, none⟩) ls).trans (cell_of_heap ms), (hb.cell (p := ⟨bs, 1, none⟩) ls).trans (cell_of_heap ms), (hb.cell (p := ⟨bs, 2, none⟩) ls).trans (cell_of_heap ms), hb⟩
            have CN : Hid (∀ A, Below w13.heap.size w13 A → Calls Tryz.prog 22 #[.string ⟨offKey.toArray⟩] A fun e w' => ∃ rb2 rm2, e = .returned (.pointer (some ⟨rb2, 0, none⟩)) ∧ w13.heap.size ≤ rm2 ∧ ReaderAt w' rb2 rm2 0 offKey [] ∧ Below w13.heap.size w13 w') := fun A hA => (newR_any offKey A).mono fun e w' ⟨h1, h2, h3⟩ => ⟨_, _, h1, hA.size, h2, below_next hA h3⟩
            have CL : Hid (∀ A rb2 rm2, Below w13.heap.size w13 A → w13.heap.size ≤ rm2 → ReaderAt A rb2 rm2 0 offKey [] → Calls Tryz.prog 24 #[.pointer (some ⟨rb2, 0, none⟩), .int .i64 day', .int .i64 cnt, .string ⟨root.toArray⟩, .agg #[.int .i64 0, .slice sa 18 sc, .slice sp 0 sq]] A fun e w' => e = .returned (.int .i64 0) ∧ Below w13.heap.size w13 w') := fun A rb2 rm2 hA hge hrd => (learn_any offKey root day' cnt sig _ rb2 rm2 0 [] _ (ht.below (below_next bel hA) (Nat.le_refl _)) hrd ⟨sa, sc, sp, sq, rfl, sg.below hA (Nat.le_refl _)⟩ hsok i0 i1 i2 i3 (by omega) (by decide) (es0, 0) hlr0).mono fun e w' ⟨h1, _, h3⟩ => ⟨h1, hA.grown h3 hA.size (fun k e => by injection e with e; omega)⟩
            have hS0 := SB.out _ (Below.refl _ _)
            have hS1 := SB.out _ (Below.refl w13.heap.size w13).drew
            try simp only at hS0 hS1
            have Hbel := Lib.hid bel
            have Hmp := Lib.hid mp
            have Hrd := Lib.hid rd
            have Hfm := Lib.hid fm
            have Hmt := Lib.hid mt
            have Hsg := Lib.hid sg
            have Hms := Lib.hid ms
            have Hmw := Lib.hid mw
            clear bel mp rd fm mt sg ms mw
            go_region_held3 (fun Y => Y.cell? ⟨bt, 0, none⟩ = some (.int .i64 day') ∧ Y.cell? ⟨bt, 1, none⟩ = some (.int .i64 cnt) ∧ Y.cell? ⟨bt, 2, none⟩ = some (.string ⟨root.toArray⟩) ∧ Y.cell? ⟨bs, 0, none⟩ = some (.int .i64 0) ∧ Y.cell? ⟨bs, 1, none⟩ = some (.slice sa 18 sc) ∧ Y.cell? ⟨bs, 2, none⟩ = some (.slice sp 0 sq) ∧ Below w13.heap.size w13 Y) (first | exact hS0 | exact hS1 | assumption) (first | (go_at_call 22; (with_reducible refine (CN.out _ (And.right (And.right (And.right (And.right (And.right (And.right (by assumption)))))))).mono ?_); rintro e z1 ⟨rb2, rm2, rfl, hge, hrd, c1⟩; have hSa := SB.out _ c1; try simp only at hSa) | (go_at_call 24; (with_reducible refine (CL.out _ _ _ (And.right (And.right (And.right (And.right (And.right (And.right (by assumption))))))) hge hrd).mono ?_); rintro e z2 ⟨rfl, c2⟩; have hSb := SB.out _ c2; try simp only at hSb))
            have bel := Hbel.out
            have mp := Hmp.out
            have rd := Hrd.out
            have fm := Hfm.out
            have mt := Hmt.out
            have sg := Hsg.out
            have ms := Hms.out
            have mw := Hmw.out
            clear Hbel Hmp Hrd Hfm Hmt Hsg Hms Hmw
            obtain ⟨_, _, _, _, _, _, c⟩ := hSb
            replace bel := below_next bel c
            replace mp := (c.block _ (Array.getElem?_eq_some_iff.1 mp).1).trans mp
            replace rd := rd.below c
            replace fm := fm.below c
            replace mt := (c.block _ (Array.getElem?_eq_some_iff.1 mt).1).trans mt
            replace sg := sg.below c (Nat.le_refl _)
            replace ms := (c.block _ (Array.getElem?_eq_some_iff.1 ms).1).trans ms
            replace mw := (c.block _ (Array.getElem?_eq_some_iff.1 mw).1).trans mw
            clear c
            clear hS0 hS1 hSa hge hrd c1
            have q_mt_0 := cell_of_heap (i := 0) mt
            have q_mt_1 := cell_of_heap (i := 1) mt
            have q_mt_2 := cell_of_heap (i := 2) mt
            have q_mt_3 := cell_of_heap (i := 3) mt
            have q_mw_0 := cell_of_heap (i := 0) mw
            have q_mw_1 := cell_of_heap (i := 1) mw
            have q_mw_2 := cell_of_heap (i := 2) mw
            have Hbel := Lib.hid bel
            have Hmp := Lib.hid mp
            have Hrd := Lib.hid rd
            have Hfm := Lib.hid fm
            have Hmt := Lib.hid mt
            have Hsg := Lib.hid sg
            have Hms := Lib.hid ms
            have Hmw := Lib.hid mw
            clear bel mp rd fm mt sg ms mw
            go_wp2_with fail
            have bel := Hbel.out
            have mp := Hmp.out
            have rd := Hrd.out
            have fm := Hfm.out
            have mt := Hmt.out
            have sg := Hsg.out
            have ms := Hms.out
            have mw := Hmw.out
            clear Hbel Hmp Hrd Hfm Hmt Hsg Hms Hmw
            clear q_mt_0 q_mt_1 q_mt_2 q_mt_3 q_mw_0 q_mw_1 q_mw_2
            go_roundw
            case rel => exact ⟨k + 1, fs, by omega, by go_num, bel, mp, rd, fm.mono (by omega)⟩
            case measure => simp [intOf]; omega
          · skip
            simp only at hf
            obtain ⟨xd, xc, xr, xw⟩ := x
            simp only at hx1
            have Hx1 := Lib.hid hx1
            clear hx1
            rw [hf] at look
            have Hf := Lib.hid hf
            clear hf
            simp only [Option.getD_some, Option.getD_none, Option.isSome_some, Option.isSome_none, tdV, zeroTd] at look
            have q_mt_0 := cell_of_heap (i := 0) mt
            have Hbel := Lib.hid bel
            have Hmp := Lib.hid mp
            have Hrd := Lib.hid rd
            have Hfm := Lib.hid fm
            have Hmt := Lib.hid mt
            have Hsg := Lib.hid sg
            have Hms := Lib.hid ms
            clear bel mp rd fm mt sg ms
            go_wp2_with fail
            have bel := Hbel.out
            have mp := Hmp.out
            have rd := Hrd.out
            have fm := Hfm.out
            have mt := Hmt.out
            have sg := Hsg.out
            have ms := Hms.out
            clear Hbel Hmp Hrd Hfm Hmt Hsg Hms
            clear q_mt_0
            clear look
            obtain ⟨w13, hw⟩ : ∃ z, w12.alloc (.cells #[.int .i64 xd, .int .i64 xc, .string ⟨xr.toArray⟩, .bool xw] 46) = z := ⟨_, rfl⟩
            have c : Below w12.heap.size w12 w13 := by rw [← hw]; exact (Below.refl _ _).alloc (Nat.le_refl _) _
            have mw : w13.heap[w12.heap.size]? = some (.cells #[.int .i64 xd, .int .i64 xc, .string ⟨xr.toArray⟩, .bool xw] 46 (0, 0)) := by rw [← hw]; exact heap_alloc_at _ _
            rw [hw]
            clear hw
            replace bel := below_next bel c
            replace mp := (c.block _ (Array.getElem?_eq_some_iff.1 mp).1).trans mp
            replace rd := rd.below c
            replace fm := fm.below c
            replace mt := (c.block _ (Array.getElem?_eq_some_iff.1 mt).1).trans mt
            replace sg := sg.below c (Nat.le_refl _)
            replace ms := (c.block _ (Array.getElem?_eq_some_iff.1 ms).1).trans ms
            clear c
            obtain ⟨bw, hb⟩ : ∃ b, w12.heap.size = b := ⟨_, rfl⟩
            rw [hb] at mw ⊢
            clear hb
            have Hbel := Lib.hid bel
            have Hmp := Lib.hid mp
            have Hrd := Lib.hid rd
            have Hfm := Lib.hid fm
            have Hmt := Lib.hid mt
            have Hsg := Lib.hid sg
            have Hms := Lib.hid ms
            have Hmw := Lib.hid mw
            clear bel mp rd fm mt sg ms mw
            go_wp2_with fail
            have bel := Hbel.out
            have mp := Hmp.out
            have rd := Hrd.out
            have fm := Hfm.out
            have mt := Hmt.out
            have sg := Hsg.out
            have ms := Hms.out
            have mw := Hmw.out
            clear Hbel Hmp Hrd Hfm Hmt Hsg Hms Hmw
            have SB : Hid (∀ Y, Below w13.heap.size w13 Y → (fun Y => Y.cell? ⟨bt, 0, none⟩ = some (.int .i64 day') ∧ Y.cell? ⟨bt, 1, none⟩ = some (.int .i64 cnt) ∧ Y.cell? ⟨bt, 2, none⟩ = some (.string ⟨root.toArray⟩) ∧ Y.cell? ⟨bs, 0, none⟩ = some (.int .i64 0) ∧ Y.cell? ⟨bs, 1, none⟩ = some (.slice sa 18 sc) ∧ Y.cell? ⟨bs, 2, none⟩ = some (.slice sp 0 sq) ∧ Below w13.heap.size w13 Y) Y) := by
              intro Y hb
              have lt := (Array.getElem?_eq_some_iff.1 mt).1
              have ls := (Array.getElem?_eq_some_iff.1 ms).1
              exact ⟨(hb.cell (p := ⟨bt, 0, none⟩) lt).trans (cell_of_heap mt), (hb.cell (p := ⟨bt, 1, none⟩) lt).trans (cell_of_heap mt), (hb.cell (p := ⟨bt, 2, none⟩) lt).trans (cell_of_heap mt), (hb.cell (p := ⟨bs, 0, none⟩) ls).trans (cell_of_heap ms), (hb.cell (p := ⟨bs, 1, none⟩) ls).trans (cell_of_heap ms), (hb.cell (p := ⟨bs, 2, none⟩) ls).trans (cell_of_heap ms), hb⟩
            have CN : Hid (∀ A, Below w13.heap.size w13 A → Calls Tryz.prog 22 #[.string ⟨offKey.toArray⟩] A fun e w' => ∃ rb2 rm2, e = .returned (.pointer (some ⟨rb2, 0, none⟩)) ∧ w13.heap.size ≤ rm2 ∧ ReaderAt w' rb2 rm2 0 offKey [] ∧ Below w13.heap.size w13 w') := fun A hA => (newR_any offKey A).mono fun e w' ⟨h1, h2, h3⟩ => ⟨_, _, h1, hA.size, h2, below_next hA h3⟩
            have CL : Hid (∀ A rb2 rm2, Below w13.heap.size w13 A → w13.heap.size ≤ rm2 → ReaderAt A rb2 rm2 0 offKey [] → Calls Tryz.prog 24 #[.pointer (some ⟨rb2, 0, none⟩), .int .i64 day', .int .i64 cnt, .string ⟨root.toArray⟩, .agg #[.int .i64 0, .slice sa 18 sc, .slice sp 0 sq]] A fun e w' => e = .returned (.int .i64 0) ∧ Below w13.heap.size w13 w') := fun A rb2 rm2 hA hge hrd => (learn_any offKey root day' cnt sig _ rb2 rm2 0 [] _ (ht.below (below_next bel hA) (Nat.le_refl _)) hrd ⟨sa, sc, sp, sq, rfl, sg.below hA (Nat.le_refl _)⟩ hsok i0 i1 i2 i3 (by omega) (by decide) (es0, 0) hlr0).mono fun e w' ⟨h1, _, h3⟩ => ⟨h1, hA.grown h3 hA.size (fun k e => by injection e with e; omega)⟩
            have hS0 := SB.out _ (Below.refl _ _)
            have hS1 := SB.out _ (Below.refl w13.heap.size w13).drew
            try simp only at hS0 hS1
            have Hbel := Lib.hid bel
            have Hmp := Lib.hid mp
            have Hrd := Lib.hid rd
            have Hfm := Lib.hid fm
            have Hmt := Lib.hid mt
            have Hsg := Lib.hid sg
            have Hms := Lib.hid ms
            have Hmw := Lib.hid mw
            clear bel mp rd fm mt sg ms mw
            go_region_held3 (fun Y => Y.cell? ⟨bt, 0, none⟩ = some (.int .i64 day') ∧ Y.cell? ⟨bt, 1, none⟩ = some (.int .i64 cnt) ∧ Y.cell? ⟨bt, 2, none⟩ = some (.string ⟨root.toArray⟩) ∧ Y.cell? ⟨bs, 0, none⟩ = some (.int .i64 0) ∧ Y.cell? ⟨bs, 1, none⟩ = some (.slice sa 18 sc) ∧ Y.cell? ⟨bs, 2, none⟩ = some (.slice sp 0 sq) ∧ Below w13.heap.size w13 Y) (first | exact hS0 | exact hS1 | assumption) (first | (go_at_call 22; (with_reducible refine (CN.out _ (And.right (And.right (And.right (And.right (And.right (And.right (by assumption)))))))).mono ?_); rintro e z1 ⟨rb2, rm2, rfl, hge, hrd, c1⟩; have hSa := SB.out _ c1; try simp only at hSa) | (go_at_call 24; (with_reducible refine (CL.out _ _ _ (And.right (And.right (And.right (And.right (And.right (And.right (by assumption))))))) hge hrd).mono ?_); rintro e z2 ⟨rfl, c2⟩; have hSb := SB.out _ c2; try simp only at hSb))
            have bel := Hbel.out
            have mp := Hmp.out
            have rd := Hrd.out
            have fm := Hfm.out
            have mt := Hmt.out
            have sg := Hsg.out
            have ms := Hms.out
            have mw := Hmw.out
            clear Hbel Hmp Hrd Hfm Hmt Hsg Hms Hmw
            obtain ⟨_, _, _, _, _, _, c⟩ := hSb
            replace bel := below_next bel c
            replace mp := (c.block _ (Array.getElem?_eq_some_iff.1 mp).1).trans mp
            replace rd := rd.below c
            replace fm := fm.below c
            replace mt := (c.block _ (Array.getElem?_eq_some_iff.1 mt).1).trans mt
            replace sg := sg.below c (Nat.le_refl _)
            replace ms := (c.block _ (Array.getElem?_eq_some_iff.1 ms).1).trans ms
            replace mw := (c.block _ (Array.getElem?_eq_some_iff.1 mw).1).trans mw
            clear c
            clear hS0 hS1 hSa hge hrd c1
            by_cases hc1 : xr = root
            · skip
              subst hc1
              have hc2 : ¬ xc = cnt := fun e => Hx1.out ⟨rfl, e⟩
              have q_mt_0 := cell_of_heap (i := 0) mt
              have q_mt_1 := cell_of_heap (i := 1) mt
              have q_mt_2 := cell_of_heap (i := 2) mt
              have q_mt_3 := cell_of_heap (i := 3) mt
              have q_mw_0 := cell_of_heap (i := 0) mw
              have q_mw_1 := cell_of_heap (i := 1) mw
              have q_mw_2 := cell_of_heap (i := 2) mw
              have Hbel := Lib.hid bel
              have Hmp := Lib.hid mp
              have Hrd := Lib.hid rd
              have Hfm := Lib.hid fm
              have Hmt := Lib.hid mt
              have Hsg := Lib.hid sg
              have Hms := Lib.hid ms
              have Hmw := Lib.hid mw
              clear bel mp rd fm mt sg ms mw
              go_wp2_with fail
              have bel := Hbel.out
              have mp := Hmp.out
              have rd := Hrd.out
              have fm := Hfm.out
              have mt := Hmt.out
              have sg := Hsg.out
              have ms := Hms.out
              have mw := Hmw.out
              clear Hbel Hmp Hrd Hfm Hmt Hsg Hms Hmw
              clear q_mt_0 q_mt_1 q_mt_2 q_mt_3 q_mw_0 q_mw_1 q_mw_2
              go_roundw
              case rel => exact ⟨k + 1, fs, by omega, by go_num, bel, mp, rd, fm.mono (by omega)⟩
              case measure => simp [intOf]; omega
            · skip
              have q_mt_0 := cell_of_heap (i := 0) mt
              have q_mt_1 := cell_of_heap (i := 1) mt
              have q_mt_2 := cell_of_heap (i := 2) mt
              have q_mt_3 := cell_of_heap (i := 3) mt
              have q_mw_0 := cell_of_heap (i := 0) mw
              have q_mw_1 := cell_of_heap (i := 1) mw
              have q_mw_2 := cell_of_heap (i := 2) mw
              have Hbel := Lib.hid bel
              have Hmp := Lib.hid mp
              have Hrd := Lib.hid rd
              have Hfm := Lib.hid fm
              have Hmt := Lib.hid mt
              have Hsg := Lib.hid sg
              have Hms := Lib.hid ms
              have Hmw := Lib.hid mw
              clear bel mp rd fm mt sg ms mw
              go_wp2_with fail
              have bel := Hbel.out
              have mp := Hmp.out
              have rd := Hrd.out
              have fm := Hfm.out
              have mt := Hmt.out
              have sg := Hsg.out
              have ms := Hms.out
              have mw := Hmw.out
              clear Hbel Hmp Hrd Hfm Hmt Hsg Hms Hmw
              clear q_mt_0 q_mt_1 q_mt_2 q_mt_3 q_mw_0 q_mw_1 q_mw_2
              go_roundw
              case rel => exact ⟨k + 1, fs, by omega, by go_num, bel, mp, rd, fm.mono (by omega)⟩
              case measure => simp [intOf]; omega
          · skip
            simp only at hf
            rw [hf] at look
            have Hf := Lib.hid hf
            clear hf
            simp only [Option.getD_some, Option.getD_none, Option.isSome_some, Option.isSome_none, tdV, zeroTd] at look
            have q_mt_0 := cell_of_heap (i := 0) mt
            have Hbel := Lib.hid bel
            have Hmp := Lib.hid mp
            have Hrd := Lib.hid rd
            have Hfm := Lib.hid fm
            have Hmt := Lib.hid mt
            have Hsg := Lib.hid sg
            have Hms := Lib.hid ms
            clear bel mp rd fm mt sg ms
            go_wp2_with fail
            have bel := Hbel.out
            have mp := Hmp.out
            have rd := Hrd.out
            have fm := Hfm.out
            have mt := Hmt.out
            have sg := Hsg.out
            have ms := Hms.out
            clear Hbel Hmp Hrd Hfm Hmt Hsg Hms
            clear q_mt_0
            clear look
            obtain ⟨w13, hw⟩ : ∃ z, w12.alloc (.cells #[.int .i64 0, .int .i64 0, .string ⟨([] : List UInt8).toArray⟩, .bool false] 46) = z := ⟨_, rfl⟩
            have c : Below w12.heap.size w12 w13 := by rw [← hw]; exact (Below.refl _ _).alloc (Nat.le_refl _) _
            have mw : w13.heap[w12.heap.size]? = some (.cells #[.int .i64 0, .int .i64 0, .string ⟨([] : List UInt8).toArray⟩, .bool false] 46 (0, 0)) := by rw [← hw]; exact heap_alloc_at _ _
            rw [hw]
            clear hw
            replace bel := below_next bel c
            replace mp := (c.block _ (Array.getElem?_eq_some_iff.1 mp).1).trans mp
            replace rd := rd.below c
            replace fm := fm.below c
            replace mt := (c.block _ (Array.getElem?_eq_some_iff.1 mt).1).trans mt
            replace sg := sg.below c (Nat.le_refl _)
            replace ms := (c.block _ (Array.getElem?_eq_some_iff.1 ms).1).trans ms
            clear c
            obtain ⟨bw, hb⟩ : ∃ b, w12.heap.size = b := ⟨_, rfl⟩
            rw [hb] at mw ⊢
            clear hb
            have Hbel := Lib.hid bel
            have Hmp := Lib.hid mp
            have Hrd := Lib.hid rd
            have Hfm := Lib.hid fm
            have Hmt := Lib.hid mt
            have Hsg := Lib.hid sg
            have Hms := Lib.hid ms
            have Hmw := Lib.hid mw
            clear bel mp rd fm mt sg ms mw
            go_wp2_with fail
            have bel := Hbel.out
            have mp := Hmp.out
            have rd := Hrd.out
            have fm := Hfm.out
            have mt := Hmt.out
            have sg := Hsg.out
            have ms := Hms.out
            have mw := Hmw.out
            clear Hbel Hmp Hrd Hfm Hmt Hsg Hms Hmw
            have SB : Hid (∀ Y, Below w13.heap.size w13 Y → (fun Y => Y.cell? ⟨bt, 0, none⟩ = some (.int .i64 day') ∧ Y.cell? ⟨bt, 1, none⟩ = some (.int .i64 cnt) ∧ Y.cell? ⟨bt, 2, none⟩ = some (.string ⟨root.toArray⟩) ∧ Y.cell? ⟨bs, 0, none⟩ = some (.int .i64 0) ∧ Y.cell? ⟨bs, 1, none⟩ = some (.slice sa 18 sc) ∧ Y.cell? ⟨bs, 2, none⟩ = some (.slice sp 0 sq) ∧ Below w13.heap.size w13 Y) Y) := by
              intro Y hb
              have lt := (Array.getElem?_eq_some_iff.1 mt).1
              have ls := (Array.getElem?_eq_some_iff.1 ms).1
              exact ⟨(hb.cell (p := ⟨bt, 0, none⟩) lt).trans (cell_of_heap mt), (hb.cell (p := ⟨bt, 1, none⟩) lt).trans (cell_of_heap mt), (hb.cell (p := ⟨bt, 2, none⟩) lt).trans (cell_of_heap mt), (hb.cell (p := ⟨bs, 0, none⟩) ls).trans (cell_of_heap ms), (hb.cell (p := ⟨bs, 1, none⟩) ls).trans (cell_of_heap ms), (hb.cell (p := ⟨bs, 2, none⟩) ls).trans (cell_of_heap ms), hb⟩
            have CN : Hid (∀ A, Below w13.heap.size w13 A → Calls Tryz.prog 22 #[.string ⟨offKey.toArray⟩] A fun e w' => ∃ rb2 rm2, e = .returned (.pointer (some ⟨rb2, 0, none⟩)) ∧ w13.heap.size ≤ rm2 ∧ ReaderAt w' rb2 rm2 0 offKey [] ∧ Below w13.heap.size w13 w') := fun A hA => (newR_any offKey A).mono fun e w' ⟨h1, h2, h3⟩ => ⟨_, _, h1, hA.size, h2, below_next hA h3⟩
            have CL : Hid (∀ A rb2 rm2, Below w13.heap.size w13 A → w13.heap.size ≤ rm2 → ReaderAt A rb2 rm2 0 offKey [] → Calls Tryz.prog 24 #[.pointer (some ⟨rb2, 0, none⟩), .int .i64 day', .int .i64 cnt, .string ⟨root.toArray⟩, .agg #[.int .i64 0, .slice sa 18 sc, .slice sp 0 sq]] A fun e w' => e = .returned (.int .i64 0) ∧ Below w13.heap.size w13 w') := fun A rb2 rm2 hA hge hrd => (learn_any offKey root day' cnt sig _ rb2 rm2 0 [] _ (ht.below (below_next bel hA) (Nat.le_refl _)) hrd ⟨sa, sc, sp, sq, rfl, sg.below hA (Nat.le_refl _)⟩ hsok i0 i1 i2 i3 (by omega) (by decide) (es0, 0) hlr0).mono fun e w' ⟨h1, _, h3⟩ => ⟨h1, hA.grown h3 hA.size (fun k e => by injection e with e; omega)⟩
            have hS0 := SB.out _ (Below.refl _ _)
            have hS1 := SB.out _ (Below.refl w13.heap.size w13).drew
            try simp only at hS0 hS1
            have Hbel := Lib.hid bel
            have Hmp := Lib.hid mp
            have Hrd := Lib.hid rd
            have Hfm := Lib.hid fm
            have Hmt := Lib.hid mt
            have Hsg := Lib.hid sg
            have Hms := Lib.hid ms
            have Hmw := Lib.hid mw
            clear bel mp rd fm mt sg ms mw
            go_region_held3 (fun Y => Y.cell? ⟨bt, 0, none⟩ = some (.int .i64 day') ∧ Y.cell? ⟨bt, 1, none⟩ = some (.int .i64 cnt) ∧ Y.cell? ⟨bt, 2, none⟩ = some (.string ⟨root.toArray⟩) ∧ Y.cell? ⟨bs, 0, none⟩ = some (.int .i64 0) ∧ Y.cell? ⟨bs, 1, none⟩ = some (.slice sa 18 sc) ∧ Y.cell? ⟨bs, 2, none⟩ = some (.slice sp 0 sq) ∧ Below w13.heap.size w13 Y) (first | exact hS0 | exact hS1 | assumption) (first | (go_at_call 22; (with_reducible refine (CN.out _ (And.right (And.right (And.right (And.right (And.right (And.right (by assumption)))))))).mono ?_); rintro e z1 ⟨rb2, rm2, rfl, hge, hrd, c1⟩; have hSa := SB.out _ c1; try simp only at hSa) | (go_at_call 24; (with_reducible refine (CL.out _ _ _ (And.right (And.right (And.right (And.right (And.right (And.right (by assumption))))))) hge hrd).mono ?_); rintro e z2 ⟨rfl, c2⟩; have hSb := SB.out _ c2; try simp only at hSb))
            have bel := Hbel.out
            have mp := Hmp.out
            have rd := Hrd.out
            have fm := Hfm.out
            have mt := Hmt.out
            have sg := Hsg.out
            have ms := Hms.out
            have mw := Hmw.out
            clear Hbel Hmp Hrd Hfm Hmt Hsg Hms Hmw
            obtain ⟨_, _, _, _, _, _, c⟩ := hSb
            replace bel := below_next bel c
            replace mp := (c.block _ (Array.getElem?_eq_some_iff.1 mp).1).trans mp
            replace rd := rd.below c
            replace fm := fm.below c
            replace mt := (c.block _ (Array.getElem?_eq_some_iff.1 mt).1).trans mt
            replace sg := sg.below c (Nat.le_refl _)
            replace ms := (c.block _ (Array.getElem?_eq_some_iff.1 ms).1).trans ms
            replace mw := (c.block _ (Array.getElem?_eq_some_iff.1 mw).1).trans mw
            clear c
            clear hS0 hS1 hSa hge hrd c1
            obtain ⟨wq, hput, fm2, gq⟩ := fmap_put (t := ⟨day', cnt, root, wrong⟩) fm i0 i1 (by unfold maxLen; omega) Hf.out
            simp only [tdV] at hput
            have Hfm2 := Lib.hid fm2
            have Hgq := Lib.hid gq
            clear fm2 gq
            have q_mt_0 := cell_of_heap (i := 0) mt
            have q_mt_1 := cell_of_heap (i := 1) mt
            have q_mt_2 := cell_of_heap (i := 2) mt
            have q_mt_3 := cell_of_heap (i := 3) mt
            have q_mw_0 := cell_of_heap (i := 0) mw
            have q_mw_1 := cell_of_heap (i := 1) mw
            have q_mw_2 := cell_of_heap (i := 2) mw
            have Hbel := Lib.hid bel
            have Hmp := Lib.hid mp
            have Hrd := Lib.hid rd
            have Hfm := Lib.hid fm
            have Hmt := Lib.hid mt
            have Hsg := Lib.hid sg
            have Hms := Lib.hid ms
            have Hmw := Lib.hid mw
            clear bel mp rd fm mt sg ms mw
            go_wp2_with fail
            have bel := Hbel.out
            have mp := Hmp.out
            have rd := Hrd.out
            have fm := Hfm.out
            have mt := Hmt.out
            have sg := Hsg.out
            have ms := Hms.out
            have mw := Hmw.out
            clear Hbel Hmp Hrd Hfm Hmt Hsg Hms Hmw
            clear q_mt_0 q_mt_1 q_mt_2 q_mt_3 q_mw_0 q_mw_1 q_mw_2
            have fm2 := Hfm2.out
            have gq := Hgq.out
            have hmm2 := fm
            replace bel := bel.grown gq bel.size (fun k e => by injection e with e; omega)
            replace mp := (gq.block _ (Array.getElem?_eq_some_iff.1 mp).1 (fun e => hmm2.ne mp (by injection e))).trans mp
            replace rd := rd.kept gq (by intro e; injection e with e; omega) (by intro e; injection e with e; omega)
            clear fm Hfm2 Hgq hmm2
            have fm := fm2
            clear fm2
            go_roundw
            case rel => exact ⟨k + 1, fs ++ [⟨day', cnt, root, wrong⟩], by omega, by go_num, bel, mp, rd, fm⟩
            case measure => simp [intOf]; omega
        · skip
          obtain rfl : k = l.length := by omega
          obtain ⟨r, hwr⟩ : ∃ r, Hid (Pf.wasL (knows fs) day p = r) := ⟨_, rfl⟩
          have look := fmap_look fm day hd0 hd1
          cases hf : fstL fs day with
          | none =>
            have hr : r = 11 := by rw [← hwr.out]; exact was_none hf
            subst hr
            rw [hf] at look
            have Hf := Lib.hid hf
            clear hf
            simp only [Option.getD_some, Option.getD_none, Option.isSome_some, Option.isSome_none, tdV, zeroTd] at look
            have q_mp_0 := cell_of_heap (i := 0) ((heap_alloc_lt wr (.cells #[.int .i64 0, .int .i64 0, .string ⟨([] : List UInt8).toArray⟩, .bool false] 46) _ (Array.getElem?_eq_some_iff.1 mp).1).trans mp)
            have q_mp_1 := cell_of_heap (i := 1) ((heap_alloc_lt wr (.cells #[.int .i64 0, .int .i64 0, .string ⟨([] : List UInt8).toArray⟩, .bool false] 46) _ (Array.getElem?_eq_some_iff.1 mp).1).trans mp)
            have q_mp_2 := cell_of_heap (i := 2) ((heap_alloc_lt wr (.cells #[.int .i64 0, .int .i64 0, .string ⟨([] : List UInt8).toArray⟩, .bool false] 46) _ (Array.getElem?_eq_some_iff.1 mp).1).trans mp)
            have q_mp_3 := cell_of_heap (i := 3) ((heap_alloc_lt wr (.cells #[.int .i64 0, .int .i64 0, .string ⟨([] : List UInt8).toArray⟩, .bool false] 46) _ (Array.getElem?_eq_some_iff.1 mp).1).trans mp)
            have q_mp_4 := cell_of_heap (i := 4) ((heap_alloc_lt wr (.cells #[.int .i64 0, .int .i64 0, .string ⟨([] : List UInt8).toArray⟩, .bool false] 46) _ (Array.getElem?_eq_some_iff.1 mp).1).trans mp)
            have q_mp_5 := cell_of_heap (i := 5) ((heap_alloc_lt wr (.cells #[.int .i64 0, .int .i64 0, .string ⟨([] : List UInt8).toArray⟩, .bool false] 46) _ (Array.getElem?_eq_some_iff.1 mp).1).trans mp)
            have q_mp_6 := cell_of_heap (i := 6) ((heap_alloc_lt wr (.cells #[.int .i64 0, .int .i64 0, .string ⟨([] : List UInt8).toArray⟩, .bool false] 46) _ (Array.getElem?_eq_some_iff.1 mp).1).trans mp)
            have q_mp_7 := cell_of_heap (i := 7) ((heap_alloc_lt wr (.cells #[.int .i64 0, .int .i64 0, .string ⟨([] : List UInt8).toArray⟩, .bool false] 46) _ (Array.getElem?_eq_some_iff.1 mp).1).trans mp)
            have q_mp_8 := cell_of_heap (i := 8) ((heap_alloc_lt wr (.cells #[.int .i64 0, .int .i64 0, .string ⟨([] : List UInt8).toArray⟩, .bool false] 46) _ (Array.getElem?_eq_some_iff.1 mp).1).trans mp)
            have q_mp_9 := cell_of_heap (i := 9) ((heap_alloc_lt wr (.cells #[.int .i64 0, .int .i64 0, .string ⟨([] : List UInt8).toArray⟩, .bool false] 46) _ (Array.getElem?_eq_some_iff.1 mp).1).trans mp)
            have Hbel := Lib.hid bel
            have Hmp := Lib.hid mp
            have Hrd := Lib.hid rd
            have Hfm := Lib.hid fm
            clear bel mp rd fm
            go_wp2_with fail
            have bel := Hbel.out
            have mp := Hmp.out
            have rd := Hrd.out
            have fm := Hfm.out
            clear Hbel Hmp Hrd Hfm
            clear q_mp_0 q_mp_1 q_mp_2 q_mp_3 q_mp_4 q_mp_5 q_mp_6 q_mp_7 q_mp_8 q_mp_9
            clear look
            obtain ⟨w9, hw⟩ : ∃ z, wr.alloc (.cells #[.int .i64 0, .int .i64 0, .string ⟨([] : List UInt8).toArray⟩, .bool false] 46) = z := ⟨_, rfl⟩
            have c : Below wr.heap.size wr w9 := by rw [← hw]; exact (Below.refl _ _).alloc (Nat.le_refl _) _
            have mx : w9.heap[wr.heap.size]? = some (.cells #[.int .i64 0, .int .i64 0, .string ⟨([] : List UInt8).toArray⟩, .bool false] 46 (0, 0)) := by rw [← hw]; exact heap_alloc_at _ _
            rw [hw]
            clear hw
            replace bel := below_next bel c
            replace mp := (c.block _ (Array.getElem?_eq_some_iff.1 mp).1).trans mp
            replace rd := rd.below c
            replace fm := fm.below c
            clear c
            obtain ⟨bx, hb⟩ : ∃ b, wr.heap.size = b := ⟨_, rfl⟩
            rw [hb] at mx ⊢
            clear hb
            refine (was_any offKey day p _ rb rm _ (knows fs) _ (ht.below bel (Nat.le_refl _)) rd (Hp.out.below bel (Nat.le_refl _)) hpo hd0 hd1 11 hwr).mono ?_
            rintro e w10 ⟨rfl, c⟩
            replace bel := below_next bel c
            replace mp := (c.block _ (Array.getElem?_eq_some_iff.1 mp).1).trans mp
            replace rd := rd.below c
            replace fm := fm.below c
            replace mx := (c.block _ (Array.getElem?_eq_some_iff.1 mx).1).trans mx
            clear c
            have Hbel := Lib.hid bel
            have Hmp := Lib.hid mp
            have Hrd := Lib.hid rd
            have Hfm := Lib.hid fm
            have Hmx := Lib.hid mx
            clear bel mp rd fm mx
            go_wp2_with fail
            have bel := Hbel.out
            have mp := Hmp.out
            have rd := Hrd.out
            have fm := Hfm.out
            have mx := Hmx.out
            clear Hbel Hmp Hrd Hfm Hmx
            refine (days_any offKey rb rm _ (knows fs) _ rd (by omega)).mono ?_
            rintro e w11 ⟨dv, rfl, hdv, c⟩
            replace bel := below_next bel c
            replace mp := (c.block _ (Array.getElem?_eq_some_iff.1 mp).1).trans mp
            replace rd := rd.below c
            replace fm := fm.below c
            replace mx := (c.block _ (Array.getElem?_eq_some_iff.1 mx).1).trans mx
            clear c
            obtain ⟨da, dc, rfl⟩ := hdv.shape
            clear hdv
            rw [knows_length]
            have hln := fmap_len fm 3
            have Hbel := Lib.hid bel
            have Hmp := Lib.hid mp
            have Hrd := Lib.hid rd
            have Hfm := Lib.hid fm
            have Hmx := Lib.hid mx
            clear bel mp rd fm mx
            go_wp2_with fail
            have bel := Hbel.out
            have mp := Hmp.out
            have rd := Hrd.out
            have fm := Hfm.out
            have mx := Hmx.out
            clear Hbel Hmp Hrd Hfm Hmx
            go_ret
            exact ⟨rfl, bel⟩
          | some x =>
            obtain ⟨xd, xc, xr, xw⟩ := x
            have hws := hwr.out
            rw [was_some hf] at hws
            simp only at hws
            obtain ⟨cb, hcb⟩ : ∃ cb, Hid (Pf.checkL xr p = cb) := ⟨_, rfl⟩
            rw [hcb.out] at hws
            have Hws := Lib.hid hws
            clear hws
            rw [hf] at look
            have Hf := Lib.hid hf
            clear hf
            simp only [Option.getD_some, Option.getD_none, Option.isSome_some, Option.isSome_none, tdV, zeroTd] at look
            have q_mp_0 := cell_of_heap (i := 0) ((heap_alloc_lt wr (.cells #[.int .i64 xd, .int .i64 xc, .string ⟨xr.toArray⟩, .bool xw] 46) _ (Array.getElem?_eq_some_iff.1 mp).1).trans mp)
            have q_mp_1 := cell_of_heap (i := 1) ((heap_alloc_lt wr (.cells #[.int .i64 xd, .int .i64 xc, .string ⟨xr.toArray⟩, .bool xw] 46) _ (Array.getElem?_eq_some_iff.1 mp).1).trans mp)
            have q_mp_2 := cell_of_heap (i := 2) ((heap_alloc_lt wr (.cells #[.int .i64 xd, .int .i64 xc, .string ⟨xr.toArray⟩, .bool xw] 46) _ (Array.getElem?_eq_some_iff.1 mp).1).trans mp)
            have q_mp_3 := cell_of_heap (i := 3) ((heap_alloc_lt wr (.cells #[.int .i64 xd, .int .i64 xc, .string ⟨xr.toArray⟩, .bool xw] 46) _ (Array.getElem?_eq_some_iff.1 mp).1).trans mp)
            have q_mp_4 := cell_of_heap (i := 4) ((heap_alloc_lt wr (.cells #[.int .i64 xd, .int .i64 xc, .string ⟨xr.toArray⟩, .bool xw] 46) _ (Array.getElem?_eq_some_iff.1 mp).1).trans mp)
            have q_mp_5 := cell_of_heap (i := 5) ((heap_alloc_lt wr (.cells #[.int .i64 xd, .int .i64 xc, .string ⟨xr.toArray⟩, .bool xw] 46) _ (Array.getElem?_eq_some_iff.1 mp).1).trans mp)
            have q_mp_6 := cell_of_heap (i := 6) ((heap_alloc_lt wr (.cells #[.int .i64 xd, .int .i64 xc, .string ⟨xr.toArray⟩, .bool xw] 46) _ (Array.getElem?_eq_some_iff.1 mp).1).trans mp)
            have q_mp_7 := cell_of_heap (i := 7) ((heap_alloc_lt wr (.cells #[.int .i64 xd, .int .i64 xc, .string ⟨xr.toArray⟩, .bool xw] 46) _ (Array.getElem?_eq_some_iff.1 mp).1).trans mp)
            have q_mp_8 := cell_of_heap (i := 8) ((heap_alloc_lt wr (.cells #[.int .i64 xd, .int .i64 xc, .string ⟨xr.toArray⟩, .bool xw] 46) _ (Array.getElem?_eq_some_iff.1 mp).1).trans mp)
            have q_mp_9 := cell_of_heap (i := 9) ((heap_alloc_lt wr (.cells #[.int .i64 xd, .int .i64 xc, .string ⟨xr.toArray⟩, .bool xw] 46) _ (Array.getElem?_eq_some_iff.1 mp).1).trans mp)
            have Hbel := Lib.hid bel
            have Hmp := Lib.hid mp
            have Hrd := Lib.hid rd
            have Hfm := Lib.hid fm
            clear bel mp rd fm
            go_wp2_with fail
            have bel := Hbel.out
            have mp := Hmp.out
            have rd := Hrd.out
            have fm := Hfm.out
            clear Hbel Hmp Hrd Hfm
            clear q_mp_0 q_mp_1 q_mp_2 q_mp_3 q_mp_4 q_mp_5 q_mp_6 q_mp_7 q_mp_8 q_mp_9
            clear look
            obtain ⟨w9, hw⟩ : ∃ z, wr.alloc (.cells #[.int .i64 xd, .int .i64 xc, .string ⟨xr.toArray⟩, .bool xw] 46) = z := ⟨_, rfl⟩
            have c : Below wr.heap.size wr w9 := by rw [← hw]; exact (Below.refl _ _).alloc (Nat.le_refl _) _
            have mx : w9.heap[wr.heap.size]? = some (.cells #[.int .i64 xd, .int .i64 xc, .string ⟨xr.toArray⟩, .bool xw] 46 (0, 0)) := by rw [← hw]; exact heap_alloc_at _ _
            rw [hw]
            clear hw
            replace bel := below_next bel c
            replace mp := (c.block _ (Array.getElem?_eq_some_iff.1 mp).1).trans mp
            replace rd := rd.below c
            replace fm := fm.below c
            clear c
            obtain ⟨bx, hb⟩ : ∃ b, wr.heap.size = b := ⟨_, rfl⟩
            rw [hb] at mx ⊢
            clear hb
            refine (was_any offKey day p _ rb rm _ (knows fs) _ (ht.below bel (Nat.le_refl _)) rd (Hp.out.below bel (Nat.le_refl _)) hpo hd0 hd1 r hwr).mono ?_
            rintro e w10 ⟨rfl, c⟩
            replace bel := below_next bel c
            replace mp := (c.block _ (Array.getElem?_eq_some_iff.1 mp).1).trans mp
            replace rd := rd.below c
            replace fm := fm.below c
            replace mx := (c.block _ (Array.getElem?_eq_some_iff.1 mx).1).trans mx
            clear c
            by_cases hc : xc = p.count
            · skip
              subst hc
              cases cb
              · skip
                obtain rfl : r = 21 := by rw [← Hws.out]; simp
                have q_mp_0 := cell_of_heap (i := 0) mp
                have q_mp_1 := cell_of_heap (i := 1) mp
                have q_mp_2 := cell_of_heap (i := 2) mp
                have q_mp_3 := cell_of_heap (i := 3) mp
                have q_mp_4 := cell_of_heap (i := 4) mp
                have q_mp_5 := cell_of_heap (i := 5) mp
                have q_mp_6 := cell_of_heap (i := 6) mp
                have q_mp_7 := cell_of_heap (i := 7) mp
                have q_mp_8 := cell_of_heap (i := 8) mp
                have q_mp_9 := cell_of_heap (i := 9) mp
                have q_mx_1 := cell_of_heap (i := 1) mx
                have q_mx_2 := cell_of_heap (i := 2) mx
                have Hbel := Lib.hid bel
                have Hmp := Lib.hid mp
                have Hrd := Lib.hid rd
                have Hfm := Lib.hid fm
                have Hmx := Lib.hid mx
                clear bel mp rd fm mx
                go_wp2_with fail
                have bel := Hbel.out
                have mp := Hmp.out
                have rd := Hrd.out
                have fm := Hfm.out
                have mx := Hmx.out
                clear Hbel Hmp Hrd Hfm Hmx
                clear q_mp_0 q_mp_1 q_mp_2 q_mp_3 q_mp_4 q_mp_5 q_mp_6 q_mp_7 q_mp_8 q_mp_9 q_mx_1 q_mx_2
                refine (checkP_any xr p _ false _ (ht.below bel (Nat.le_refl _)) (Hp.out.below bel (Nat.le_refl _)) hpo hcb).mono ?_
                rintro e w11 ⟨rfl, c⟩
                replace bel := below_next bel c
                replace mp := (c.block _ (Array.getElem?_eq_some_iff.1 mp).1).trans mp
                replace rd := rd.below c
                replace fm := fm.below c
                replace mx := (c.block _ (Array.getElem?_eq_some_iff.1 mx).1).trans mx
                clear c
                have Hbel := Lib.hid bel
                have Hmp := Lib.hid mp
                have Hrd := Lib.hid rd
                have Hfm := Lib.hid fm
                have Hmx := Lib.hid mx
                clear bel mp rd fm mx
                go_wp2_with fail
                have bel := Hbel.out
                have mp := Hmp.out
                have rd := Hrd.out
                have fm := Hfm.out
                have mx := Hmx.out
                clear Hbel Hmp Hrd Hfm Hmx
                go_ret
                exact ⟨rfl, bel⟩
              · skip
                obtain rfl : r = 0 := by rw [← Hws.out]; simp
                have q_mp_0 := cell_of_heap (i := 0) mp
                have q_mp_1 := cell_of_heap (i := 1) mp
                have q_mp_2 := cell_of_heap (i := 2) mp
                have q_mp_3 := cell_of_heap (i := 3) mp
                have q_mp_4 := cell_of_heap (i := 4) mp
                have q_mp_5 := cell_of_heap (i := 5) mp
                have q_mp_6 := cell_of_heap (i := 6) mp
                have q_mp_7 := cell_of_heap (i := 7) mp
                have q_mp_8 := cell_of_heap (i := 8) mp
                have q_mp_9 := cell_of_heap (i := 9) mp
                have q_mx_1 := cell_of_heap (i := 1) mx
                have q_mx_2 := cell_of_heap (i := 2) mx
                have Hbel := Lib.hid bel
                have Hmp := Lib.hid mp
                have Hrd := Lib.hid rd
                have Hfm := Lib.hid fm
                have Hmx := Lib.hid mx
                clear bel mp rd fm mx
                go_wp2_with fail
                have bel := Hbel.out
                have mp := Hmp.out
                have rd := Hrd.out
                have fm := Hfm.out
                have mx := Hmx.out
                clear Hbel Hmp Hrd Hfm Hmx
                clear q_mp_0 q_mp_1 q_mp_2 q_mp_3 q_mp_4 q_mp_5 q_mp_6 q_mp_7 q_mp_8 q_mp_9 q_mx_1 q_mx_2
                refine (checkP_any xr p _ true _ (ht.below bel (Nat.le_refl _)) (Hp.out.below bel (Nat.le_refl _)) hpo hcb).mono ?_
                rintro e w11 ⟨rfl, c⟩
                replace bel := below_next bel c
                replace mp := (c.block _ (Array.getElem?_eq_some_iff.1 mp).1).trans mp
                replace rd := rd.below c
                replace fm := fm.below c
                replace mx := (c.block _ (Array.getElem?_eq_some_iff.1 mx).1).trans mx
                clear c
                have Hbel := Lib.hid bel
                have Hmp := Lib.hid mp
                have Hrd := Lib.hid rd
                have Hfm := Lib.hid fm
                have Hmx := Lib.hid mx
                clear bel mp rd fm mx
                go_wp2_with fail
                have bel := Hbel.out
                have mp := Hmp.out
                have rd := Hrd.out
                have fm := Hfm.out
                have mx := Hmx.out
                clear Hbel Hmp Hrd Hfm Hmx
                go_ret
                exact ⟨rfl, bel⟩
            · skip
              have hc2 : ¬ p.count = xc := fun e => hc e.symm
              obtain rfl : r = 21 := by rw [← Hws.out, if_neg (fun h => hc h.1)]
              clear hc
              have q_mp_0 := cell_of_heap (i := 0) mp
              have q_mp_1 := cell_of_heap (i := 1) mp
              have q_mp_2 := cell_of_heap (i := 2) mp
              have q_mp_3 := cell_of_heap (i := 3) mp
              have q_mp_4 := cell_of_heap (i := 4) mp
              have q_mp_5 := cell_of_heap (i := 5) mp
              have q_mp_6 := cell_of_heap (i := 6) mp
              have q_mp_7 := cell_of_heap (i := 7) mp
              have q_mp_8 := cell_of_heap (i := 8) mp
              have q_mp_9 := cell_of_heap (i := 9) mp
              have q_mx_1 := cell_of_heap (i := 1) mx
              have q_mx_2 := cell_of_heap (i := 2) mx
              have Hbel := Lib.hid bel
              have Hmp := Lib.hid mp
              have Hrd := Lib.hid rd
              have Hfm := Lib.hid fm
              have Hmx := Lib.hid mx
              clear bel mp rd fm mx
              go_wp2_with fail
              have bel := Hbel.out
              have mp := Hmp.out
              have rd := Hrd.out
              have fm := Hfm.out
              have mx := Hmx.out
              clear Hbel Hmp Hrd Hfm Hmx
              clear q_mp_0 q_mp_1 q_mp_2 q_mp_3 q_mp_4 q_mp_5 q_mp_6 q_mp_7 q_mp_8 q_mp_9 q_mx_1 q_mx_2
              go_ret
              exact ⟨rfl, bel⟩
end Go.Proofs.YteoclpjbeadkpaaGreatDoor
/- PLAIN: what two readers know who were told the same things, in whatever order, with no fork. -/
namespace Go.Proofs.YteoclpjbeadkpaaGreatDoor

/-- A thing that is learnt: its day, count and root are as they should be, and it is signed with the key. -/
def goodT (t : Td) : Prop := ¬ (t.day < 0 ∨ 1000000 < t.day ∨ t.cnt < 0 ∨ 2000 < t.cnt ∨ Dg.isL t.root = false) ∧ ¬ Se.verL offKey (Pf.msgL t.day t.cnt t.root) (sgL t.wrong t.day t.cnt t.root) = false
def TInv (es : Pf.Rd) (P : Td → Prop) : Prop := (∀ t, P t → goodT t → Pf.findL es t.day = some (t.cnt, t.root)) ∧ (∀ d x, Pf.findL es d = some x → ∃ t, P t ∧ goodT t ∧ t.day = d ∧ (t.cnt, t.root) = x)
theorem TInv.nil {P : Td → Prop} (h : ∀ t, ¬ P t) : TInv [] P := ⟨fun t ht => absurd ht (h t), fun d x hx => by cases hx⟩
theorem TInv.congr {es : Pf.Rd} {P Q : Td → Prop} (h : TInv es P) (hPQ : ∀ t, Q t ↔ P t) : TInv es Q :=
  ⟨fun t ht => h.1 t ((hPQ t).1 ht), fun d x hx => by obtain ⟨t, h1, h2⟩ := h.2 d x hx; exact ⟨t, (hPQ t).2 h1, h2⟩⟩
theorem TInv.step {es : Pf.Rd} {P : Td → Prop} {t : Td} {en : Pf.Rd} {er : Int} (h : TInv es P) (hl : Pf.learnL offKey es t.day t.cnt t.root (sgL t.wrong t.day t.cnt t.root) = (en, er)) (hne : ¬ er = 23) : TInv en (fun s => P s ∨ s = t) := by
  unfold Pf.learnL at hl
  have bad : en = es → ¬ goodT t → TInv en (fun s => P s ∨ s = t) := by
    rintro rfl hg
    refine ⟨fun s hs hgs => ?_, fun d x hx => ?_⟩
    · rcases hs with hs | rfl
      · exact h.1 s hs hgs
      · exact absurd hgs hg
    · obtain ⟨s, h1, h2⟩ := h.2 d x hx
      exact ⟨s, .inl h1, h2⟩
  by_cases hb : t.day < 0 ∨ 1000000 < t.day ∨ t.cnt < 0 ∨ 2000 < t.cnt ∨ Dg.isL t.root = false
  · rw [if_pos hb] at hl
    cases hl
    exact bad rfl (fun hg => hg.1 hb)
  · rw [if_neg hb] at hl
    by_cases hv : Se.verL offKey (Pf.msgL t.day t.cnt t.root) (sgL t.wrong t.day t.cnt t.root) = false
    · rw [if_pos hv] at hl
      cases hl
      exact bad rfl (fun hg => hg.2 hv)
    · rw [if_neg hv] at hl
      have hg : goodT t := ⟨hb, hv⟩
      cases hf : Pf.findL es t.day with
      | some x =>
        obtain ⟨c, r⟩ := x
        rw [hf] at hl
        simp only at hl
        by_cases e : c = t.cnt ∧ r = t.root
        · rw [if_pos e] at hl
          cases hl
          refine ⟨fun s hs hgs => ?_, fun d x hx => ?_⟩
          · rcases hs with hs | rfl
            · exact h.1 s hs hgs
            · rw [hf, e.1, e.2]
          · obtain ⟨s, h1, h2⟩ := h.2 d x hx
            exact ⟨s, .inl h1, h2⟩
        · rw [if_neg e] at hl
          cases hl
          exact absurd rfl hne
      | none =>
        rw [hf] at hl
        cases hl
        refine ⟨fun s hs hgs => ?_, fun d x hx => ?_⟩
        · rw [Pf.findL_append]
          rcases hs with hs | rfl
          · rw [h.1 s hs hgs]; rfl
          · rw [hf]; simp
        · rw [Pf.findL_append] at hx
          cases hd : Pf.findL es d with
          | some y =>
            rw [hd] at hx
            simp only [Option.some_or, Option.some.injEq] at hx
            subst hx
            obtain ⟨s, h1, h2⟩ := h.2 d y hd
            exact ⟨s, .inl h1, h2⟩
          | none =>
            rw [hd] at hx
            by_cases e : t.day = d
            · rw [if_pos e] at hx
              simp at hx
              exact ⟨t, .inr rfl, hg, e, hx⟩
            · rw [if_neg e] at hx; simp at hx
theorem TInv.same {es es2 : Pf.Rd} {P : Td → Prop} (h : TInv es P) (k : TInv es2 P) (d : Int) : Pf.findL es d = Pf.findL es2 d := by
  cases h1 : Pf.findL es d with
  | some x =>
    obtain ⟨t, a, b, rfl, rfl⟩ := h.2 d x h1
    exact (k.1 t a b).symm
  | none =>
    cases h2 : Pf.findL es2 d with
    | none => rfl
    | some x =>
      obtain ⟨t, a, b, rfl, rfl⟩ := k.2 d x h2
      rw [h.1 t a b] at h1; cases h1
theorem days_mem {es : Pf.Rd} {d : Int} : d ∈ Pf.daysL es ↔ d ∈ es.map (·.1) := by unfold Pf.daysL; exact List.mem_mergeSort
theorem days_bound {es : Pf.Rd} {P : Td → Prop} (h : TInv es P) : ∀ d ∈ Pf.daysL es, 0 ≤ d ∧ d ≤ 1000000 := by
  intro d hd
  have h1 := (Pf.findL_mem es d).2 (days_mem.1 hd)
  obtain ⟨x, hx⟩ := Option.isSome_iff_exists.1 h1
  obtain ⟨t, _, hg, rfl, _⟩ := h.2 d x hx
  have := hg.1
  omega
theorem days_same {es es2 : Pf.Rd} (h : (es.map (·.1)).Nodup) (h2 : (es2.map (·.1)).Nodup) (hs : ∀ d, Pf.findL es d = Pf.findL es2 d) : Pf.daysL es = Pf.daysL es2 := by
  refine days_perm (es := es2) h2 (xs := es.map (·.1)) ⟨h, fun d => ?_⟩
  rw [← Pf.findL_mem es d, ← Pf.findL_mem es2 d, hs]
theorem days_lt {es : Pf.Rd} (h : (es.map (·.1)).Nodup) : ∀ j, 0 < j → j < (Pf.daysL es).length → (Pf.daysL es).getD (j - 1) 0 < (Pf.daysL es).getD j 0 := by
  have tr : ∀ a b c : Int, decide (a ≤ b) = true → decide (b ≤ c) = true → decide (a ≤ c) = true := fun a b c h1 h2 => by simp only [decide_eq_true_eq] at *; omega
  have to : ∀ a b : Int, (decide (a ≤ b) || decide (b ≤ a)) = true := fun a b => by simp only [Bool.or_eq_true, decide_eq_true_eq]; omega
  have hp : (Pf.daysL es).Pairwise (fun a b => decide (a ≤ b) = true) := List.pairwise_mergeSort tr to _
  have hn : (Pf.daysL es).Nodup := by unfold Pf.daysL; exact (List.mergeSort_perm (es.map (·.1)) _).nodup_iff.2 h
  intro j h0 hj
  have e1 := List.pairwise_iff_getElem.1 hp (j - 1) j (by omega) hj (by omega)
  have e2 := List.pairwise_iff_getElem.1 hn (j - 1) j (by omega) hj (by omega)
  rw [List.getD_eq_getElem?_getD, List.getD_eq_getElem?_getD, List.getElem?_eq_getElem hj, List.getElem?_eq_getElem (show j - 1 < _ by omega)]
  simp only [decide_eq_true_eq, Option.getD_some] at e1 ⊢
  omega
end Go.Proofs.YteoclpjbeadkpaaGreatDoor
/- WALK: ProofOrders. -/
namespace Go.Proofs.YteoclpjbeadkpaaGreatDoor
open Go.RowKit Go.Shelf Go.Maps

def Lrn (c : World) (rb rm n : Nat) (es : Pf.Rd) (w' : World) : Prop := ReaderAt w' rb rm n offKey es ∧ c.grownBy w' (some rm)
def OrS (w : World) (bp rb rm rb2 rm2 : Nat) (pc : Obj) (l : List Td) (k : Nat) (es es2 : Pf.Rd) (wr : World) : Prop := Below w.heap.size w wr ∧ wr.heap[bp]? = some pc ∧ ReaderAt wr rb rm k offKey es ∧ ReaderAt wr rb2 rm2 k offKey es2 ∧ TInv es (· ∈ l.take k) ∧ TInv es2 (· ∈ l.drop (l.length - k)) ∧ es.length ≤ k
def OrD (w : World) (bp rb rm rb2 rm2 : Nat) (pc : Obj) (n : Nat) (es es2 : Pf.Rd) (v : Value) (ds : List Int) (wr : World) : Prop := Below w.heap.size w wr ∧ wr.heap[bp]? = some pc ∧ ReaderAt wr rb rm n offKey es ∧ ReaderAt wr rb2 rm2 n offKey es2 ∧ HasI wr v ds
theorem HasI.at {w : World} {a : Option Addr} {n c : Nat} {xs : List Int} (h : HasI w (.slice a n c) xs) (h0 : 0 < xs.length) : ∃ b off, a = some ⟨b, off, none⟩ ∧ b < w.heap.size ∧ ∀ j, j < xs.length → w.cell? ⟨b, off + j, none⟩ = some (.int .i64 (xs.getD j 0)) := by
  rcases h with ⟨rfl, _⟩ | ⟨_, b, off, c, e, hlt, hc⟩
  · simp at h0
  · cases e; exact ⟨b, off, rfl, hlt, hc⟩
theorem getD_mem {xs : List Int} {j : Nat} (h : j < xs.length) : xs.getD j 0 ∈ xs := by
  rw [List.getD_eq_getElem?_getD, List.getElem?_eq_getElem h]; exact List.getElem_mem h
theorem ints_below (ss : List Int) (v u : Value) (w : World) (hv : HasI w v ss) (hu : HasI w u ss) (hn : ss.length ≤ 140737488355328) :
    Calls Tryz.prog 28 #[v, u] w fun e w' => e = .returned (.bool true) ∧ Below w.heap.size w w' := by
  refine (ints_any ss ss v u w hv hu hn hn).mono ?_
  rintro e w' ⟨rfl, q, rfl⟩
  exact ⟨by rw [beq_self_eq_true], below_drewN _ _ _⟩

set_option maxHeartbeats 32000000 in
set_option maxRecDepth 100000 in
theorem ordersLaw_any (l : List Td) (v : Value) (p : Pf.Pr) (pv : Value) (w : World) (ht : Tab w) (hv : HasTds w v l) (hl : l.length ≤ 140737488355328) (hin : ∀ t ∈ l, TdIn t ∧ t.root.length ≤ 140737488355328) (hp : HasStrsC w pv p.path) (hpi : PrIn p) :
    Calls Tryz.prog 8 #[v, prV p pv] w fun e w' => e = .returned (.bool true) ∧ Below w.heap.size w w' := by
  have hmm := @run_makeMap Tryz.prog
  obtain ⟨sb, hsb⟩ : ∃ sb, Hid (shortL l 8 = sb) := ⟨_, rfl⟩
  obtain ⟨fb, hfb⟩ : ∃ fb, Hid (Pf.fewL p = fb) := ⟨_, rfl⟩
  obtain ⟨sig0, hsig0⟩ : ∃ sig, Hid (sgL false 0 0 [] = sig) := ⟨_, rfl⟩
  have hpm : ItMax p.item ∧ ∀ t ∈ p.path, t.length ≤ 9223372036854775807 := prMax hpi
  obtain ⟨a, c, rfl⟩ := hv.shape
  obtain ⟨pa, pc, rfl⟩ : ∃ pa pc, pv = .slice pa p.path.length pc := by obtain ⟨_, pa, pc, e, _⟩ := hp; exact ⟨pa, pc, e⟩
  simp only [prV]
  have Hv := Lib.hid hv
  have Hin := Lib.hid hin
  have Hp := Lib.hid hp
  have Hpi := Lib.hid hpi
  have Hpm := Lib.hid hpm
  clear hv hin hp hpi hpm
  go_enter Tryz.func8, Tryz.ntmps8
  have bel := Below.refl w.heap.size w
  have Hbel := Lib.hid bel
  clear bel
  go_wp2_with fail
  have bel := Hbel.out
  clear Hbel
  obtain ⟨w1, hw⟩ : ∃ z, w.alloc (.cells #[.int .i64 p.count, .int .i64 p.index, .int .i64 p.item.kind, .string ⟨p.item.id.toArray⟩, .string ⟨p.item.parent.toArray⟩, .string ⟨p.item.number.toArray⟩, .string ⟨p.item.north.toArray⟩, .string ⟨p.item.south.toArray⟩, .bool p.item.gone, .slice pa p.path.length pc] 29) = z := ⟨_, rfl⟩
  have c : Below w.heap.size w w1 := by rw [← hw]; exact (Below.refl _ _).alloc (Nat.le_refl _) _
  have mp : w1.heap[w.heap.size]? = some (.cells #[.int .i64 p.count, .int .i64 p.index, .int .i64 p.item.kind, .string ⟨p.item.id.toArray⟩, .string ⟨p.item.parent.toArray⟩, .string ⟨p.item.number.toArray⟩, .string ⟨p.item.north.toArray⟩, .string ⟨p.item.south.toArray⟩, .bool p.item.gone, .slice pa p.path.length pc] 29 (0, 0)) := by rw [← hw]; exact heap_alloc_at _ _
  rw [hw]
  clear hw
  replace bel := below_next bel c
  clear c
  obtain ⟨bp, hb⟩ : ∃ b, w.heap.size = b := ⟨_, rfl⟩
  rw [hb] at mp ⊢
  clear hb
  refine (head44_any _ (ht.below bel (Nat.le_refl _))).mono ?_
  rintro e w2 ⟨rfl, c⟩
  replace bel := below_next bel c
  replace mp := (c.block _ (Array.getElem?_eq_some_iff.1 mp).1).trans mp
  clear c
  have Hbel := Lib.hid bel
  have Hmp := Lib.hid mp
  clear bel mp
  go_wp2_with fail
  have bel := Hbel.out
  have mp := Hmp.out
  clear Hbel Hmp
  have htd := Hv.out.below bel (Nat.le_refl _)
  refine (short_any l 8 _ _ htd hl (by decide) (fun t h => (Hin.out t h).2) sb hsb).mono ?_
  rintro e w3 ⟨rfl, c⟩
  clear htd
  replace bel := below_next bel c
  replace mp := (c.block _ (Array.getElem?_eq_some_iff.1 mp).1).trans mp
  clear c
  cases sb
  · skip
    have Hbel := Lib.hid bel
    have Hmp := Lib.hid mp
    clear bel mp
    go_wp2_with fail
    have bel := Hbel.out
    have mp := Hmp.out
    clear Hbel Hmp
    go_ret
    exact ⟨rfl, bel⟩
  · skip
    have hl8 : l.length ≤ 8 := short_len hsb.out
    have Hr100 : Hid (∀ t ∈ l, t.root.length ≤ 100) := short_roots hsb.out
    have q_mp_0 := cell_of_heap (i := 0) mp
    have q_mp_1 := cell_of_heap (i := 1) mp
    have q_mp_2 := cell_of_heap (i := 2) mp
    have q_mp_3 := cell_of_heap (i := 3) mp
    have q_mp_4 := cell_of_heap (i := 4) mp
    have q_mp_5 := cell_of_heap (i := 5) mp
    have q_mp_6 := cell_of_heap (i := 6) mp
    have q_mp_7 := cell_of_heap (i := 7) mp
    have q_mp_8 := cell_of_heap (i := 8) mp
    have q_mp_9 := cell_of_heap (i := 9) mp
    have Hbel := Lib.hid bel
    have Hmp := Lib.hid mp
    clear bel mp
    go_wp2_with fail
    have bel := Hbel.out
    have mp := Hmp.out
    clear Hbel Hmp
    clear q_mp_0 q_mp_1 q_mp_2 q_mp_3 q_mp_4 q_mp_5 q_mp_6 q_mp_7 q_mp_8 q_mp_9
    refine (few44_any p _ _ (Hp.out.below bel (Nat.le_refl _)) Hpm.out.1 Hpm.out.2 fb hfb).mono ?_
    rintro e w4 ⟨rfl, c⟩
    replace bel := below_next bel c
    replace mp := (c.block _ (Array.getElem?_eq_some_iff.1 mp).1).trans mp
    clear c
    cases fb
    · skip
      have Hbel := Lib.hid bel
      have Hmp := Lib.hid mp
      clear bel mp
      go_wp2_with fail
      have bel := Hbel.out
      have mp := Hmp.out
      clear Hbel Hmp
      go_ret
      exact ⟨rfl, bel⟩
    · skip
      have hpo : PrOk p := prOk_few hfb.out Hpi.out
      have Hbel := Lib.hid bel
      have Hmp := Lib.hid mp
      clear bel mp
      go_wp2_with fail
      have bel := Hbel.out
      have mp := Hmp.out
      clear Hbel Hmp
      refine (sgn_any 0 0 [] false _ (ht.below bel (Nat.le_refl _)) (by decide) (by decide) (by decide) (by decide) (by decide) sig0 hsig0).mono ?_
      rintro e w5 ⟨za, zc, zp, zq, rfl, sz, c⟩
      replace bel := below_next bel c
      replace mp := (c.block _ (Array.getElem?_eq_some_iff.1 mp).1).trans mp
      clear c
      clear sz
      have Hbel := Lib.hid bel
      have Hmp := Lib.hid mp
      clear bel mp
      go_wp2_with fail
      have bel := Hbel.out
      have mp := Hmp.out
      clear Hbel Hmp
      obtain ⟨w6, hw⟩ : ∃ z, w5.alloc (.cells #[.int .i64 0, .slice za 18 zc, .slice zp 0 zq] 42) = z := ⟨_, rfl⟩
      have c : Below w5.heap.size w5 w6 := by rw [← hw]; exact (Below.refl _ _).alloc (Nat.le_refl _) _
      have mz : w6.heap[w5.heap.size]? = some (.cells #[.int .i64 0, .slice za 18 zc, .slice zp 0 zq] 42 (0, 0)) := by rw [← hw]; exact heap_alloc_at _ _
      rw [hw]
      clear hw
      replace bel := below_next bel c
      replace mp := (c.block _ (Array.getElem?_eq_some_iff.1 mp).1).trans mp
      clear c
      obtain ⟨bz, hb⟩ : ∃ b, w5.heap.size = b := ⟨_, rfl⟩
      rw [hb] at mz ⊢
      clear hb
      clear mz
      refine (newR_any offKey _).mono ?_
      rintro e w7 ⟨rfl, rd, c⟩
      obtain ⟨rb, hrb⟩ : ∃ r, w6.heap.size + 1 = r := ⟨_, rfl⟩
      have hrw : w.heap.size ≤ w6.heap.size := bel.size
      obtain ⟨rm, hrm⟩ : ∃ r, w6.heap.size = r := ⟨_, rfl⟩
      rw [hrb, hrm] at rd
      rw [hrm] at hrw 
      rw [hrb]
      clear hrb hrm
      replace bel := below_next bel c
      replace mp := (c.block _ (Array.getElem?_eq_some_iff.1 mp).1).trans mp
      clear c
      have hrm : rm < rb := rd.2.2.2
      have hrb : rb < w7.heap.size := (Array.getElem?_eq_some_iff.1 rd.1).1
      have Hbel := Lib.hid bel
      have Hmp := Lib.hid mp
      have Hrd := Lib.hid rd
      clear bel mp rd
      go_wp2_with fail
      have bel := Hbel.out
      have mp := Hmp.out
      have rd := Hrd.out
      clear Hbel Hmp Hrd
      have hrbb := hrb
      clear hrb
      refine (newR_any offKey _).mono ?_
      rintro e w8 ⟨rfl, rd2, c⟩
      obtain ⟨rb2, hrb⟩ : ∃ r, w7.heap.size + 1 = r := ⟨_, rfl⟩
      have hrw2 : w.heap.size ≤ w7.heap.size := bel.size
      obtain ⟨rm2, hrm⟩ : ∃ r, w7.heap.size = r := ⟨_, rfl⟩
      rw [hrb, hrm] at rd2
      rw [hrm] at hrw2 hrbb
      rw [hrb]
      clear hrb hrm
      replace bel := below_next bel c
      replace mp := (c.block _ (Array.getElem?_eq_some_iff.1 mp).1).trans mp
      replace rd := rd.below c
      clear c
      have hrm2 : rm2 < rb2 := rd2.2.2.2
      have Hbel := Lib.hid bel
      have Hmp := Lib.hid mp
      have Hrd := Lib.hid rd
      have Hrd2 := Lib.hid rd2
      clear bel mp rd rd2
      go_wp2_with fail
      have bel := Hbel.out
      have mp := Hmp.out
      have rd := Hrd.out
      have rd2 := Hrd2.out
      clear Hbel Hmp Hrd Hrd2
      go_loopw [10] (fun i wr => ∃ (k : Nat) (es es2 : Pf.Rd), k ≤ l.length ∧ i = .int .i64 (k : Int) ∧ OrS w bp rb rm rb2 rm2 (.cells #[.int .i64 p.count, .int .i64 p.index, .int .i64 p.item.kind, .string ⟨p.item.id.toArray⟩, .string ⟨p.item.parent.toArray⟩, .string ⟨p.item.number.toArray⟩, .string ⟨p.item.north.toArray⟩, .string ⟨p.item.south.toArray⟩, .bool p.item.gone, .slice pa p.path.length pc] 29 (0, 0)) l k es es2 wr) (fun i _ => l.length - (intOf i).toNat)
      case atStart => exact ⟨0, [], [], by omega, rfl, bel, mp, rd, rd2, TInv.nil (by simp), TInv.nil (by simp), by simp⟩
      case round =>
        clear bel mp rd rd2
        obtain ⟨k, es, es2, hk, rfl, bel, mp, rd, rd2, hi1, hi2, hel⟩ := hrel
        have Hi1 := Lib.hid hi1
        have Hi2 := Lib.hid hi2
        clear hi1 hi2
        have hkz : (0 : Int) ≤ (k : Int) := by omega
        by_cases hkl : k < l.length
        · skip
          obtain ⟨vb, off, rfl, hvb, htd⟩ := Hv.out.at hkl
          obtain ⟨j, hj⟩ : ∃ j, l.length - 1 - k = j := ⟨_, rfl⟩
          have hjl : j < l.length := by omega
          have hjk : l.length - k = j + 1 := by omega
          have Hjk := Lib.hid hjk
          clear hjk
          have hjI : (l.length : Int) - 1 - (k : Int) = (j : Int) := by omega
          clear hj
          obtain ⟨vb', off', e', _, htd2⟩ := Hv.out.at hjl
          cases e'
          obtain ⟨⟨i0, i1, i2, i3⟩, _⟩ := Hin.out _ (List.getElem_mem hkl)
          obtain ⟨⟨j0, j1, j2, j3⟩, _⟩ := Hin.out _ (List.getElem_mem hjl)
          have h100 := Hr100.out _ (List.getElem_mem hkl)
          have h100b := Hr100.out _ (List.getElem_mem hjl)
          obtain ⟨⟨day, cnt, root, wrong⟩, ht0⟩ : ∃ t, l[k] = t := ⟨_, rfl⟩
          obtain ⟨⟨day2, cnt2, root2, wrong2⟩, ht1⟩ : ∃ t, l[j] = t := ⟨_, rfl⟩
          rw [ht0] at htd i0 i1 i2 i3 h100
          rw [ht1] at htd2 j0 j1 j2 j3 h100b
          have Ht0 := Lib.hid ht0
          have Ht1 := Lib.hid ht1
          clear ht0 ht1
          simp only at i0 i1 i2 i3 h100 j0 j1 j2 j3 h100b
          have Htd := Lib.hid htd
          have Htd2 := Lib.hid htd2
          clear htd htd2
          have hkI : (k : Int) < (l.length : Int) := by omega
          have hjz : (0 : Int) ≤ (j : Int) := by omega
          have hjn : (j : Int) < (l.length : Int) := by omega
          obtain ⟨f0, f1, f2, f3⟩ := Htd.out.below bel hvb
          simp only at f0 f1 f2 f3
          have Hbel := Lib.hid bel
          have Hmp := Lib.hid mp
          have Hrd := Lib.hid rd
          have Hrd2 := Lib.hid rd2
          clear bel mp rd rd2
          go_wp2_with fail
          have bel := Hbel.out
          have mp := Hmp.out
          have rd := Hrd.out
          have rd2 := Hrd2.out
          clear Hbel Hmp Hrd Hrd2
          clear f0 f1 f2 f3
          obtain ⟨sig, hsig⟩ : ∃ sig, Hid (sgL wrong day cnt root = sig) := ⟨_, rfl⟩
          refine (sgn_any day cnt root wrong _ (ht.below bel (Nat.le_refl _)) i0 i1 i2 i3 h100 sig hsig).mono ?_
          rintro e w9 ⟨sa, sc, sp, sq, rfl, sg, c⟩
          replace bel := below_next bel c
          replace mp := (c.block _ (Array.getElem?_eq_some_iff.1 mp).1).trans mp
          replace rd := rd.below c
          replace rd2 := rd2.below c
          clear c
          have Hbel := Lib.hid bel
          have Hmp := Lib.hid mp
          have Hrd := Lib.hid rd
          have Hrd2 := Lib.hid rd2
          have Hsg := Lib.hid sg
          clear bel mp rd rd2 sg
          go_wp2_with fail
          have bel := Hbel.out
          have mp := Hmp.out
          have rd := Hrd.out
          have rd2 := Hrd2.out
          have sg := Hsg.out
          clear Hbel Hmp Hrd Hrd2 Hsg
          obtain ⟨w10, hw⟩ : ∃ z, w9.alloc (.cells #[.int .i64 0, .slice sa 18 sc, .slice sp 0 sq] 42) = z := ⟨_, rfl⟩
          have c : Below w9.heap.size w9 w10 := by rw [← hw]; exact (Below.refl _ _).alloc (Nat.le_refl _) _
          have ms : w10.heap[w9.heap.size]? = some (.cells #[.int .i64 0, .slice sa 18 sc, .slice sp 0 sq] 42 (0, 0)) := by rw [← hw]; exact heap_alloc_at _ _
          rw [hw]
          clear hw
          replace bel := below_next bel c
          replace mp := (c.block _ (Array.getElem?_eq_some_iff.1 mp).1).trans mp
          replace rd := rd.below c
          replace rd2 := rd2.below c
          replace sg := sg.below c (Nat.le_refl _)
          clear c
          obtain ⟨bs, hb⟩ : ∃ b, w9.heap.size = b := ⟨_, rfl⟩
          rw [hb] at ms ⊢
          clear hb
          obtain ⟨⟨en, er⟩, hlr⟩ : ∃ r, Hid (Pf.learnL offKey es day cnt root sig = r) := ⟨_, rfl⟩
          obtain ⟨f0, f1, f2, f3⟩ := Htd.out.below bel hvb
          simp only at f0 f1 f2 f3
          have hS0 : (fun Y => Y.cell? ⟨vb, off + k * 4, none⟩ = some (.int .i64 day) ∧ Y.cell? ⟨vb, off + k * 4 + 1, none⟩ = some (.int .i64 cnt) ∧ Y.cell? ⟨vb, off + k * 4 + 2, none⟩ = some (.string ⟨root.toArray⟩) ∧ Y.cell? ⟨bs, 0, none⟩ = some (.int .i64 0) ∧ Y.cell? ⟨bs, 1, none⟩ = some (.slice sa 18 sc) ∧ Y.cell? ⟨bs, 2, none⟩ = some (.slice sp 0 sq)) w10 := ⟨f0, f1, f2, cell_of_heap ms, cell_of_heap ms, cell_of_heap ms⟩
          clear f0 f1 f2 f3
          have hS1 : (fun Y => Y.cell? ⟨vb, off + k * 4, none⟩ = some (.int .i64 day) ∧ Y.cell? ⟨vb, off + k * 4 + 1, none⟩ = some (.int .i64 cnt) ∧ Y.cell? ⟨vb, off + k * 4 + 2, none⟩ = some (.string ⟨root.toArray⟩) ∧ Y.cell? ⟨bs, 0, none⟩ = some (.int .i64 0) ∧ Y.cell? ⟨bs, 1, none⟩ = some (.slice sa 18 sc) ∧ Y.cell? ⟨bs, 2, none⟩ = some (.slice sp 0 sq)) w10.drew := ⟨hS0.1, hS0.2.1, hS0.2.2.1, hS0.2.2.2.1, hS0.2.2.2.2.1, hS0.2.2.2.2.2⟩
          have CL : Hid (∀ A, (A = w10 ∨ A = w10.drew) → Calls Tryz.prog 24 #[.pointer (some ⟨rb, 0, none⟩), .int .i64 day, .int .i64 cnt, .string ⟨root.toArray⟩, .agg #[.int .i64 0, .slice sa 18 sc, .slice sp 0 sq]] A fun e w' => e = .returned (.int .i64 er) ∧ (fun Y => Y.cell? ⟨vb, off + k * 4, none⟩ = some (.int .i64 day) ∧ Y.cell? ⟨vb, off + k * 4 + 1, none⟩ = some (.int .i64 cnt) ∧ Y.cell? ⟨vb, off + k * 4 + 2, none⟩ = some (.string ⟨root.toArray⟩) ∧ Y.cell? ⟨bs, 0, none⟩ = some (.int .i64 0) ∧ Y.cell? ⟨bs, 1, none⟩ = some (.slice sa 18 sc) ∧ Y.cell? ⟨bs, 2, none⟩ = some (.slice sp 0 sq)) w' ∧ Lrn w10 rb rm (k + 1) en w') := by
            intro A hA
            have hb : Below w10.heap.size w10 A := by rcases hA with rfl | rfl; exact Below.refl _ _; exact (Below.refl _ _).drew
            refine (learn_any offKey root day cnt sig _ rb rm k es _ (ht.below (below_next bel hb) (Nat.le_refl _)) (rd.below hb) ⟨sa, sc, sp, sq, rfl, sg.below hb (Nat.le_refl _)⟩ (by rw [← hsig.out]; exact sigOk _ _) i0 i1 i2 i3 (by omega) (by omega) (en, er) hlr).mono ?_
            rintro e w' ⟨rfl, h2, h3⟩
            have h4 := gtrans (grown_none' hb) h3
            have mm := rd.2.1
            exact ⟨rfl, ⟨map_cell mm h4 hS0.1, map_cell mm h4 hS0.2.1, map_cell mm h4 hS0.2.2.1, map_cell mm h4 hS0.2.2.2.1, map_cell mm h4 hS0.2.2.2.2.1, map_cell mm h4 hS0.2.2.2.2.2⟩, h2, h4⟩
          try simp only at hS0 hS1
          by_cases her : er = 23
          · skip
            subst her
            have Hbel := Lib.hid bel
            have Hmp := Lib.hid mp
            have Hrd := Lib.hid rd
            have Hrd2 := Lib.hid rd2
            have Hsg := Lib.hid sg
            have Hms := Lib.hid ms
            clear bel mp rd rd2 sg ms
            go_region_held3 (fun Y => Y.cell? ⟨vb, off + k * 4, none⟩ = some (.int .i64 day) ∧ Y.cell? ⟨vb, off + k * 4 + 1, none⟩ = some (.int .i64 cnt) ∧ Y.cell? ⟨vb, off + k * 4 + 2, none⟩ = some (.string ⟨root.toArray⟩) ∧ Y.cell? ⟨bs, 0, none⟩ = some (.int .i64 0) ∧ Y.cell? ⟨bs, 1, none⟩ = some (.slice sa 18 sc) ∧ Y.cell? ⟨bs, 2, none⟩ = some (.slice sp 0 sq)) (first | exact hS0 | exact hS1 | assumption) (first | (go_at_call 24; (with_reducible refine (CL.out _ (by first | exact .inl rfl | exact .inr rfl)).mono ?_); rintro e z ⟨rfl, hSb, hLb⟩; try simp only at hSb))
            have bel := Hbel.out
            have mp := Hmp.out
            have rd := Hrd.out
            have rd2 := Hrd2.out
            have sg := Hsg.out
            have ms := Hms.out
            clear Hbel Hmp Hrd Hrd2 Hsg Hms
            have g := hLb.2
            have mm := rd.2.1
            have rdn := hLb.1
            replace bel := bel.grown g bel.size (fun k e => by injection e with e; omega)
            replace mp := map_heap mm g mp
            replace rd2 := rd2.kept g (by intro e; injection e with e; omega) (by intro e; injection e with e; omega)
            replace sg := sg.grown mm g
            replace ms := map_heap mm g ms
            clear g mm
            clear rd
            have rd := rdn
            clear rdn hLb hSb hS0 hS1 CL
            have Hbel := Lib.hid bel
            have Hmp := Lib.hid mp
            have Hrd := Lib.hid rd
            have Hrd2 := Lib.hid rd2
            have Hsg := Lib.hid sg
            have Hms := Lib.hid ms
            clear bel mp rd rd2 sg ms
            go_wp2_with fail
            have bel := Hbel.out
            have mp := Hmp.out
            have rd := Hrd.out
            have rd2 := Hrd2.out
            have sg := Hsg.out
            have ms := Hms.out
            clear Hbel Hmp Hrd Hrd2 Hsg Hms
            go_ret
            exact ⟨rfl, bel⟩
          · skip
            have herb : (er == 23) = false := by simpa using her
            have Hn1 : Hid (TInv en (fun s => s ∈ l.take k ∨ s = ⟨day, cnt, root, wrong⟩)) := Hi1.out.step (t := ⟨day, cnt, root, wrong⟩) (by rw [hsig.out]; exact hlr.out) her
            have Her := Lib.hid her
            clear her
            have Hbel := Lib.hid bel
            have Hmp := Lib.hid mp
            have Hrd := Lib.hid rd
            have Hrd2 := Lib.hid rd2
            have Hsg := Lib.hid sg
            have Hms := Lib.hid ms
            clear bel mp rd rd2 sg ms
            go_region_held3 (fun Y => Y.cell? ⟨vb, off + k * 4, none⟩ = some (.int .i64 day) ∧ Y.cell? ⟨vb, off + k * 4 + 1, none⟩ = some (.int .i64 cnt) ∧ Y.cell? ⟨vb, off + k * 4 + 2, none⟩ = some (.string ⟨root.toArray⟩) ∧ Y.cell? ⟨bs, 0, none⟩ = some (.int .i64 0) ∧ Y.cell? ⟨bs, 1, none⟩ = some (.slice sa 18 sc) ∧ Y.cell? ⟨bs, 2, none⟩ = some (.slice sp 0 sq)) (first | exact hS0 | exact hS1 | assumption) (first | (go_at_call 24; (with_reducible refine (CL.out _ (by first | exact .inl rfl | exact .inr rfl)).mono ?_); rintro e z ⟨rfl, hSb, hLb⟩; try simp only at hSb))
            have bel := Hbel.out
            have mp := Hmp.out
            have rd := Hrd.out
            have rd2 := Hrd2.out
            have sg := Hsg.out
            have ms := Hms.out
            clear Hbel Hmp Hrd Hrd2 Hsg Hms
            have g := hLb.2
            have mm := rd.2.1
            have rdn := hLb.1
            replace bel := bel.grown g bel.size (fun k e => by injection e with e; omega)
            replace mp := map_heap mm g mp
            replace rd2 := rd2.kept g (by intro e; injection e with e; omega) (by intro e; injection e with e; omega)
            replace sg := sg.grown mm g
            replace ms := map_heap mm g ms
            clear g mm
            clear rd
            have rd := rdn
            clear rdn hLb hSb hS0 hS1 CL
            clear herb
            clear ms sg
            obtain ⟨f0, f1, f2, f3⟩ := Htd2.out.below bel hvb
            simp only at f0 f1 f2 f3
            have Hbel := Lib.hid bel
            have Hmp := Lib.hid mp
            have Hrd := Lib.hid rd
            have Hrd2 := Lib.hid rd2
            clear bel mp rd rd2
            go_wp2_with fail
            have bel := Hbel.out
            have mp := Hmp.out
            have rd := Hrd.out
            have rd2 := Hrd2.out
            clear Hbel Hmp Hrd Hrd2
            clear f0 f1 f2 f3
            obtain ⟨sig2, hsig2⟩ : ∃ sig, Hid (sgL wrong2 day2 cnt2 root2 = sig) := ⟨_, rfl⟩
            refine (sgn_any day2 cnt2 root2 wrong2 _ (ht.below bel (Nat.le_refl _)) j0 j1 j2 j3 h100b sig2 hsig2).mono ?_
            rintro e w11 ⟨ta, tc, tp, tq, rfl, tg, c⟩
            replace bel := below_next bel c
            replace mp := (c.block _ (Array.getElem?_eq_some_iff.1 mp).1).trans mp
            replace rd := rd.below c
            replace rd2 := rd2.below c
            clear c
            have Hbel := Lib.hid bel
            have Hmp := Lib.hid mp
            have Hrd := Lib.hid rd
            have Hrd2 := Lib.hid rd2
            have Htg := Lib.hid tg
            clear bel mp rd rd2 tg
            go_wp2_with fail
            have bel := Hbel.out
            have mp := Hmp.out
            have rd := Hrd.out
            have rd2 := Hrd2.out
            have tg := Htg.out
            clear Hbel Hmp Hrd Hrd2 Htg
            obtain ⟨w12, hw⟩ : ∃ z, w11.alloc (.cells #[.int .i64 0, .slice ta 18 tc, .slice tp 0 tq] 42) = z := ⟨_, rfl⟩
            have c : Below w11.heap.size w11 w12 := by rw [← hw]; exact (Below.refl _ _).alloc (Nat.le_refl _) _
            have mt : w12.heap[w11.heap.size]? = some (.cells #[.int .i64 0, .slice ta 18 tc, .slice tp 0 tq] 42 (0, 0)) := by rw [← hw]; exact heap_alloc_at _ _
            rw [hw]
            clear hw
            replace bel := below_next bel c
            replace mp := (c.block _ (Array.getElem?_eq_some_iff.1 mp).1).trans mp
            replace rd := rd.below c
            replace rd2 := rd2.below c
            replace tg := tg.below c (Nat.le_refl _)
            clear c
            obtain ⟨bt, hb⟩ : ∃ b, w11.heap.size = b := ⟨_, rfl⟩
            rw [hb] at mt ⊢
            clear hb
            obtain ⟨⟨en2, er2⟩, hlr2⟩ : ∃ r, Hid (Pf.learnL offKey es2 day2 cnt2 root2 sig2 = r) := ⟨_, rfl⟩
            obtain ⟨f0, f1, f2, f3⟩ := Htd2.out.below bel hvb
            simp only at f0 f1 f2 f3
            have hS0 : (fun Y => Y.cell? ⟨vb, off + j * 4, none⟩ = some (.int .i64 day2) ∧ Y.cell? ⟨vb, off + j * 4 + 1, none⟩ = some (.int .i64 cnt2) ∧ Y.cell? ⟨vb, off + j * 4 + 2, none⟩ = some (.string ⟨root2.toArray⟩) ∧ Y.cell? ⟨bt, 0, none⟩ = some (.int .i64 0) ∧ Y.cell? ⟨bt, 1, none⟩ = some (.slice ta 18 tc) ∧ Y.cell? ⟨bt, 2, none⟩ = some (.slice tp 0 tq)) w12 := ⟨f0, f1, f2, cell_of_heap mt, cell_of_heap mt, cell_of_heap mt⟩
            clear f0 f1 f2 f3
            have hS1 : (fun Y => Y.cell? ⟨vb, off + j * 4, none⟩ = some (.int .i64 day2) ∧ Y.cell? ⟨vb, off + j * 4 + 1, none⟩ = some (.int .i64 cnt2) ∧ Y.cell? ⟨vb, off + j * 4 + 2, none⟩ = some (.string ⟨root2.toArray⟩) ∧ Y.cell? ⟨bt, 0, none⟩ = some (.int .i64 0) ∧ Y.cell? ⟨bt, 1, none⟩ = some (.slice ta 18 tc) ∧ Y.cell? ⟨bt, 2, none⟩ = some (.slice tp 0 tq)) w12.drew := ⟨hS0.1, hS0.2.1, hS0.2.2.1, hS0.2.2.2.1, hS0.2.2.2.2.1, hS0.2.2.2.2.2⟩
            have CL : Hid (∀ A, (A = w12 ∨ A = w12.drew) → Calls Tryz.prog 24 #[.pointer (some ⟨rb2, 0, none⟩), .int .i64 day2, .int .i64 cnt2, .string ⟨root2.toArray⟩, .agg #[.int .i64 0, .slice ta 18 tc, .slice tp 0 tq]] A fun e w' => e = .returned (.int .i64 er2) ∧ (fun Y => Y.cell? ⟨vb, off + j * 4, none⟩ = some (.int .i64 day2) ∧ Y.cell? ⟨vb, off + j * 4 + 1, none⟩ = some (.int .i64 cnt2) ∧ Y.cell? ⟨vb, off + j * 4 + 2, none⟩ = some (.string ⟨root2.toArray⟩) ∧ Y.cell? ⟨bt, 0, none⟩ = some (.int .i64 0) ∧ Y.cell? ⟨bt, 1, none⟩ = some (.slice ta 18 tc) ∧ Y.cell? ⟨bt, 2, none⟩ = some (.slice tp 0 tq)) w' ∧ Lrn w12 rb2 rm2 (k + 1) en2 w') := by
              intro A hA
              have hb : Below w12.heap.size w12 A := by rcases hA with rfl | rfl; exact Below.refl _ _; exact (Below.refl _ _).drew
              refine (learn_any offKey root2 day2 cnt2 sig2 _ rb2 rm2 k es2 _ (ht.below (below_next bel hb) (Nat.le_refl _)) (rd2.below hb) ⟨ta, tc, tp, tq, rfl, tg.below hb (Nat.le_refl _)⟩ (by rw [← hsig2.out]; exact sigOk _ _) j0 j1 j2 j3 (by omega) (by omega) (en2, er2) hlr2).mono ?_
              rintro e w' ⟨rfl, h2, h3⟩
              have h4 := gtrans (grown_none' hb) h3
              have mm := rd2.2.1
              exact ⟨rfl, ⟨map_cell mm h4 hS0.1, map_cell mm h4 hS0.2.1, map_cell mm h4 hS0.2.2.1, map_cell mm h4 hS0.2.2.2.1, map_cell mm h4 hS0.2.2.2.2.1, map_cell mm h4 hS0.2.2.2.2.2⟩, h2, h4⟩
            try simp only at hS0 hS1
            by_cases her : er2 = 23
            · skip
              subst her
              have Hbel := Lib.hid bel
              have Hmp := Lib.hid mp
              have Hrd := Lib.hid rd
              have Hrd2 := Lib.hid rd2
              have Htg := Lib.hid tg
              have Hmt := Lib.hid mt
              clear bel mp rd rd2 tg mt
              go_region_held3 (fun Y => Y.cell? ⟨vb, off + j * 4, none⟩ = some (.int .i64 day2) ∧ Y.cell? ⟨vb, off + j * 4 + 1, none⟩ = some (.int .i64 cnt2) ∧ Y.cell? ⟨vb, off + j * 4 + 2, none⟩ = some (.string ⟨root2.toArray⟩) ∧ Y.cell? ⟨bt, 0, none⟩ = some (.int .i64 0) ∧ Y.cell? ⟨bt, 1, none⟩ = some (.slice ta 18 tc) ∧ Y.cell? ⟨bt, 2, none⟩ = some (.slice tp 0 tq)) (first | exact hS0 | exact hS1 | assumption) (first | (go_at_call 24; (with_reducible refine (CL.out _ (by first | exact .inl rfl | exact .inr rfl)).mono ?_); rintro e z2 ⟨rfl, hSb, hLb⟩; try simp only at hSb))
              have bel := Hbel.out
              have mp := Hmp.out
              have rd := Hrd.out
              have rd2 := Hrd2.out
              have tg := Htg.out
              have mt := Hmt.out
              clear Hbel Hmp Hrd Hrd2 Htg Hmt
              have g := hLb.2
              have mm := rd2.2.1
              have rdn := hLb.1
              replace bel := bel.grown g bel.size (fun k e => by injection e with e; omega)
              replace mp := map_heap mm g mp
              replace rd := rd.kept g (by intro e; injection e with e; omega) (by intro e; injection e with e; omega)
              replace tg := tg.grown mm g
              replace mt := map_heap mm g mt
              clear g mm
              clear rd2
              have rd2 := rdn
              clear rdn hLb hSb hS0 hS1 CL
              have Hbel := Lib.hid bel
              have Hmp := Lib.hid mp
              have Hrd := Lib.hid rd
              have Hrd2 := Lib.hid rd2
              have Htg := Lib.hid tg
              have Hmt := Lib.hid mt
              clear bel mp rd rd2 tg mt
              go_wp2_with fail
              have bel := Hbel.out
              have mp := Hmp.out
              have rd := Hrd.out
              have rd2 := Hrd2.out
              have tg := Htg.out
              have mt := Hmt.out
              clear Hbel Hmp Hrd Hrd2 Htg Hmt
              go_ret
              exact ⟨rfl, bel⟩
            · skip
              have herb : (er2 == 23) = false := by simpa using her
              have Hn2 : Hid (TInv en2 (fun s => s ∈ l.drop (l.length - k) ∨ s = ⟨day2, cnt2, root2, wrong2⟩)) := Hi2.out.step (t := ⟨day2, cnt2, root2, wrong2⟩) (by rw [hsig2.out]; exact hlr2.out) her
              have Her2 := Lib.hid her
              clear her
              have Hbel := Lib.hid bel
              have Hmp := Lib.hid mp
              have Hrd := Lib.hid rd
              have Hrd2 := Lib.hid rd2
              have Htg := Lib.hid tg
              have Hmt := Lib.hid mt
              clear bel mp rd rd2 tg mt
              go_region_held3 (fun Y => Y.cell? ⟨vb, off + j * 4, none⟩ = some (.int .i64 day2) ∧ Y.cell? ⟨vb, off + j * 4 + 1, none⟩ = some (.int .i64 cnt2) ∧ Y.cell? ⟨vb, off + j * 4 + 2, none⟩ = some (.string ⟨root2.toArray⟩) ∧ Y.cell? ⟨bt, 0, none⟩ = some (.int .i64 0) ∧ Y.cell? ⟨bt, 1, none⟩ = some (.slice ta 18 tc) ∧ Y.cell? ⟨bt, 2, none⟩ = some (.slice tp 0 tq)) (first | exact hS0 | exact hS1 | assumption) (first | (go_at_call 24; (with_reducible refine (CL.out _ (by first | exact .inl rfl | exact .inr rfl)).mono ?_); rintro e z2 ⟨rfl, hSb, hLb⟩; try simp only at hSb))
              have bel := Hbel.out
              have mp := Hmp.out
              have rd := Hrd.out
              have rd2 := Hrd2.out
              have tg := Htg.out
              have mt := Hmt.out
              clear Hbel Hmp Hrd Hrd2 Htg Hmt
              have g := hLb.2
              have mm := rd2.2.1
              have rdn := hLb.1
              replace bel := bel.grown g bel.size (fun k e => by injection e with e; omega)
              replace mp := map_heap mm g mp
              replace rd := rd.kept g (by intro e; injection e with e; omega) (by intro e; injection e with e; omega)
              replace tg := tg.grown mm g
              replace mt := map_heap mm g mt
              clear g mm
              clear rd2
              have rd2 := rdn
              clear rdn hLb hSb hS0 hS1 CL
              clear herb
              have Hle : Hid (en.length ≤ k + 1) := by have h1 := Pf.learnL_le offKey es day cnt root sig; rw [hlr.out] at h1; exact Nat.le_trans h1 (by omega)
              have Hm1 : Hid (TInv en (· ∈ l.take (k + 1))) := Hn1.out.congr (fun s => by rw [List.take_succ_eq_append_getElem hkl, Ht0.out]; simp)
              have Hm2 : Hid (TInv en2 (· ∈ l.drop (l.length - (k + 1)))) := Hn2.out.congr (fun s => by rw [show l.length - (k + 1) = j by have := Hjk.out; omega, List.drop_eq_getElem_cons hjl, Ht1.out, Hjk.out, List.mem_cons]; exact or_comm)
              clear mt tg
              have Hbel := Lib.hid bel
              have Hmp := Lib.hid mp
              have Hrd := Lib.hid rd
              have Hrd2 := Lib.hid rd2
              clear bel mp rd rd2
              go_wp2_with fail
              have bel := Hbel.out
              have mp := Hmp.out
              have rd := Hrd.out
              have rd2 := Hrd2.out
              clear Hbel Hmp Hrd Hrd2
              go_roundw
              case rel => exact ⟨k + 1, en, en2, by omega, by go_num, bel, mp, rd, rd2, Hm1.out, Hm2.out, Hle.out⟩
              case measure => simp [intOf]; omega
        · skip
          obtain rfl : k = l.length := by omega
          have Hsame : Hid (∀ d, Pf.findL es d = Pf.findL es2 d) := TInv.same (P := (· ∈ l)) (Hi1.out.congr (fun s => by rw [List.take_length])) (Hi2.out.congr (fun s => by rw [Nat.sub_self, List.drop_zero]))
          have Hbd : Hid (∀ d ∈ Pf.daysL es, 0 ≤ d ∧ d ≤ 1000000) := days_bound Hi1.out
          have Hdd : Hid (Pf.daysL es2 = Pf.daysL es) := (days_same rd.2.2.1 rd2.2.2.1 Hsame.out).symm
          have Hlt := Lib.hid (days_lt rd.2.2.1)
          have Hbel := Lib.hid bel
          have Hmp := Lib.hid mp
          have Hrd := Lib.hid rd
          have Hrd2 := Lib.hid rd2
          clear bel mp rd rd2
          go_wp2_with fail
          have bel := Hbel.out
          have mp := Hmp.out
          have rd := Hrd.out
          have rd2 := Hrd2.out
          clear Hbel Hmp Hrd Hrd2
          refine (days_any offKey rb rm l.length es _ rd (by omega)).mono ?_
          rintro e w9 ⟨dvv, rfl, dv, c⟩
          replace bel := below_next bel c
          replace mp := (c.block _ (Array.getElem?_eq_some_iff.1 mp).1).trans mp
          replace rd := rd.below c
          replace rd2 := rd2.below c
          clear c
          obtain ⟨da, dc, rfl⟩ := dv.shape
          have Hbel := Lib.hid bel
          have Hmp := Lib.hid mp
          have Hrd := Lib.hid rd
          have Hrd2 := Lib.hid rd2
          have Hdv := Lib.hid dv
          clear bel mp rd rd2 dv
          go_wp2_with fail
          have bel := Hbel.out
          have mp := Hmp.out
          have rd := Hrd.out
          have rd2 := Hrd2.out
          have dv := Hdv.out
          clear Hbel Hmp Hrd Hrd2 Hdv
          refine (days_any offKey rb2 rm2 l.length es2 _ rd2 (by omega)).mono ?_
          rintro e w10 ⟨dwv, rfl, dw, c⟩
          replace bel := below_next bel c
          replace mp := (c.block _ (Array.getElem?_eq_some_iff.1 mp).1).trans mp
          replace rd := rd.below c
          replace rd2 := rd2.below c
          replace dv := dv.below c
          clear c
          rw [Hdd.out] at dw
          obtain ⟨ea, ec, rfl⟩ := dw.shape
          obtain ⟨ds, hds⟩ : ∃ x, Pf.daysL es = x := ⟨_, rfl⟩
          rw [hds] at dv dw Hlt Hbd ⊢
          have Hds := Lib.hid hds
          clear hds
          have hv1 := OwnI.has dv
          have hv2 := OwnI.has dw
          have hdl : ds.length ≤ 1000000 := by rw [← Hds.out, days_len]; omega
          clear dv dw
          have Hbel := Lib.hid bel
          have Hmp := Lib.hid mp
          have Hrd := Lib.hid rd
          have Hrd2 := Lib.hid rd2
          have Hhv1 := Lib.hid hv1
          have Hhv2 := Lib.hid hv2
          clear bel mp rd rd2 hv1 hv2
          go_wp2_with fail
          have bel := Hbel.out
          have mp := Hmp.out
          have rd := Hrd.out
          have rd2 := Hrd2.out
          have hv1 := Hhv1.out
          have hv2 := Hhv2.out
          clear Hbel Hmp Hrd Hrd2 Hhv1 Hhv2
          refine (ints_below ds _ _ _ hv1 hv2 (by omega)).mono ?_
          rintro e w11 ⟨rfl, c⟩
          replace bel := below_next bel c
          replace mp := (c.block _ (Array.getElem?_eq_some_iff.1 mp).1).trans mp
          replace rd := rd.below c
          replace rd2 := rd2.below c
          replace hv1 := hv1.below c (Nat.le_refl _)
          replace hv2 := hv2.below c (Nat.le_refl _)
          clear c
          clear hv2
          have Hbel := Lib.hid bel
          have Hmp := Lib.hid mp
          have Hrd := Lib.hid rd
          have Hrd2 := Lib.hid rd2
          have Hhv1 := Lib.hid hv1
          clear bel mp rd rd2 hv1
          go_wp2_with fail
          have bel := Hbel.out
          have mp := Hmp.out
          have rd := Hrd.out
          have rd2 := Hrd2.out
          have hv1 := Hhv1.out
          clear Hbel Hmp Hrd Hrd2 Hhv1
          go_loopw [17] (fun i wr => ∃ j : Nat, j ≤ ds.length ∧ i = .int .i64 (j : Int) ∧ OrD w bp rb rm rb2 rm2 (.cells #[.int .i64 p.count, .int .i64 p.index, .int .i64 p.item.kind, .string ⟨p.item.id.toArray⟩, .string ⟨p.item.parent.toArray⟩, .string ⟨p.item.number.toArray⟩, .string ⟨p.item.north.toArray⟩, .string ⟨p.item.south.toArray⟩, .bool p.item.gone, .slice pa p.path.length pc] 29 (0, 0)) l.length es es2 (.slice da ds.length dc) ds wr) (fun i _ => ds.length - (intOf i).toNat)
          case atStart => exact ⟨0, by omega, rfl, bel, mp, rd, rd2, hv1⟩
          case round =>
            clear bel mp rd rd2 hv1
            obtain ⟨j, hj, rfl, bel, mp, rd, rd2, hv1⟩ := hrel
            have hjz : (0 : Int) ≤ (j : Int) := by omega
            by_cases hjl : j < ds.length
            · skip
              obtain ⟨db, doff, rfl, hdb, hcd⟩ := hv1.at (show 0 < ds.length by omega)
              have hcj := hcd j hjl
              have Hbj := Hbd.out _ (getD_mem hjl)
              obtain ⟨hb0, hb1⟩ := Hbj
              have hjI : (j : Int) < (ds.length : Int) := by omega
              by_cases hj0 : 0 < j
              · skip
                have hcp := hcd (j - 1) (by omega)
                have hlt := Hlt.out j hj0 hjl
                have hwr1 : IntKind.i64.wrap ((j : Int) - 1) = ((j - 1 : Nat) : Int) := by rw [show (j : Int) - 1 = ((j - 1 : Nat) : Int) by omega]; exact IntWalk.i64_in _ (by omega)
                have hp0 : (0 : Int) ≤ ((j - 1 : Nat) : Int) := by omega
                have hp1 : ((j - 1 : Nat) : Int) < (ds.length : Int) := by omega
                generalize ds.getD (j - 1) 0 = dq at hcp hlt
                generalize hj1 : j - 1 = jp at hcp hwr1 hp0 hp1
                clear hj1
                generalize ds.getD j 0 = dd at hcj hb0 hb1 hlt
                have hle : decide (dd ≤ dq) = false := decide_eq_false (by omega)
                have hgt : decide (0 < j) = true := decide_eq_true hj0
                have hdb2 : db < wr.heap.size := hdb
                have hbp2 : bp < wr.heap.size := (Array.getElem?_eq_some_iff.1 mp).1
                have SB : Hid (∀ Y, Below wr.heap.size wr Y → (fun Y => Y.cell? ⟨db, doff + j, none⟩ = some (.int .i64 dd) ∧ Y.cell? ⟨db, doff + jp, none⟩ = some (.int .i64 dq) ∧ Y.cell? ⟨bp, 0, none⟩ = some (.int .i64 p.count) ∧ Y.cell? ⟨bp, 1, none⟩ = some (.int .i64 p.index) ∧ Y.cell? ⟨bp, 2, none⟩ = some (.int .i64 p.item.kind) ∧ Y.cell? ⟨bp, 3, none⟩ = some (.string ⟨p.item.id.toArray⟩) ∧ Y.cell? ⟨bp, 4, none⟩ = some (.string ⟨p.item.parent.toArray⟩) ∧ Y.cell? ⟨bp, 5, none⟩ = some (.string ⟨p.item.number.toArray⟩) ∧ Y.cell? ⟨bp, 6, none⟩ = some (.string ⟨p.item.north.toArray⟩) ∧ Y.cell? ⟨bp, 7, none⟩ = some (.string ⟨p.item.south.toArray⟩) ∧ Y.cell? ⟨bp, 8, none⟩ = some (.bool p.item.gone) ∧ Y.cell? ⟨bp, 9, none⟩ = some (.slice pa p.path.length pc) ∧ Below wr.heap.size wr Y) Y) := fun Y hb => ⟨(hb.cell (p := ⟨db, doff + j, none⟩) hdb2).trans hcj, (hb.cell (p := ⟨db, doff + jp, none⟩) hdb2).trans hcp, (hb.cell (p := ⟨bp, 0, none⟩) hbp2).trans (cell_of_heap mp), (hb.cell (p := ⟨bp, 1, none⟩) hbp2).trans (cell_of_heap mp), (hb.cell (p := ⟨bp, 2, none⟩) hbp2).trans (cell_of_heap mp), (hb.cell (p := ⟨bp, 3, none⟩) hbp2).trans (cell_of_heap mp), (hb.cell (p := ⟨bp, 4, none⟩) hbp2).trans (cell_of_heap mp), (hb.cell (p := ⟨bp, 5, none⟩) hbp2).trans (cell_of_heap mp), (hb.cell (p := ⟨bp, 6, none⟩) hbp2).trans (cell_of_heap mp), (hb.cell (p := ⟨bp, 7, none⟩) hbp2).trans (cell_of_heap mp), (hb.cell (p := ⟨bp, 8, none⟩) hbp2).trans (cell_of_heap mp), (hb.cell (p := ⟨bp, 9, none⟩) hbp2).trans (cell_of_heap mp), hb⟩
                obtain ⟨r, hr⟩ : ∃ r, Hid (Pf.wasL es dd p = r) := ⟨_, rfl⟩
                have Hr2 : Hid (Pf.wasL es2 dd p = r) := by unfold Hid; rw [← hr.out]; unfold Pf.wasL; rw [Hsame.out]
                have CW : Hid (∀ A, Below wr.heap.size wr A → Calls Tryz.prog 26 #[.pointer (some ⟨rb, 0, none⟩), .int .i64 dd, .agg #[.int .i64 p.count, .int .i64 p.index, .int .i64 p.item.kind, .string ⟨p.item.id.toArray⟩, .string ⟨p.item.parent.toArray⟩, .string ⟨p.item.number.toArray⟩, .string ⟨p.item.north.toArray⟩, .string ⟨p.item.south.toArray⟩, .bool p.item.gone, .slice pa p.path.length pc]] A fun e w' => e = .returned (.int .i64 r) ∧ Below wr.heap.size wr w') := fun A hA => (was_any offKey dd p _ rb rm _ es _ (ht.below (below_next bel hA) (Nat.le_refl _)) (rd.below hA) (Hp.out.below (below_next bel hA) (Nat.le_refl _)) hpo (by omega) (by omega) r hr).mono fun e w' ⟨h1, h2⟩ => ⟨h1, below_next hA h2⟩
                have CW2 : Hid (∀ A, Below wr.heap.size wr A → Calls Tryz.prog 26 #[.pointer (some ⟨rb2, 0, none⟩), .int .i64 dd, .agg #[.int .i64 p.count, .int .i64 p.index, .int .i64 p.item.kind, .string ⟨p.item.id.toArray⟩, .string ⟨p.item.parent.toArray⟩, .string ⟨p.item.number.toArray⟩, .string ⟨p.item.north.toArray⟩, .string ⟨p.item.south.toArray⟩, .bool p.item.gone, .slice pa p.path.length pc]] A fun e w' => e = .returned (.int .i64 r) ∧ Below wr.heap.size wr w') := fun A hA => (was_any offKey dd p _ rb2 rm2 _ es2 _ (ht.below (below_next bel hA) (Nat.le_refl _)) (rd2.below hA) (Hp.out.below (below_next bel hA) (Nat.le_refl _)) hpo (by omega) (by omega) r Hr2).mono fun e w' ⟨h1, h2⟩ => ⟨h1, below_next hA h2⟩
                have hS0 := SB.out _ (Below.refl _ _)
                have hS1 := SB.out _ (Below.refl wr.heap.size wr).drew
                have Hbel := Lib.hid bel
                have Hmp := Lib.hid mp
                have Hrd := Lib.hid rd
                have Hrd2 := Lib.hid rd2
                have Hhv1 := Lib.hid hv1
                clear bel mp rd rd2 hv1
                go_wp2_with fail
                have bel := Hbel.out
                have mp := Hmp.out
                have rd := Hrd.out
                have rd2 := Hrd2.out
                have hv1 := Hhv1.out
                clear Hbel Hmp Hrd Hrd2 Hhv1
                try simp only at hS0 hS1
                clear hcj hcd hcp
                have Hbel := Lib.hid bel
                have Hmp := Lib.hid mp
                have Hrd := Lib.hid rd
                have Hrd2 := Lib.hid rd2
                have Hhv1 := Lib.hid hv1
                clear bel mp rd rd2 hv1
                go_region_held3 (fun Y => Y.cell? ⟨db, doff + j, none⟩ = some (.int .i64 dd) ∧ Y.cell? ⟨db, doff + jp, none⟩ = some (.int .i64 dq) ∧ Y.cell? ⟨bp, 0, none⟩ = some (.int .i64 p.count) ∧ Y.cell? ⟨bp, 1, none⟩ = some (.int .i64 p.index) ∧ Y.cell? ⟨bp, 2, none⟩ = some (.int .i64 p.item.kind) ∧ Y.cell? ⟨bp, 3, none⟩ = some (.string ⟨p.item.id.toArray⟩) ∧ Y.cell? ⟨bp, 4, none⟩ = some (.string ⟨p.item.parent.toArray⟩) ∧ Y.cell? ⟨bp, 5, none⟩ = some (.string ⟨p.item.number.toArray⟩) ∧ Y.cell? ⟨bp, 6, none⟩ = some (.string ⟨p.item.north.toArray⟩) ∧ Y.cell? ⟨bp, 7, none⟩ = some (.string ⟨p.item.south.toArray⟩) ∧ Y.cell? ⟨bp, 8, none⟩ = some (.bool p.item.gone) ∧ Y.cell? ⟨bp, 9, none⟩ = some (.slice pa p.path.length pc) ∧ Below wr.heap.size wr Y) (first | exact hS0 | exact hS1 | assumption) (first | (go_at_call 26; (with_reducible refine (CW.out _ (And.right (And.right (And.right (And.right (And.right (And.right (And.right (And.right (And.right (And.right (And.right (And.right (by assumption)))))))))))))).mono ?_); rintro e z ⟨rfl, c⟩; have hSb := SB.out _ c; try simp only at hSb) | (go_at_call 26; (with_reducible refine (CW2.out _ (And.right (And.right (And.right (And.right (And.right (And.right (And.right (And.right (And.right (And.right (And.right (And.right (by assumption)))))))))))))).mono ?_); rintro e z2 ⟨rfl, c2⟩; have hSb := SB.out _ c2; try simp only at hSb))
                all_goals
                  have bel := Hbel.out
                  have mp := Hmp.out
                  have rd := Hrd.out
                  have rd2 := Hrd2.out
                  have hv1 := Hhv1.out
                  clear Hbel Hmp Hrd Hrd2 Hhv1
                  have c := (And.right (And.right (And.right (And.right (And.right (And.right (And.right (And.right (And.right (And.right (And.right (And.right hSb))))))))))))
                  replace bel := below_next bel c
                  replace mp := (c.block _ (Array.getElem?_eq_some_iff.1 mp).1).trans mp
                  replace rd := rd.below c
                  replace rd2 := rd2.below c
                  replace hv1 := hv1.below c (Nat.le_refl _)
                  clear c hSb hS0 hS1
                  have Hbel := Lib.hid bel
                  have Hmp := Lib.hid mp
                  have Hrd := Lib.hid rd
                  have Hrd2 := Lib.hid rd2
                  have Hhv1 := Lib.hid hv1
                  clear bel mp rd rd2 hv1
                  go_wp2_with fail
                  have bel := Hbel.out
                  have mp := Hmp.out
                  have rd := Hrd.out
                  have rd2 := Hrd2.out
                  have hv1 := Hhv1.out
                  clear Hbel Hmp Hrd Hrd2 Hhv1
                  go_roundw
                  case rel => exact ⟨j + 1, by omega, by go_num, bel, mp, rd, rd2, hv1⟩
                  case measure => simp [intOf]; omega
              · skip
                generalize ds.getD j 0 = dd at hcj hb0 hb1
                have hgt : decide (0 < j) = false := decide_eq_false hj0
                clear hj0
                have hdb2 : db < wr.heap.size := hdb
                have hbp2 : bp < wr.heap.size := (Array.getElem?_eq_some_iff.1 mp).1
                have SB : Hid (∀ Y, Below wr.heap.size wr Y → (fun Y => Y.cell? ⟨db, doff + j, none⟩ = some (.int .i64 dd) ∧ Y.cell? ⟨bp, 0, none⟩ = some (.int .i64 p.count) ∧ Y.cell? ⟨bp, 1, none⟩ = some (.int .i64 p.index) ∧ Y.cell? ⟨bp, 2, none⟩ = some (.int .i64 p.item.kind) ∧ Y.cell? ⟨bp, 3, none⟩ = some (.string ⟨p.item.id.toArray⟩) ∧ Y.cell? ⟨bp, 4, none⟩ = some (.string ⟨p.item.parent.toArray⟩) ∧ Y.cell? ⟨bp, 5, none⟩ = some (.string ⟨p.item.number.toArray⟩) ∧ Y.cell? ⟨bp, 6, none⟩ = some (.string ⟨p.item.north.toArray⟩) ∧ Y.cell? ⟨bp, 7, none⟩ = some (.string ⟨p.item.south.toArray⟩) ∧ Y.cell? ⟨bp, 8, none⟩ = some (.bool p.item.gone) ∧ Y.cell? ⟨bp, 9, none⟩ = some (.slice pa p.path.length pc) ∧ Below wr.heap.size wr Y) Y) := fun Y hb => ⟨(hb.cell (p := ⟨db, doff + j, none⟩) hdb2).trans hcj, (hb.cell (p := ⟨bp, 0, none⟩) hbp2).trans (cell_of_heap mp), (hb.cell (p := ⟨bp, 1, none⟩) hbp2).trans (cell_of_heap mp), (hb.cell (p := ⟨bp, 2, none⟩) hbp2).trans (cell_of_heap mp), (hb.cell (p := ⟨bp, 3, none⟩) hbp2).trans (cell_of_heap mp), (hb.cell (p := ⟨bp, 4, none⟩) hbp2).trans (cell_of_heap mp), (hb.cell (p := ⟨bp, 5, none⟩) hbp2).trans (cell_of_heap mp), (hb.cell (p := ⟨bp, 6, none⟩) hbp2).trans (cell_of_heap mp), (hb.cell (p := ⟨bp, 7, none⟩) hbp2).trans (cell_of_heap mp), (hb.cell (p := ⟨bp, 8, none⟩) hbp2).trans (cell_of_heap mp), (hb.cell (p := ⟨bp, 9, none⟩) hbp2).trans (cell_of_heap mp), hb⟩
                obtain ⟨r, hr⟩ : ∃ r, Hid (Pf.wasL es dd p = r) := ⟨_, rfl⟩
                have Hr2 : Hid (Pf.wasL es2 dd p = r) := by unfold Hid; rw [← hr.out]; unfold Pf.wasL; rw [Hsame.out]
                have CW : Hid (∀ A, Below wr.heap.size wr A → Calls Tryz.prog 26 #[.pointer (some ⟨rb, 0, none⟩), .int .i64 dd, .agg #[.int .i64 p.count, .int .i64 p.index, .int .i64 p.item.kind, .string ⟨p.item.id.toArray⟩, .string ⟨p.item.parent.toArray⟩, .string ⟨p.item.number.toArray⟩, .string ⟨p.item.north.toArray⟩, .string ⟨p.item.south.toArray⟩, .bool p.item.gone, .slice pa p.path.length pc]] A fun e w' => e = .returned (.int .i64 r) ∧ Below wr.heap.size wr w') := fun A hA => (was_any offKey dd p _ rb rm _ es _ (ht.below (below_next bel hA) (Nat.le_refl _)) (rd.below hA) (Hp.out.below (below_next bel hA) (Nat.le_refl _)) hpo (by omega) (by omega) r hr).mono fun e w' ⟨h1, h2⟩ => ⟨h1, below_next hA h2⟩
                have CW2 : Hid (∀ A, Below wr.heap.size wr A → Calls Tryz.prog 26 #[.pointer (some ⟨rb2, 0, none⟩), .int .i64 dd, .agg #[.int .i64 p.count, .int .i64 p.index, .int .i64 p.item.kind, .string ⟨p.item.id.toArray⟩, .string ⟨p.item.parent.toArray⟩, .string ⟨p.item.number.toArray⟩, .string ⟨p.item.north.toArray⟩, .string ⟨p.item.south.toArray⟩, .bool p.item.gone, .slice pa p.path.length pc]] A fun e w' => e = .returned (.int .i64 r) ∧ Below wr.heap.size wr w') := fun A hA => (was_any offKey dd p _ rb2 rm2 _ es2 _ (ht.below (below_next bel hA) (Nat.le_refl _)) (rd2.below hA) (Hp.out.below (below_next bel hA) (Nat.le_refl _)) hpo (by omega) (by omega) r Hr2).mono fun e w' ⟨h1, h2⟩ => ⟨h1, below_next hA h2⟩
                have hS0 := SB.out _ (Below.refl _ _)
                have hS1 := SB.out _ (Below.refl wr.heap.size wr).drew
                have Hbel := Lib.hid bel
                have Hmp := Lib.hid mp
                have Hrd := Lib.hid rd
                have Hrd2 := Lib.hid rd2
                have Hhv1 := Lib.hid hv1
                clear bel mp rd rd2 hv1
                go_wp2_with fail
                have bel := Hbel.out
                have mp := Hmp.out
                have rd := Hrd.out
                have rd2 := Hrd2.out
                have hv1 := Hhv1.out
                clear Hbel Hmp Hrd Hrd2 Hhv1
                try simp only at hS0 hS1
                clear hcj hcd
                have Hbel := Lib.hid bel
                have Hmp := Lib.hid mp
                have Hrd := Lib.hid rd
                have Hrd2 := Lib.hid rd2
                have Hhv1 := Lib.hid hv1
                clear bel mp rd rd2 hv1
                have HS1 := Lib.hid hS1
                clear hS0 hS1
                have hmx : Tryz.prog.follows .mixedOrders = true := by kernel_rfl
                refine wp_region_any hmx (wpAny_of_held (S := fun Y => Y.cell? ⟨db, doff + j, none⟩ = some (.int .i64 dd) ∧ Y.cell? ⟨bp, 0, none⟩ = some (.int .i64 p.count) ∧ Y.cell? ⟨bp, 1, none⟩ = some (.int .i64 p.index) ∧ Y.cell? ⟨bp, 2, none⟩ = some (.int .i64 p.item.kind) ∧ Y.cell? ⟨bp, 3, none⟩ = some (.string ⟨p.item.id.toArray⟩) ∧ Y.cell? ⟨bp, 4, none⟩ = some (.string ⟨p.item.parent.toArray⟩) ∧ Y.cell? ⟨bp, 5, none⟩ = some (.string ⟨p.item.number.toArray⟩) ∧ Y.cell? ⟨bp, 6, none⟩ = some (.string ⟨p.item.north.toArray⟩) ∧ Y.cell? ⟨bp, 7, none⟩ = some (.string ⟨p.item.south.toArray⟩) ∧ Y.cell? ⟨bp, 8, none⟩ = some (.bool p.item.gone) ∧ Y.cell? ⟨bp, 9, none⟩ = some (.slice pa p.path.length pc) ∧ Below wr.heap.size wr Y) _ _ _ _ ?_)
                show wpAnyH _ _ _ _ _ _ _ _ wr.drew
                refine wpAnyH_take (i := 0) (oi := { dst := some 117, op := Go.Op.move (Go.Operand.tmp 17), type := 3, pos := "law.go:226", after := #[], guard := none }) (v := .int .i64 (j : Int)) rfl (by kernel_rfl) (by kernel_rfl) (by kernel_rfl) (fun _ _ _ h => h) (Or.inl ⟨by rfl, fun w' _ => by go_simp⟩) HS1.out ?_
                simp only [Act.put, List.setIfInBounds_toArray, List.set_cons_zero, List.set_cons_succ]
                refine wpAnyH_take (i := 1) (oi := { dst := some 118, op := Go.Op.binOp Go.BinOp.gtr 3 (Go.Operand.tmp 117) (Go.Operand.const (Go.Value.int Go.IntKind.i64 0)) 3, type := 4, pos := "law.go:226", after := #[{ on := 0, ground := Go.Ground.data }], guard := none }) (v := .bool false) rfl (by kernel_rfl) (by kernel_rfl) (by kernel_rfl) (fun _ _ _ h => h) (Or.inl ⟨by rfl, fun w' _ => by go_simp⟩) HS1.out ?_
                simp only [Act.put, List.setIfInBounds_toArray, List.set_cons_zero, List.set_cons_succ]
                refine wpAnyH_take (i := 2) (oi := { dst := some 119, op := Go.Op.move (Go.Operand.tmp 118), type := 4, pos := "law.go:226", after := #[{ on := 1, ground := Go.Ground.data }], guard := none }) (v := .bool false) rfl (by kernel_rfl) (by kernel_rfl) (by kernel_rfl) (fun _ _ _ h => h) (Or.inl ⟨by rfl, fun w' _ => by go_simp⟩) HS1.out ?_
                simp only [Act.put, List.setIfInBounds_toArray, List.set_cons_zero, List.set_cons_succ]
                refine wpAnyH_take (i := 3) (oi := { dst := some 120, op := Go.Op.move (Go.Operand.tmp 16), type := 54, pos := "law.go:226", after := #[{ on := 2, ground := Go.Ground.guard }], guard := some (2, true) }) (v := undef) rfl (by kernel_rfl) (by kernel_rfl) (by kernel_rfl) (fun _ _ _ h => h) (Or.inr ⟨by rfl, rfl⟩) HS1.out ?_
                simp only [Act.put, List.setIfInBounds_toArray, List.set_cons_zero, List.set_cons_succ]
                refine wpAnyH_take (i := 4) (oi := { dst := some 121, op := Go.Op.move (Go.Operand.tmp 17), type := 3, pos := "law.go:226", after := #[{ on := 2, ground := Go.Ground.guard }], guard := some (2, true) }) (v := undef) rfl (by kernel_rfl) (by kernel_rfl) (by kernel_rfl) (fun _ _ _ h => h) (Or.inr ⟨by rfl, rfl⟩) HS1.out ?_
                simp only [Act.put, List.setIfInBounds_toArray, List.set_cons_zero, List.set_cons_succ]
                refine wpAnyH_take (i := 5) (oi := { dst := some 122, op := Go.Op.indexAddr 54 (Go.Operand.tmp 120) (Go.Operand.tmp 121), type := 0, pos := "law.go:226", after := #[{ on := 3, ground := Go.Ground.data }, { on := 4, ground := Go.Ground.data }, { on := 2, ground := Go.Ground.guard }], guard := some (2, true) }) (v := undef) rfl (by kernel_rfl) (by kernel_rfl) (by kernel_rfl) (fun _ _ _ h => h) (Or.inr ⟨by rfl, rfl⟩) HS1.out ?_
                simp only [Act.put, List.setIfInBounds_toArray, List.set_cons_zero, List.set_cons_succ]
                refine wpAnyH_take (i := 6) (oi := { dst := some 123, op := Go.Op.load 3 (Go.Operand.tmp 122), type := 3, pos := "law.go:226", after := #[{ on := 5, ground := Go.Ground.data }, { on := 2, ground := Go.Ground.guard }], guard := some (2, true) }) (v := undef) rfl (by kernel_rfl) (by kernel_rfl) (by kernel_rfl) (fun _ _ _ h => h) (Or.inr ⟨by rfl, rfl⟩) HS1.out ?_
                simp only [Act.put, List.setIfInBounds_toArray, List.set_cons_zero, List.set_cons_succ]
                refine wpAnyH_take (i := 7) (oi := { dst := some 124, op := Go.Op.move (Go.Operand.tmp 16), type := 54, pos := "law.go:226", after := #[{ on := 2, ground := Go.Ground.guard }], guard := some (2, true) }) (v := undef) rfl (by kernel_rfl) (by kernel_rfl) (by kernel_rfl) (fun _ _ _ h => h) (Or.inr ⟨by rfl, rfl⟩) HS1.out ?_
                simp only [Act.put, List.setIfInBounds_toArray, List.set_cons_zero, List.set_cons_succ]
                refine wpAnyH_take (i := 8) (oi := { dst := some 125, op := Go.Op.move (Go.Operand.tmp 17), type := 3, pos := "law.go:226", after := #[{ on := 2, ground := Go.Ground.guard }], guard := some (2, true) }) (v := undef) rfl (by kernel_rfl) (by kernel_rfl) (by kernel_rfl) (fun _ _ _ h => h) (Or.inr ⟨by rfl, rfl⟩) HS1.out ?_
                simp only [Act.put, List.setIfInBounds_toArray, List.set_cons_zero, List.set_cons_succ]
                refine wpAnyH_take (i := 9) (oi := { dst := some 126, op := Go.Op.binOp Go.BinOp.sub 3 (Go.Operand.tmp 125) (Go.Operand.const (Go.Value.int Go.IntKind.i64 1)) 3, type := 3, pos := "law.go:226", after := #[{ on := 8, ground := Go.Ground.data }, { on := 2, ground := Go.Ground.guard }], guard := some (2, true) }) (v := undef) rfl (by kernel_rfl) (by kernel_rfl) (by kernel_rfl) (fun _ _ _ h => h) (Or.inr ⟨by rfl, rfl⟩) HS1.out ?_
                simp only [Act.put, List.setIfInBounds_toArray, List.set_cons_zero, List.set_cons_succ]
                refine wpAnyH_take (i := 10) (oi := { dst := some 127, op := Go.Op.indexAddr 54 (Go.Operand.tmp 124) (Go.Operand.tmp 126), type := 0, pos := "law.go:226", after := #[{ on := 7, ground := Go.Ground.data }, { on := 9, ground := Go.Ground.data }, { on := 2, ground := Go.Ground.guard }], guard := some (2, true) }) (v := undef) rfl (by kernel_rfl) (by kernel_rfl) (by kernel_rfl) (fun _ _ _ h => h) (Or.inr ⟨by rfl, rfl⟩) HS1.out ?_
                simp only [Act.put, List.setIfInBounds_toArray, List.set_cons_zero, List.set_cons_succ]
                refine wpAnyH_take (i := 11) (oi := { dst := some 128, op := Go.Op.load 3 (Go.Operand.tmp 127), type := 3, pos := "law.go:226", after := #[{ on := 10, ground := Go.Ground.data }, { on := 2, ground := Go.Ground.guard }], guard := some (2, true) }) (v := undef) rfl (by kernel_rfl) (by kernel_rfl) (by kernel_rfl) (fun _ _ _ h => h) (Or.inr ⟨by rfl, rfl⟩) HS1.out ?_
                simp only [Act.put, List.setIfInBounds_toArray, List.set_cons_zero, List.set_cons_succ]
                refine wpAnyH_take (i := 12) (oi := { dst := some 129, op := Go.Op.binOp Go.BinOp.leq 3 (Go.Operand.tmp 123) (Go.Operand.tmp 128) 3, type := 4, pos := "law.go:226", after := #[{ on := 6, ground := Go.Ground.data }, { on := 11, ground := Go.Ground.data }, { on := 2, ground := Go.Ground.guard }], guard := some (2, true) }) (v := undef) rfl (by kernel_rfl) (by kernel_rfl) (by kernel_rfl) (fun _ _ _ h => h) (Or.inr ⟨by rfl, rfl⟩) HS1.out ?_
                simp only [Act.put, List.setIfInBounds_toArray, List.set_cons_zero, List.set_cons_succ]
                refine wpAnyH_take (i := 13) (oi := { dst := some 130, op := Go.Op.pick (Go.Operand.tmp 119) (Go.Operand.tmp 129) (Go.Operand.const (Go.Value.bool false)), type := 4, pos := "law.go:226", after := #[{ on := 2, ground := Go.Ground.data }, { on := 12, ground := Go.Ground.data }], guard := none }) (v := .bool false) rfl (by kernel_rfl) (by kernel_rfl) (by kernel_rfl) (fun _ _ _ h => h) (Or.inl ⟨by rfl, fun w' _ => by go_simp⟩) HS1.out ?_
                simp only [Act.put, List.setIfInBounds_toArray, List.set_cons_zero, List.set_cons_succ]
                refine wpAnyH_take (i := 14) (oi := { dst := some 131, op := Go.Op.move (Go.Operand.tmp 130), type := 4, pos := "law.go:226", after := #[{ on := 13, ground := Go.Ground.data }, { on := 2, ground := Go.Ground.chain }], guard := none }) (v := .bool false) rfl (by kernel_rfl) (by kernel_rfl) (by kernel_rfl) (fun _ _ _ h => h) (Or.inl ⟨by rfl, fun w' _ => by go_simp⟩) HS1.out ?_
                simp only [Act.put, List.setIfInBounds_toArray, List.set_cons_zero, List.set_cons_succ]
                refine wpAnyH_take (i := 15) (oi := { dst := some 132, op := Go.Op.move (Go.Operand.tmp 8), type := 47, pos := "law.go:226", after := #[{ on := 14, ground := Go.Ground.guard }], guard := some (14, false) }) (v := .pointer (some ⟨rb, 0, none⟩)) rfl (by kernel_rfl) (by kernel_rfl) (by kernel_rfl) (fun _ _ _ h => h) (Or.inl ⟨by rfl, fun w' _ => by go_simp⟩) HS1.out ?_
                simp only [Act.put, List.setIfInBounds_toArray, List.set_cons_zero, List.set_cons_succ]
                refine wpAnyH_take (i := 16) (oi := { dst := some 133, op := Go.Op.move (Go.Operand.tmp 16), type := 54, pos := "law.go:226", after := #[{ on := 14, ground := Go.Ground.guard }], guard := some (14, false) }) (v := .slice (some ⟨db, doff, none⟩) ds.length dc) rfl (by kernel_rfl) (by kernel_rfl) (by kernel_rfl) (fun _ _ _ h => h) (Or.inl ⟨by rfl, fun w' _ => by go_simp⟩) HS1.out ?_
                simp only [Act.put, List.setIfInBounds_toArray, List.set_cons_zero, List.set_cons_succ]
                refine wpAnyH_take (i := 17) (oi := { dst := some 134, op := Go.Op.move (Go.Operand.tmp 17), type := 3, pos := "law.go:226", after := #[{ on := 14, ground := Go.Ground.guard }], guard := some (14, false) }) (v := .int .i64 (j : Int)) rfl (by kernel_rfl) (by kernel_rfl) (by kernel_rfl) (fun _ _ _ h => h) (Or.inl ⟨by rfl, fun w' _ => by go_simp⟩) HS1.out ?_
                simp only [Act.put, List.setIfInBounds_toArray, List.set_cons_zero, List.set_cons_succ]
                refine wpAnyH_take (i := 18) (oi := { dst := some 135, op := Go.Op.indexAddr 54 (Go.Operand.tmp 133) (Go.Operand.tmp 134), type := 0, pos := "law.go:226", after := #[{ on := 16, ground := Go.Ground.data }, { on := 17, ground := Go.Ground.data }, { on := 14, ground := Go.Ground.guard }], guard := some (14, false) }) (v := .pointer (some ⟨db, doff + j, none⟩)) rfl (by kernel_rfl) (by kernel_rfl) (by kernel_rfl) (fun _ _ _ h => h) (Or.inl ⟨by rfl, fun w' _ => by go_simp⟩) HS1.out ?_
                simp only [Act.put, List.setIfInBounds_toArray, List.set_cons_zero, List.set_cons_succ]
                refine wpAnyH_take (i := 19) (oi := { dst := some 136, op := Go.Op.load 3 (Go.Operand.tmp 135), type := 3, pos := "law.go:226", after := #[{ on := 18, ground := Go.Ground.data }, { on := 14, ground := Go.Ground.guard }], guard := some (14, false) }) (v := .int .i64 dd) rfl (by kernel_rfl) (by kernel_rfl) (by kernel_rfl) (fun _ _ _ h => h) (Or.inl ⟨by rfl, fun w' hS => by have s1 := hS.1; clear hS; go_simp⟩) HS1.out ?_
                simp only [Act.put, List.setIfInBounds_toArray, List.set_cons_zero, List.set_cons_succ]
                refine wpAnyH_take (i := 20) (oi := { dst := some 137, op := Go.Op.load 29 (Go.Operand.tmp 3), type := 29, pos := "law.go:226", after := #[{ on := 14, ground := Go.Ground.guard }], guard := some (14, false) }) (v := .agg #[.int .i64 p.count, .int .i64 p.index, .int .i64 p.item.kind, .string ⟨p.item.id.toArray⟩, .string ⟨p.item.parent.toArray⟩, .string ⟨p.item.number.toArray⟩, .string ⟨p.item.north.toArray⟩, .string ⟨p.item.south.toArray⟩, .bool p.item.gone, .slice pa p.path.length pc]) rfl (by kernel_rfl) (by kernel_rfl) (by kernel_rfl) (fun _ _ _ h => h) (Or.inl ⟨by rfl, fun w' hS => by obtain ⟨_, h1, h2, h3, h4, h5, h6, h7, h8, h9, h10, _⟩ := hS; go_simp⟩) HS1.out ?_
                simp only [Act.put, List.setIfInBounds_toArray, List.set_cons_zero, List.set_cons_succ]
                refine wpAnyH_take (i := 22) (oi := { dst := some 139, op := Go.Op.move (Go.Operand.tmp 9), type := 47, pos := "law.go:226", after := #[{ on := 14, ground := Go.Ground.guard }], guard := some (14, false) }) (v := .pointer (some ⟨rb2, 0, none⟩)) rfl (by kernel_rfl) (by kernel_rfl) (by kernel_rfl) (fun _ _ _ h => h) (Or.inl ⟨by rfl, fun w' _ => by go_simp⟩) HS1.out ?_
                simp only [Act.put, List.setIfInBounds_toArray, List.set_cons_zero, List.set_cons_succ]
                refine wpAnyH_take (i := 23) (oi := { dst := some 140, op := Go.Op.move (Go.Operand.tmp 16), type := 54, pos := "law.go:226", after := #[{ on := 14, ground := Go.Ground.guard }], guard := some (14, false) }) (v := .slice (some ⟨db, doff, none⟩) ds.length dc) rfl (by kernel_rfl) (by kernel_rfl) (by kernel_rfl) (fun _ _ _ h => h) (Or.inl ⟨by rfl, fun w' _ => by go_simp⟩) HS1.out ?_
                simp only [Act.put, List.setIfInBounds_toArray, List.set_cons_zero, List.set_cons_succ]
                refine wpAnyH_take (i := 24) (oi := { dst := some 141, op := Go.Op.move (Go.Operand.tmp 17), type := 3, pos := "law.go:226", after := #[{ on := 14, ground := Go.Ground.guard }], guard := some (14, false) }) (v := .int .i64 (j : Int)) rfl (by kernel_rfl) (by kernel_rfl) (by kernel_rfl) (fun _ _ _ h => h) (Or.inl ⟨by rfl, fun w' _ => by go_simp⟩) HS1.out ?_
                simp only [Act.put, List.setIfInBounds_toArray, List.set_cons_zero, List.set_cons_succ]
                refine wpAnyH_take (i := 25) (oi := { dst := some 142, op := Go.Op.indexAddr 54 (Go.Operand.tmp 140) (Go.Operand.tmp 141), type := 0, pos := "law.go:226", after := #[{ on := 23, ground := Go.Ground.data }, { on := 24, ground := Go.Ground.data }, { on := 14, ground := Go.Ground.guard }], guard := some (14, false) }) (v := .pointer (some ⟨db, doff + j, none⟩)) rfl (by kernel_rfl) (by kernel_rfl) (by kernel_rfl) (fun _ _ _ h => h) (Or.inl ⟨by rfl, fun w' _ => by go_simp⟩) HS1.out ?_
                simp only [Act.put, List.setIfInBounds_toArray, List.set_cons_zero, List.set_cons_succ]
                refine wpAnyH_take (i := 26) (oi := { dst := some 143, op := Go.Op.load 3 (Go.Operand.tmp 142), type := 3, pos := "law.go:226", after := #[{ on := 25, ground := Go.Ground.data }, { on := 14, ground := Go.Ground.guard }], guard := some (14, false) }) (v := .int .i64 dd) rfl (by kernel_rfl) (by kernel_rfl) (by kernel_rfl) (fun _ _ _ h => h) (Or.inl ⟨by rfl, fun w' hS => by have s1 := hS.1; clear hS; go_simp⟩) HS1.out ?_
                simp only [Act.put, List.setIfInBounds_toArray, List.set_cons_zero, List.set_cons_succ]
                refine wpAnyH_take (i := 27) (oi := { dst := some 144, op := Go.Op.load 29 (Go.Operand.tmp 3), type := 29, pos := "law.go:226", after := #[{ on := 14, ground := Go.Ground.guard }], guard := some (14, false) }) (v := .agg #[.int .i64 p.count, .int .i64 p.index, .int .i64 p.item.kind, .string ⟨p.item.id.toArray⟩, .string ⟨p.item.parent.toArray⟩, .string ⟨p.item.number.toArray⟩, .string ⟨p.item.north.toArray⟩, .string ⟨p.item.south.toArray⟩, .bool p.item.gone, .slice pa p.path.length pc]) rfl (by kernel_rfl) (by kernel_rfl) (by kernel_rfl) (fun _ _ _ h => h) (Or.inl ⟨by rfl, fun w' hS => by obtain ⟨_, h1, h2, h3, h4, h5, h6, h7, h8, h9, h10, _⟩ := hS; go_simp⟩) HS1.out ?_
                simp only [Act.put, List.setIfInBounds_toArray, List.set_cons_zero, List.set_cons_succ]
                refine wpAnyH_ready (rs := [21]) (by kernel_rfl) (by simp) ?_
                refine AllReadyH.cons (o := { dst := some 138, op := Go.Op.call { callee := Go.Callee.value (Go.Operand.func 26), args := #[Go.Operand.tmp 132, Go.Operand.tmp 136, Go.Operand.tmp 137], argTypes := #[47, 3, 29] }, type := 35, pos := "law.go:226", after := #[{ on := 15, ground := Go.Ground.data }, { on := 19, ground := Go.Ground.data }, { on := 20, ground := Go.Ground.data }, { on := 14, ground := Go.Ground.chain }, { on := 14, ground := Go.Ground.guard }], guard := some (14, false) }) rfl (fun K hK => ?_) AllReadyH.nil
                · skip
                  go_simp
                  go_wp2_with (go_at_call 26; refine (CW.out _ (Below.refl wr.heap.size wr).drew).mono ?_; rintro e z1 ⟨rfl, c1⟩)
                  refine hK.out _ _ (SB.out _ c1) (fun _ => ?_)
                  clear hK K
                  refine wpAnyH_ready (rs := [28]) (by kernel_rfl) (by simp) ?_
                  refine AllReadyH.cons (o := { dst := some 145, op := Go.Op.call { callee := Go.Callee.value (Go.Operand.func 26), args := #[Go.Operand.tmp 139, Go.Operand.tmp 143, Go.Operand.tmp 144], argTypes := #[47, 3, 29] }, type := 35, pos := "law.go:226", after := #[{ on := 22, ground := Go.Ground.data }, { on := 26, ground := Go.Ground.data }, { on := 27, ground := Go.Ground.data }, { on := 21, ground := Go.Ground.chain }, { on := 14, ground := Go.Ground.guard }], guard := some (14, false) }) rfl (fun K hK => ?_) AllReadyH.nil
                  go_simp
                  go_wp2_with (go_at_call 26; refine (CW2.out _ c1).mono ?_; rintro e z2 ⟨rfl, c2⟩)
                  refine hK.out _ _ (SB.out _ c2) (fun hSb => ?_)
                  clear hK K
                  have hne : (r != r) = false := by simp
                  refine wpAnyH_take (i := 29) (oi := { dst := some 146, op := Go.Op.binOp Go.BinOp.neq 35 (Go.Operand.tmp 138) (Go.Operand.tmp 145) 35, type := 4, pos := "law.go:226", after := #[{ on := 21, ground := Go.Ground.data }, { on := 28, ground := Go.Ground.data }, { on := 14, ground := Go.Ground.guard }], guard := some (14, false) }) (v := .bool false) rfl (by kernel_rfl) (by kernel_rfl) (by kernel_rfl) (fun _ _ _ h => h) (Or.inl ⟨by rfl, fun w' hS => by go_simp⟩) (SB.out _ c2) ?_
                  simp only [Act.put, List.setIfInBounds_toArray, List.set_cons_zero, List.set_cons_succ]
                  refine wpAnyH_take (i := 30) (oi := { dst := some 147, op := Go.Op.pick (Go.Operand.tmp 131) (Go.Operand.const (Go.Value.bool true)) (Go.Operand.tmp 146), type := 4, pos := "law.go:226", after := #[{ on := 14, ground := Go.Ground.data }, { on := 29, ground := Go.Ground.data }], guard := none }) (v := .bool false) rfl (by kernel_rfl) (by kernel_rfl) (by kernel_rfl) (fun _ _ _ h => h) (Or.inl ⟨by rfl, fun w' hS => by go_simp⟩) (SB.out _ c2) ?_
                  simp only [Act.put, List.setIfInBounds_toArray, List.set_cons_zero, List.set_cons_succ]
                  refine wpAnyH_done (by kernel_rfl) ?_ _
                  have c := c2
                  clear c2 c1 hne
                  have bel := Hbel.out
                  have mp := Hmp.out
                  have rd := Hrd.out
                  have rd2 := Hrd2.out
                  have hv1 := Hhv1.out
                  clear Hbel Hmp Hrd Hrd2 Hhv1
                  replace bel := below_next bel c
                  replace mp := (c.block _ (Array.getElem?_eq_some_iff.1 mp).1).trans mp
                  replace rd := rd.below c
                  replace rd2 := rd2.below c
                  replace hv1 := hv1.below c (Nat.le_refl _)
                  clear c hSb HS1
                  have Hbel := Lib.hid bel
                  have Hmp := Lib.hid mp
                  have Hrd := Lib.hid rd
                  have Hrd2 := Lib.hid rd2
                  have Hhv1 := Lib.hid hv1
                  clear bel mp rd rd2 hv1
                  go_wp2_with fail
                  have bel := Hbel.out
                  have mp := Hmp.out
                  have rd := Hrd.out
                  have rd2 := Hrd2.out
                  have hv1 := Hhv1.out
                  clear Hbel Hmp Hrd Hrd2 Hhv1
                  go_roundw
                  case rel => exact ⟨j + 1, by omega, by go_num, bel, mp, rd, rd2, hv1⟩
                  case measure => simp [intOf]; omega
            · skip
              obtain rfl : j = ds.length := by omega
              have Hbel := Lib.hid bel
              have Hmp := Lib.hid mp
              have Hrd := Lib.hid rd
              have Hrd2 := Lib.hid rd2
              have Hhv1 := Lib.hid hv1
              clear bel mp rd rd2 hv1
              go_wp2_with fail
              have bel := Hbel.out
              have mp := Hmp.out
              have rd := Hrd.out
              have rd2 := Hrd2.out
              have hv1 := Hhv1.out
              clear Hbel Hmp Hrd Hrd2 Hhv1
              go_ret
              exact ⟨rfl, bel⟩
end Go.Proofs.YteoclpjbeadkpaaGreatDoor
/- THE STATEMENT ProofOrders: for every input within the form's reach, the five listed tables of Go's library holding what their initialisers lay, the call returns true and leaves the arguments as they were. -/
namespace Go.Proofs.YteoclpjbeadkpaaGreatDoor.rowProofOrders
open Go.ChangeShapes Go.WideShapes Go.ChangeAt Go.RowKit
open Go.ChangeMaps (open_string)

theorem noHandles : (Rows.proofOrdersRow.laid.filter fun x => x.2.handleName?.isSome) = [] := by kernel_rfl
theorem table {W : World} (h : laidMetH Tryz.prog Rows.proofOrdersRow.laid W) : Tab W := by
  unfold laidMetH at h
  rw [noHandles] at h
  exact tab_of h (by simp [Rows.proofOrdersRow])

set_option maxRecDepth 100000 in
theorem contract (H : Type) (enc : TypeId × Value → H) (W : World) (base : Nat) (args : Array Value) (ds gs : List (DataW H)) (before : List MemPlace)
    (hval : ∀ (j : Nat) t v, Tryz.f8.params[j]? = some t → args[j]? = some v → Value.okWide Tryz.prog W .any base t v)
    (hW : DataW.Whole enc Tryz.prog Tryz.f8.params.toList Rows.proofOrdersSpec.vars false W args.toList ds gs before)
    (hsz0 : (DataW.weightsEach Tryz.prog (Tryz.f8.params.toList ++ Rows.proofOrdersSpec.plain.varTypes Tryz.prog) (ds ++ gs)).all (· ≤ reachBytes) = true) (hL : laidMetH Tryz.prog Rows.proofOrdersRow.laid W) :
    Calls Tryz.prog 8 args W fun e W' => ∃ v, e = .returned v ∧ Rows.proofOrdersSpec.post enc Tryz.prog Tryz.f8 false true false false W args v W' := by
  have hW' := hW
  obtain ⟨p, q, hA0, hV, rfl, hfz, hnd⟩ := hW
  have hA : DataW.TrodAll enc Tryz.prog W 0 (fun _ => true) true Tryz.f8.params.toList args.toList ds p := hA0
  have hsz : (DataW.weightsEach Tryz.prog (Tryz.f8.params.toList ++ Rows.proofOrdersSpec.plain.varTypes Tryz.prog) (ds ++ gs)).all (· ≤ reachBytes) = true := hsz0
  rw [Tryz.params8] at hA hval hsz
  obtain ⟨v0, vs0, d0, ds0, p0, q0, hargs, rfl, rfl, h0, r0⟩ := trodAll_cons hA
  obtain ⟨v1, vs1, d1, ds1, p1, q1, rfl, rfl, rfl, h1, r1⟩ := trodAll_cons r0
  obtain ⟨rfl, rfl, rfl⟩ := trodAll_nil r1
  obtain rfl : args = #[v0, v1] := by cases args; simp_all
  obtain ⟨rfl, rfl⟩ := trodVars_none hV
  have k0 := h0
  have lt0 : ∀ x ∈ p0, x.block < W.heap.size := by obtain ⟨m, hm⟩ := k0; exact DataW.trod_lt m _ _ _ hm
  have k1 := h1
  have lt1 : ∀ x ∈ p1, x.block < W.heap.size := by obtain ⟨m, hm⟩ := k1; exact DataW.trod_lt m _ _ _ hm
  have wt0 := wt_arg hsz (j := 0) (t := 30) (d := d0) rfl rfl
  obtain ⟨a0, len0, cap0, rfl⟩ := okWide_slice Tryz.underlying30 (hval 0 30 v0 rfl rfl)
  obtain ⟨tl0, hv0, hl0, ok0⟩ := tds_open h0 wt0
  have wt1 := wt_arg hsz (j := 1) (t := 29) (d := d1) rfl rfl
  obtain ⟨⟨c1⟩, rfl, _⟩ := okWide_struct Tryz.underlying29 (hval 1 29 v1 rfl rfl)
  obtain ⟨m1, hm1⟩ := h1
  obtain ⟨pr1, pv1, e1, hp1, in1⟩ := proof_open (cs := c1) hm1 wt1
  subst e1
  refine (ordersLaw_any tl0 _ pr1 pv1 W (table hL) hv0 hl0 ok0 hp1 in1).mono fun e W' ⟨he, bel⟩ => ?_
  subst he
  exact ⟨_, rfl, _, _, _, [], _, [], hW', trodAll_mk1 (shut_bool Tryz.underlying4 _), (trodAll_cons_mk (Below.trod laidOut (by kernel_rfl) (of_decide_eq_true (by kernel_rfl)) k0 bel lt0) (trodAll_cons_mk (Below.trod laidOut (by kernel_rfl) (of_decide_eq_true (by kernel_rfl)) k1 bel lt1) trodAll_mk0)), rfl, bel.frame _, fun h => by cases h⟩

theorem laid_met (os : Os) : laidMet Tryz.prog Rows.proofOrdersRow.laid ((laidWorld os).forCall (fun _ _ => 0) ⟨#[], #[.slice none 0 0, .agg #[.int .i64 0, .int .i64 0, .int .i64 0, .string ⟨#[]⟩, .string ⟨#[]⟩, .string ⟨#[]⟩, .string ⟨#[]⟩, .string ⟨#[]⟩, .bool false, .slice none 0 0]], []⟩).memory :=
  laidMet_of_run' 8 (by kernel_rfl) (by kernel_rfl)
theorem reads (os : Os) {H : Type} (enc : TypeId × Value → H) : ∃ places, DataW.whole enc Tryz.prog ((laidWorld os).forCall (fun _ _ => 0) ⟨#[], #[.slice none 0 0, .agg #[.int .i64 0, .int .i64 0, .int .i64 0, .string ⟨#[]⟩, .string ⟨#[]⟩, .string ⟨#[]⟩, .string ⟨#[]⟩, .string ⟨#[]⟩, .bool false, .slice none 0 0]], []⟩).memory Tryz.f8.params.toList Rows.proofOrdersSpec.vars false (#[.slice none 0 0, .agg #[.int .i64 0, .int .i64 0, .int .i64 0, .string ⟨#[]⟩, .string ⟨#[]⟩, .string ⟨#[]⟩, .string ⟨#[]⟩, .string ⟨#[]⟩, .bool false, .slice none 0 0]] : Array Value).toList 8 = some ([.nil, .agg [.lit (.int .i64 0), .lit (.int .i64 0), .agg [.lit (.int .i64 0), .lit (.string []), .lit (.string []), .lit (.string []), .lit (.string []), .lit (.string []), .lit (.bool false)], .nil]], [], places) :=
  ⟨[], by kernel_rfl⟩

set_option maxRecDepth 100000 in
theorem lifted (os : Os) (started : os.Started) (H : Type) (enc : TypeId × Value → H) (F : Stop.Interp) :
    ReturnsInHanded {} Tryz.checked os 8 .any ((OpenSpec.ofChange Rows.proofOrdersSpec).preRow enc Tryz.prog Tryz.f8 Rows.proofOrdersRow.domain false Rows.proofOrdersRow.laid) (((OpenSpec.ofChange Rows.proofOrdersSpec).at F).post enc Tryz.prog Tryz.f8 false true false false) := by
  obtain ⟨places, hx⟩ := reads os enc
  refine returnsInHanded_of_row (C := Tryz.checked) (s := OpenSpec.ofChange Rows.proofOrdersSpec) own started (by kernel_rfl) Tryz.func8
    (witness_row_at (enc := enc) (C := Tryz.checked) false (laidWorld os) #[.slice none 0 0, .agg #[.int .i64 0, .int .i64 0, .int .i64 0, .string ⟨#[]⟩, .string ⟨#[]⟩, .string ⟨#[]⟩, .string ⟨#[]⟩, .string ⟨#[]⟩, .bool false, .slice none 0 0]] rfl (by kernel_rfl) (by kernel_rfl) (by kernel_rfl)
      (OpenSpec.preRow_of_cond 8 hx (by kernel_rfl) (fun k hk => by cases hk) (by kernel_rfl) (laid_met os))) ?_
  intro W base args ds gs before hval hW _ _ hsz hL _ _
  exact contract H enc W base args ds gs before hval hW hsz hL

theorem said : Rows.ProofOrdersSaid :=
  OpenClaim.holds_of_cond 8 Tryz.f8 rfl rfl rfl rfl rfl rfl rfl ⟨rfl, rfl, rfl, rfl, rfl⟩ rfl rfl rfl rfl rfl (by kernel_rfl) Tryz.func8 (by kernel_rfl)
    (of_decide_eq_true (by kernel_rfl)) (by unfold Func.isWrapper; rw [if_neg (of_decide_eq_false (by kernel_rfl))]; exact ⟨rfl, rfl⟩)
    (fun os started H enc _ F => by rw [OpenClaim.pre_eq_preRow]; exact lifted os started H enc F)

theorem plain (f : FuncId) (fn : Func) (hf : Tryz.pinned.checked.prog.funcNamed "pandect/pandectlaw44.ProofOrders" = some f) (hfn : Tryz.pinned.checked.prog.funcs[f]? = some fn) :
    false = Tryz.pinned.checked.prog.looks [] ∧ ∀ (j : Nat) t, fn.params[j]? = some t → Tryz.pinned.checked.prog.wantsStandIn t = false := by
  obtain rfl : f = 8 := Option.some.inj ((show Tryz.prog.funcNamed "pandect/pandectlaw44.ProofOrders" = some 8 by kernel_rfl).symm.trans hf) |>.symm
  obtain rfl : fn = Tryz.f8 := (Option.some.inj (Tryz.func8.symm.trans hfn)).symm
  refine ⟨by kernel_rfl, fun j t ht => ?_⟩
  rw [Tryz.params8] at ht
  have hall : ∀ x ∈ [30, 29], Tryz.prog.wantsStandIn x = false := by
    intro x hx
    simp only [List.mem_cons, List.not_mem_nil, or_false] at hx
    rcases hx with rfl | rfl <;> kernel_rfl
  exact hall t (by simpa using Array.mem_of_getElem? ht)

/-- the card of the statement -/
theorem card : Rows.ProofOrdersCardSaid :=
  Claim7.holds_tied_plain_at .later [] _ _ _ _ said (fun _ h => by cases h) (by kernel_rfl) (fun _ h => by cases h) proofOrders_row_tie rfl ⟨rfl, rfl⟩ (by kernel_rfl) rfl plain (by kernel_rfl)
end Go.Proofs.YteoclpjbeadkpaaGreatDoor.rowProofOrders
