/- The texts RfFew44 PbMap RfFew3 LwSigned LwPub, merged: walks and plain laws that the statements of layer 44 use. -/
import Derived.Test.YteoclpjbeadkpaaGreatDoorMpH
import Derived.Deep.QuietTactic
import Derived.BigQuiet
set_option linter.unusedSimpArgs false
set_option linter.unusedVariables false
/- WALK: pandectref44.Few (a proof of a moderate size). -/
namespace Go.Proofs.YteoclpjbeadkpaaGreatDoor.Pf
def fewL (p : Pr) : Bool := decide (p.item.id.length + p.item.parent.length + p.item.number.length ≤ 600) && decide (p.item.north.length ≤ 600) && decide (p.item.south.length ≤ 600) && decide (p.path.length ≤ 30) && p.path.all fun t => decide (t.length ≤ 100)
theorem few_iff (p : Pr) : fewL p = true ↔ p.item.id.length + p.item.parent.length + p.item.number.length ≤ 600 ∧ p.item.north.length ≤ 600 ∧ p.item.south.length ≤ 600 ∧ p.path.length ≤ 30 ∧ ∀ t ∈ p.path, t.length ≤ 100 := by
  unfold fewL
  simp only [Bool.and_eq_true, decide_eq_true_eq, List.all_eq_true, and_assoc]
theorem few_false (p : Pr) (h : ¬ (p.item.id.length + p.item.parent.length + p.item.number.length ≤ 600 ∧ p.item.north.length ≤ 600 ∧ p.item.south.length ≤ 600 ∧ p.path.length ≤ 30 ∧ ∀ t ∈ p.path, t.length ≤ 100)) : fewL p = false := by
  cases e : fewL p with
  | false => rfl
  | true => exact absurd ((few_iff p).1 e) h
end Go.Proofs.YteoclpjbeadkpaaGreatDoor.Pf
namespace Go.Proofs.YteoclpjbeadkpaaGreatDoor
open Go.RowKit Go.Shelf Go.Maps

def ItMax (x : Co.It) : Prop := x.id.length ≤ 140737488355328 ∧ x.parent.length ≤ 140737488355328 ∧ x.number.length ≤ 140737488355328 ∧ x.north.length ≤ 140737488355328 ∧ x.south.length ≤ 140737488355328

set_option maxHeartbeats 2000000 in
set_option maxRecDepth 100000 in
theorem few44_any (p : Pf.Pr) (pv : Value) (w : World) (hv : HasStrsC w pv p.path) (hit : ItMax p.item) (hpl : ∀ t ∈ p.path, t.length ≤ 9223372036854775807) (b : Bool) (hb : Hid (Pf.fewL p = b)) :
    Calls Tryz.prog 12 #[prV p pv] w fun e w' => e = .returned (.bool b) ∧ Below w.heap.size w w' := by
  obtain ⟨hvs, pa, pc, rfl, hpc, hpm⟩ := hv
  obtain ⟨count, index, ⟨kind, id, parent, number, north, south, gone⟩, path⟩ := p
  obtain ⟨z1, z2, z3, z4, z5⟩ := hit
  simp only at z1 z2 z3 z4 z5 hvs hpc hpm hpl
  simp only [prV]
  by_cases g0 : id.length + parent.length + number.length ≤ 600
  · skip
    have g0p : (id.length : Int) + (parent.length : Int) + (number.length : Int) ≤ 600 := by omega
    by_cases g1 : north.length ≤ 600
    · skip
      have g1p : (north.length : Int) ≤ 600 := by omega
      by_cases g2 : south.length ≤ 600
      · skip
        have g2p : (south.length : Int) ≤ 600 := by omega
        by_cases g3 : path.length ≤ 30
        · skip
          have g3p : (path.length : Int) ≤ 30 := by omega
          rcases hvs with ⟨rfl, a, c, he⟩ | ⟨h0, bb, off, c, he, hlt, hc⟩
          · cases he
            have hf : Hid (b = true) := by unfold Hid; rw [← hb.out]; exact (Pf.few_iff _).2 ⟨g0, g1, g2, g3, by simp⟩
            clear hb
            go_enter Tryz.func12, Tryz.ntmps12
            go_wp2_with fail
            refine wp_loop_rounds 1 ?_
            rw [rounds_succ]
            go_wp2_with fail
            go_ret
            exact ⟨by rw [hf.out]; rfl, ((Below.refl _ w).alloc (Nat.le_refl _) _).alloc (by simp) _⟩
          · cases he
            have hcb : ∀ W, Below w.heap.size w W → ∀ j, j < path.length → W.cell? ⟨bb, off + j, none⟩ = some (.string ⟨(path.getD j []).toArray⟩) := fun W hW j hj => (hW.cell (p := ⟨bb, off + j, none⟩) hlt).trans (hc j hj)
            have HC := Lib.hid hcb
            clear hcb hc
            go_enter Tryz.func12, Tryz.ntmps12
            go_wp2_with fail
            have hbel : Below w.heap.size w ((w.alloc (.cells #[.int .i64 count, .int .i64 index, .int .i64 kind, .string ⟨id.toArray⟩, .string ⟨parent.toArray⟩, .string ⟨number.toArray⟩, .string ⟨north.toArray⟩, .string ⟨south.toArray⟩, .bool gone, .slice (some ⟨bb, off, none⟩) path.length pc] 29)).alloc (.cells #[.int .i64 kind, .string ⟨id.toArray⟩, .string ⟨parent.toArray⟩, .string ⟨number.toArray⟩, .string ⟨north.toArray⟩, .string ⟨south.toArray⟩, .bool gone] 26)) := ((Below.refl _ w).alloc (Nat.le_refl _) _).alloc (by simp) _
            have hb9 : ((w.alloc (.cells #[.int .i64 count, .int .i64 index, .int .i64 kind, .string ⟨id.toArray⟩, .string ⟨parent.toArray⟩, .string ⟨number.toArray⟩, .string ⟨north.toArray⟩, .string ⟨south.toArray⟩, .bool gone, .slice (some ⟨bb, off, none⟩) path.length pc] 29)).alloc (.cells #[.int .i64 kind, .string ⟨id.toArray⟩, .string ⟨parent.toArray⟩, .string ⟨number.toArray⟩, .string ⟨north.toArray⟩, .string ⟨south.toArray⟩, .bool gone] 26)).cell? ⟨w.heap.size, 9, none⟩ = some (.slice (some ⟨bb, off, none⟩) path.length pc) := cell_of_heap ((heap_alloc_lt _ _ _ (by simp)).trans (heap_alloc_at w _))
            generalize ((w.alloc (.cells #[.int .i64 count, .int .i64 index, .int .i64 kind, .string ⟨id.toArray⟩, .string ⟨parent.toArray⟩, .string ⟨number.toArray⟩, .string ⟨north.toArray⟩, .string ⟨south.toArray⟩, .bool gone, .slice (some ⟨bb, off, none⟩) path.length pc] 29)).alloc (.cells #[.int .i64 kind, .string ⟨id.toArray⟩, .string ⟨parent.toArray⟩, .string ⟨number.toArray⟩, .string ⟨north.toArray⟩, .string ⟨south.toArray⟩, .bool gone] 26)) = W at hbel hb9 ⊢
            have HB := Lib.hid hbel
            clear hbel
            go_loopw [4] (fun i wr => ∃ k : Nat, k ≤ path.length ∧ i = .int .i64 (k : Int) ∧ Hid ((path.take k).all (fun t => decide (t.length ≤ 100)) = true) ∧ W = wr) (fun i _ => path.length - (intOf i).toNat)
            case atStart => exact ⟨0, by omega, rfl, by simp [Hid], rfl⟩
            case round =>
              obtain ⟨k, hk, rfl, HA, rfl⟩ := hrel
              by_cases hkl : k < path.length
              · skip
                have f0 := HC.out _ HB.out k hkl
                have hpk : (path.getD k []).length ≤ 9223372036854775807 := by rw [List.getD_eq_getElem?_getD, List.getElem?_eq_getElem hkl]; exact hpl _ (List.getElem_mem hkl)
                have HS : Hid ((path.take (k + 1)).all (fun t => decide (t.length ≤ 100)) = decide ((path.getD k []).length ≤ 100)) := by
                  unfold Hid
                  rw [List.take_succ_eq_append_getElem hkl, List.all_append, HA.out, List.getD_eq_getElem?_getD, List.getElem?_eq_getElem hkl]; simp
                have HM : Hid (path.getD k [] ∈ path) := by unfold Hid; rw [List.getD_eq_getElem?_getD, List.getElem?_eq_getElem hkl]; exact List.getElem_mem hkl
                generalize path.getD k [] = s at f0 hpk HS HM
                by_cases hs : s.length ≤ 100
                · skip
                  have hsi : (s.length : Int) ≤ 100 := by omega
                  go_wp2_with fail
                  go_roundw
                  case rel => exact ⟨k + 1, by omega, by go_num, by unfold Hid; rw [HS.out]; simpa using hs, trivial⟩
                  case measure => simp [intOf]; omega
                · skip
                  have hsi : 100 < (s.length : Int) := by omega
                  have hf : Hid (b = false) := by unfold Hid; rw [← hb.out]; exact Pf.few_false _ (fun h => hs (h.2.2.2.2 s HM.out))
                  clear hb
                  go_wp2_with fail
                  go_ret
                  exact ⟨by rw [hf.out]; rfl, HB.out⟩
              · skip
                obtain rfl : k = path.length := by omega
                have hf : Hid (b = true) := by
                  unfold Hid; rw [← hb.out]; refine (Pf.few_iff _).2 ⟨g0, g1, g2, g3, fun t hm => ?_⟩
                  have h1 := HA.out
                  rw [List.take_length, List.all_eq_true] at h1
                  simpa using h1 t hm
                clear hb
                go_wp2_with fail
                go_ret
                exact ⟨by rw [hf.out]; rfl, HB.out⟩
        · skip
          have hf : Hid (b = false) := by unfold Hid; rw [← hb.out]; exact Pf.few_false _ (fun h => g3 (h.2.2.2.1))
          clear hb
          have g3n : 30 < (path.length : Int) := by omega
          go_enter Tryz.func12, Tryz.ntmps12
          go_wp2_with fail
          go_ret
          exact ⟨by rw [hf.out]; rfl, ((Below.refl _ w).alloc (Nat.le_refl _) _).alloc (by simp) _⟩
      · skip
        have hf : Hid (b = false) := by unfold Hid; rw [← hb.out]; exact Pf.few_false _ (fun h => g2 (h.2.2.1))
        clear hb
        have g2n : 600 < (south.length : Int) := by omega
        go_enter Tryz.func12, Tryz.ntmps12
        go_wp2_with fail
        go_ret
        exact ⟨by rw [hf.out]; rfl, ((Below.refl _ w).alloc (Nat.le_refl _) _).alloc (by simp) _⟩
    · skip
      have hf : Hid (b = false) := by unfold Hid; rw [← hb.out]; exact Pf.few_false _ (fun h => g1 (h.2.1))
      clear hb
      have g1n : 600 < (north.length : Int) := by omega
      go_enter Tryz.func12, Tryz.ntmps12
      go_wp2_with fail
      go_ret
      exact ⟨by rw [hf.out]; rfl, ((Below.refl _ w).alloc (Nat.le_refl _) _).alloc (by simp) _⟩
  · skip
    have hf : Hid (b = false) := by unfold Hid; rw [← hb.out]; exact Pf.few_false _ (fun h => g0 (h.1))
    clear hb
    have g0n : 600 < (id.length : Int) + (parent.length : Int) + (number.length : Int) := by omega
    go_enter Tryz.func12, Tryz.ntmps12
    go_wp2_with fail
    go_ret
    exact ⟨by rw [hf.out]; rfl, ((Below.refl _ w).alloc (Nat.le_refl _) _).alloc (by simp) _⟩
end Go.Proofs.YteoclpjbeadkpaaGreatDoor
/- The map of what was told first on a day (ProofPublished): in memory and plain. -/
namespace Go.Proofs.YteoclpjbeadkpaaGreatDoor
open Go.RowKit Go.Shelf Go.Maps

def zeroTd : Td := ⟨0, 0, [], false⟩
def fstL (fs : List Td) (d : Int) : Option Td := fs.find? (fun t => t.day == d)
/-- What a reader knows who was told these things. -/
def knows (fs : List Td) : Pf.Rd := fs.map fun t => (t.day, t.cnt, t.root)
theorem find_knows (fs : List Td) (d : Int) : Pf.findL (knows fs) d = (fstL fs d).map fun t => (t.cnt, t.root) := by
  unfold Pf.findL knows fstL
  rw [List.find?_map, Option.map_map]
  rfl
theorem fstL_snoc (fs : List Td) (t : Td) (d : Int) : fstL (fs ++ [t]) d = (fstL fs d).or (if t.day = d then some t else none) := by
  unfold fstL
  rw [List.find?_append]
  by_cases e : t.day = d
  · simp [e]
  · simp [e]
def FMapAt (w : World) (m n : Nat) (fs : List Td) : Prop := ∃ D : DataW Value, w.ownsMap Tryz.prog 3 heldR m n D ∧ (∀ d : Int, has D (.int .i64 d) = (fstL fs d).isSome ∧ ∀ zd, D.atKey (.int .i64 d) zd = match fstL fs d with | some x => .held (tdV x) | none => zd) ∧ size D = fs.length
theorem fmap_new (w : World) : FMapAt (w.alloc (.map #[] 0)) w.heap.size 0 [] := ⟨_, World.ownsMap_made w _ _ _, fun d => ⟨rfl, fun zd => rfl⟩, rfl⟩
theorem FMapAt.kept {w w' : World} {row : Option Nat} {m n : Nat} {fs : List Td} (h : FMapAt w m n fs) (hg : w.grownBy w' row) (hne : some m ≠ row) : FMapAt w' m n fs := by
  obtain ⟨D, h1, h2⟩ := h
  exact ⟨D, World.ownsMap.kept h1 hg hne, h2⟩
theorem FMapAt.below {w w' : World} {m n : Nat} {fs : List Td} (h : FMapAt w m n fs) (hb : Below w.heap.size w w') : FMapAt w' m n fs := h.kept (grown_none hb) (by simp)
theorem FMapAt.lt {w : World} {m n : Nat} {fs : List Td} (h : FMapAt w m n fs) : m < w.heap.size := by
  obtain ⟨D, h1, h2⟩ := h
  exact h1.lt
theorem FMapAt.ne {W : World} {m n : Nat} {fs : List Td} (h : FMapAt W m n fs) {b : Nat} {vs : Array Value} {t : TypeId} {fr : Nat × Nat} (hb : W.heap[b]? = some (.cells vs t fr)) : b ≠ m := by
  rintro rfl
  obtain ⟨D, ⟨es', clock, h1, _⟩, _⟩ := h
  rw [h1] at hb
  cases hb
theorem fmap_look {w : World} {m n : Nat} {fs : List Td} (h : FMapAt w m n fs) (d : Int) (h0 : -9223372036854775808 ≤ d) (h1 : d ≤ 9223372036854775807) :
    (Instr.lookup 64 (.map (some m)) (.int .i64 d) true).run Tryz.prog w = .ok (.tuple #[tdV ((fstL fs d).getD zeroTd), .bool (fstL fs d).isSome]) w := by
  obtain ⟨D, ho, hD, _⟩ := h
  obtain ⟨v, ps, hrun, hv⟩ := World.ownsMap.look_ok ho (int_keyed Tryz.underlying3) Tryz.underlying64 (Tryz.zeroValue46 w) (zd := .held (tdV zeroTd)) (zp := []) rfl (key_int d h0 h1)
  obtain ⟨e1, e2⟩ := hD d
  rw [e1] at hrun
  rw [e2] at hv
  unfold heldR at hv
  cases hf : fstL fs d with
  | some x =>
    rw [hf] at hv hrun
    simp only [Option.some.injEq, Prod.mk.injEq, DataW.held.injEq] at hv
    rw [hrun, hv.1]; rfl
  | none =>
    rw [hf] at hv hrun
    simp only [Option.some.injEq, Prod.mk.injEq, DataW.held.injEq] at hv
    rw [hrun, hv.1]; rfl
theorem fmap_len {w : World} {m n : Nat} {fs : List Td} (h : FMapAt w m n fs) (ty : TypeId) : (Builtin.len_ #[64] ty #[.map (some m)]).run Tryz.prog w = .ok (.int .i64 (fs.length : Int)) w := by
  obtain ⟨D, ho, _, hs⟩ := h
  rw [← hs]
  exact ho.len Tryz.underlying64 ty
theorem fmap_put {w : World} {m n : Nat} {fs : List Td} (h : FMapAt w m n fs) (t : Td) (h0 : -9223372036854775808 ≤ t.day) (h1 : t.day ≤ 9223372036854775807) (hn : n < maxLen) (hs : fstL fs t.day = none) :
    ∃ w', (Instr.mapUpdate 64 (.map (some m)) (.int .i64 t.day) (tdV t)).run Tryz.prog w = .ok () w' ∧ FMapAt w' m (n + 1) (fs ++ [t]) ∧ w.grownBy w' (some m) := by
  obtain ⟨D, ho, hD, hsz⟩ := h
  have hty : Tidy D := ho.tidy (int_keyed Tryz.underlying3)
  obtain ⟨w', hrun, h2, h3⟩ := World.ownsMap.update ho (int_keyed Tryz.underlying3) Tryz.underlying64 hn (key_int t.day h0 h1) (val := tdV t) (d := .held (tdV t)) (ps := []) rfl
  refine ⟨w', hrun, ⟨_, h2, ?_, ?_⟩, h3⟩
  · intro d
    by_cases e : d = t.day
    · subst e
      have hf : fstL (fs ++ [t]) t.day = some t := by rw [fstL_snoc, hs]; simp
      rw [hf]
      exact ⟨has_put_same ho.isMap (by trivial) _, fun zd => atKey_put_same ho.isMap (by trivial) _ _⟩
    · have hf : fstL (fs ++ [t]) d = fstL fs d := by rw [fstL_snoc, if_neg (fun h => e h.symm)]; simp
      rw [hf]
      have hne : (Lit.int .i64 d) ≠ (Lit.int .i64 t.day) := fun h => e (by injection h)
      exact ⟨(has_put_other hne _).trans (hD d).1, fun zd => (atKey_put_other hne _ _).trans ((hD d).2 zd)⟩
  · have h4 := (hD t.day).1
    rw [hs] at h4
    have h5 : has D (.int .i64 t.day) = false := by simpa using h4
    rw [size_put hty, h5, hsz, List.length_append]
    rfl

/-- What happens when a reader is told a thing, beside what a new reader says of it. -/
theorem learn_next {key : List UInt8} {fs : List Td} {t : Td} {sig : List (List UInt8)} {es : Pf.Rd} {er : Int} {es0 : Pf.Rd} {er0 : Int} (h : Pf.learnL key (knows fs) t.day t.cnt t.root sig = (es, er)) (h0 : Pf.learnL key [] t.day t.cnt t.root sig = (es0, er0)) :
    (es = knows fs ∧ (er = 1 ∨ er = 19) ∧ er0 = er) ∨ (∃ x, fstL fs t.day = some x ∧ x.cnt = t.cnt ∧ x.root = t.root ∧ es = knows fs ∧ er = 0 ∧ er0 = 0) ∨
    (∃ x, fstL fs t.day = some x ∧ ¬ (x.root = t.root ∧ x.cnt = t.cnt) ∧ es = knows fs ∧ er = 23 ∧ er0 = 0) ∨ (fstL fs t.day = none ∧ es = knows (fs ++ [t]) ∧ er = 0 ∧ er0 = 0) := by
  unfold Pf.learnL at h h0
  by_cases hb : t.day < 0 ∨ 1000000 < t.day ∨ t.cnt < 0 ∨ 2000 < t.cnt ∨ Dg.isL t.root = false
  · rw [if_pos hb] at h h0
    cases h; cases h0
    exact .inl ⟨rfl, .inl rfl, rfl⟩
  · rw [if_neg hb] at h h0
    by_cases hv : Se.verL key (Pf.msgL t.day t.cnt t.root) sig = false
    · rw [if_pos hv] at h h0
      cases h; cases h0
      exact .inl ⟨rfl, .inr rfl, rfl⟩
    · rw [if_neg hv] at h h0
      have e0 : er0 = 0 := by cases h0; rfl
      subst e0
      rw [find_knows] at h
      cases hf : fstL fs t.day with
      | none =>
        rw [hf] at h
        cases h
        refine .inr (.inr (.inr ⟨rfl, ?_, rfl, rfl⟩))
        unfold knows; simp
      | some x =>
        rw [hf] at h
        simp only [Option.map_some] at h
        by_cases e : x.cnt = t.cnt ∧ x.root = t.root
        · rw [if_pos e] at h
          cases h
          exact .inr (.inl ⟨x, rfl, e.1, e.2, rfl, rfl, rfl⟩)
        · rw [if_neg e] at h
          cases h
          exact .inr (.inr (.inl ⟨x, rfl, fun h => e ⟨h.2, h.1⟩, rfl, rfl, rfl⟩))
theorem knows_length (fs : List Td) : (Pf.daysL (knows fs)).length = fs.length := by
  unfold Pf.daysL knows; rw [List.length_mergeSort, List.length_map, List.length_map]
/-- What a proof is for a day: as what was told first says. -/
theorem was_none {fs : List Td} {day : Int} {p : Pf.Pr} (h : fstL fs day = none) : Pf.wasL (knows fs) day p = 11 := by
  unfold Pf.wasL; rw [find_knows, h]; rfl
theorem was_some {fs : List Td} {day : Int} {p : Pf.Pr} {x : Td} (h : fstL fs day = some x) : Pf.wasL (knows fs) day p = if x.cnt = p.count ∧ Pf.checkL x.root p = true then 0 else 21 := by
  unfold Pf.wasL; rw [find_knows, h]; rfl
end Go.Proofs.YteoclpjbeadkpaaGreatDoor
/- WALK: pandectref03.Few at the seals of layer 44. -/
namespace Go.Proofs.YteoclpjbeadkpaaGreatDoor
open Go.RowKit Go.Shelf Go.Maps

set_option maxHeartbeats 1000000 in
set_option maxRecDepth 100000 in
theorem few3_any (sig : List (List UInt8)) (sv : Value) (w : World) (hs : SealAt w sv sig) (hok : SigOk sig) :
    Calls Tryz.prog 39 #[sv] w fun e w' => e = .returned (.bool true) ∧ Below w.heap.size w w' := by
  obtain ⟨a, c, pa, pc, rfl, h, _⟩ := hs
  have hl := hok.1
  rcases h with ⟨rfl, _⟩ | ⟨h0, b, off, c', hv, hlt, hc⟩
  · cases hl
  rw [hl] at hv
  simp only [Value.slice.injEq, true_and] at hv
  obtain ⟨rfl, rfl⟩ := hv
  have hlen : ∀ k, k < 18 → (sig.getD k []).length ≤ 100 := by
    intro k hk
    have h2 := hok.2.1
    rw [List.all_eq_true] at h2
    have h3 : sig.getD k [] ∈ sig := by
      simp only [List.getD, List.getElem?_eq_getElem (show k < sig.length by omega), Option.getD_some]
      exact List.getElem_mem _
    rw [isL_len (h2 _ h3)]; decide
  rw [hl] at hc
  have hb : Hid (Below w.heap.size w (w.alloc (.cells #[.int .i64 0, .slice (some ⟨b, off, none⟩) 18 c, .slice pa 0 pc] 42))) := (Below.refl _ w).alloc (Nat.le_refl _) _
  have hA : Hid (∀ j, j < 18 → (w.alloc (.cells #[.int .i64 0, .slice (some ⟨b, off, none⟩) 18 c, .slice pa 0 pc] 42)).cell? ⟨b, off + j, none⟩ = some (.string ⟨(sig.getD j []).toArray⟩)) := fun j hj => (hb.out.cell (p := ⟨b, off + j, none⟩) hlt).trans (hc j hj)
  clear hc h0 hl hok
  go_enter Tryz.func39, Tryz.ntmps39
  go_wp2_with fail
  go_loop [3] (fun i => ∃ k : Nat, k ≤ 18 ∧ i = .int .i64 (k : Int)) (fun i => 18 - (intOf i).toNat)
  case atStart => exact ⟨0, by omega, rfl⟩
  case round =>
    obtain ⟨k, hk, rfl⟩ := hrel
    by_cases hkl : k < 18
    · have hck := hA.out k hkl
      have hlk := hlen k hkl
      generalize sig.getD k [] = s at hck hlk
      go_wp2_with fail
      go_round
      case rel => exact ⟨k + 1, by omega, by go_num⟩
      case measure => simp [intOf]; omega
    · obtain rfl : k = 18 := by omega
      go_wp2_with fail
      refine wp_loop_rounds 1 ?_
      rw [rounds_succ]
      go_wp2_with fail
      go_ret
      exact ⟨rfl, hb.out⟩
end Go.Proofs.YteoclpjbeadkpaaGreatDoor
/- WALK: ProofSigned. -/
namespace Go.Proofs.YteoclpjbeadkpaaGreatDoor
open Go.RowKit Go.Shelf Go.Maps

theorem hasTds_one {W : World} {b c : Nat} {day cnt : Int} {root : List UInt8} {wrong : Bool} (h : W.heap[b]? = some (.cells #[.int .i64 day, .int .i64 cnt, .string ⟨root.toArray⟩, .bool wrong] 46 (0, 0))) : HasTds W (.slice (some ⟨b, 0, none⟩) 1 c) [⟨day, cnt, root, wrong⟩] := by
  refine Or.inr ⟨by simp, b, 0, c, rfl, (Array.getElem?_eq_some_iff.1 h).1, fun j hj => ?_⟩
  match j, hj with
  | 0, _ => exact ⟨cell_of_heap h, cell_of_heap h, cell_of_heap h, cell_of_heap h⟩
  | (n + 1), h => exact absurd h (by show ¬ (n + 1 < 1); omega)
theorem short_one {day cnt : Int} {root : List UInt8} {wrong : Bool} (h : shortL [⟨day, cnt, root, wrong⟩] 1 = true) : root.length ≤ 100 := by
  simpa [shortL] using h
theorem sigOk' {wrong : Bool} {day cnt : Int} {root : List UInt8} {sig : List (List UInt8)} (h : Hid (sgL wrong day cnt root = sig)) : SigOk sig := by rw [← h.out]; exact sigOk _ _
theorem ver_own' (d c : Int) (r : List UInt8) : Se.verL offKey (Pf.msgL d c r) (Se.sigL (secL false) (Pf.msgL d c r)) = true := Se.ver_sig officeL _
theorem sgn_any (day cnt : Int) (root : List UInt8) (wrong : Bool) (W : World) (ht : Tab W) (hd0 : -9223372036854775808 ≤ day) (hd1 : day ≤ 9223372036854775807) (hc0 : -9223372036854775808 ≤ cnt) (hc1 : cnt ≤ 9223372036854775807) (hr : root.length ≤ 100)
    (sig : List (List UInt8)) (hsig : Hid (sgL wrong day cnt root = sig)) :
    Calls Tryz.prog 21 #[.agg #[.int .i64 day, .int .i64 cnt, .string ⟨root.toArray⟩, .bool wrong]] W fun e w' => ∃ a c pa pc, e = .returned (.tuple #[.string ⟨offKey.toArray⟩, .agg #[.int .i64 0, .slice a 18 c, .slice pa 0 pc]]) ∧ HasStrsC w' (.slice a 18 c) sig ∧ Below W.heap.size W w' := by
  refine (signed_any day cnt root wrong W ht hd0 hd1 hc0 hc1 (Nat.le_trans hr (by decide)) offKey rfl sig hsig).mono ?_
  rintro e w' ⟨sv, rfl, ⟨a, c, pa, pc, rfl, h⟩, b⟩
  exact ⟨a, c, pa, pc, rfl, h, b⟩
theorem learn_cases {key : List UInt8} {day cnt : Int} {root : List UInt8} {sig : List (List UInt8)} {es : Pf.Rd} {er : Int} (h : Pf.learnL key [] day cnt root sig = (es, er)) :
    (es = [] ∧ er = 1) ∨ ((0 ≤ day ∧ day ≤ 1000000 ∧ 0 ≤ cnt ∧ cnt ≤ 2000 ∧ Dg.isL root = true) ∧ Se.verL key (Pf.msgL day cnt root) sig = true ∧ es = [(day, cnt, root)] ∧ er = 0) ∨
    ((0 ≤ day ∧ day ≤ 1000000 ∧ 0 ≤ cnt ∧ cnt ≤ 2000 ∧ Dg.isL root = true) ∧ Se.verL key (Pf.msgL day cnt root) sig = false ∧ es = [] ∧ er = 19) := by
  unfold Pf.learnL at h
  by_cases hb : day < 0 ∨ 1000000 < day ∨ cnt < 0 ∨ 2000 < cnt ∨ Dg.isL root = false
  · rw [if_pos hb] at h
    cases h; exact .inl ⟨rfl, rfl⟩
  · rw [if_neg hb] at h
    have hg : 0 ≤ day ∧ day ≤ 1000000 ∧ 0 ≤ cnt ∧ cnt ≤ 2000 ∧ Dg.isL root = true := by
      simp only [not_or, Bool.not_eq_false] at hb
      exact ⟨by omega, by omega, by omega, by omega, hb.2.2.2.2⟩
    by_cases hv : Se.verL key (Pf.msgL day cnt root) sig = false
    · rw [if_pos hv] at h
      cases h; exact .inr (.inr ⟨hg, hv, rfl, rfl⟩)
    · rw [if_neg hv] at h
      cases h; exact .inr (.inl ⟨hg, by simpa using hv, rfl, rfl⟩)
theorem days_len (es : Pf.Rd) : (Pf.daysL es).length = es.length := by unfold Pf.daysL; rw [List.length_mergeSort, List.length_map]

set_option maxHeartbeats 16000000 in
set_option maxRecDepth 100000 in
theorem signedLaw_any (day cnt : Int) (root : List UInt8) (wrong : Bool) (w : World) (ht : Tab w) (hd0 : -9223372036854775808 ≤ day) (hd1 : day ≤ 9223372036854775807) (hc0 : -9223372036854775808 ≤ cnt) (hc1 : cnt ≤ 9223372036854775807) (hrl : root.length ≤ 140737488355328) :
    Calls Tryz.prog 7 #[.agg #[.int .i64 day, .int .i64 cnt, .string ⟨root.toArray⟩, .bool wrong]] w fun e w' => e = .returned (.bool true) ∧ Below w.heap.size w w' := by
  have hmm := @run_makeMap Tryz.prog
  obtain ⟨sb, hsb⟩ : ∃ sb, Hid (shortL [⟨day, cnt, root, wrong⟩] 1 = sb) := ⟨_, rfl⟩
  obtain ⟨sig, hsig⟩ : ∃ sig, Hid (sgL wrong day cnt root = sig) := ⟨_, rfl⟩
  obtain ⟨⟨es, er⟩, hlr⟩ : ∃ r, Hid (Pf.learnL offKey [] day cnt root sig = r) := ⟨_, rfl⟩
  go_enter Tryz.func7, Tryz.ntmps7
  have bel := Below.refl w.heap.size w
  have Hbel := Lib.hid bel
  clear bel
  go_wp2_with fail
  have bel := Hbel.out
  clear Hbel
  obtain ⟨w1, hw⟩ : ∃ z, w.alloc (.cells #[.int .i64 day, .int .i64 cnt, .string ⟨root.toArray⟩, .bool wrong] 46) = z := ⟨_, rfl⟩
  have c : Below w.heap.size w w1 := by rw [← hw]; exact (Below.refl _ _).alloc (Nat.le_refl _) _
  have mt : w1.heap[w.heap.size]? = some (.cells #[.int .i64 day, .int .i64 cnt, .string ⟨root.toArray⟩, .bool wrong] 46 (0, 0)) := by rw [← hw]; exact heap_alloc_at _ _
  rw [hw]
  clear hw
  replace bel := below_next bel c
  clear c
  obtain ⟨bt, hb⟩ : ∃ b, w.heap.size = b := ⟨_, rfl⟩
  rw [hb] at mt ⊢
  clear hb
  refine (head44_any _ (ht.below bel (Nat.le_refl _))).mono ?_
  rintro e w2 ⟨rfl, c⟩
  replace bel := below_next bel c
  replace mt := (c.block _ (Array.getElem?_eq_some_iff.1 mt).1).trans mt
  clear c
  have q_mt_0 := cell_of_heap (i := 0) mt
  have q_mt_1 := cell_of_heap (i := 1) mt
  have q_mt_2 := cell_of_heap (i := 2) mt
  have q_mt_3 := cell_of_heap (i := 3) mt
  have Hbel := Lib.hid bel
  have Hmt := Lib.hid mt
  clear bel mt
  go_wp2_with fail
  have bel := Hbel.out
  have mt := Hmt.out
  clear Hbel Hmt
  clear q_mt_0 q_mt_1 q_mt_2 q_mt_3
  obtain ⟨w3, hw⟩ : ∃ z, w2.alloc (.cells #[.int .i64 day, .int .i64 cnt, .string ⟨root.toArray⟩, .bool wrong] 46) = z := ⟨_, rfl⟩
  have c : Below w2.heap.size w2 w3 := by rw [← hw]; exact (Below.refl _ _).alloc (Nat.le_refl _) _
  have mx : w3.heap[w2.heap.size]? = some (.cells #[.int .i64 day, .int .i64 cnt, .string ⟨root.toArray⟩, .bool wrong] 46 (0, 0)) := by rw [← hw]; exact heap_alloc_at _ _
  rw [hw]
  clear hw
  replace bel := below_next bel c
  replace mt := (c.block _ (Array.getElem?_eq_some_iff.1 mt).1).trans mt
  clear c
  obtain ⟨bx, hb⟩ : ∃ b, w2.heap.size = b := ⟨_, rfl⟩
  rw [hb] at mx ⊢
  clear hb
  have htd : HasTds w3 (.slice (some ⟨bx, 0, none⟩) 1 1) [⟨day, cnt, root, wrong⟩] := hasTds_one mx
  clear mx
  refine (short_any [⟨day, cnt, root, wrong⟩] 1 _ _ htd (by simp) (by decide) (by simpa using hrl) sb hsb).mono ?_
  rintro e w4 ⟨rfl, c⟩
  clear htd
  replace bel := below_next bel c
  replace mt := (c.block _ (Array.getElem?_eq_some_iff.1 mt).1).trans mt
  clear c
  cases sb
  · skip
    have Hbel := Lib.hid bel
    have Hmt := Lib.hid mt
    clear bel mt
    go_wp2_with fail
    have bel := Hbel.out
    have mt := Hmt.out
    clear Hbel Hmt
    go_ret
    exact ⟨rfl, bel⟩
  · skip
    have hr100 : root.length ≤ 100 := short_one hsb.out
    have q_mt_0 := cell_of_heap (i := 0) mt
    have q_mt_1 := cell_of_heap (i := 1) mt
    have q_mt_2 := cell_of_heap (i := 2) mt
    have q_mt_3 := cell_of_heap (i := 3) mt
    have Hbel := Lib.hid bel
    have Hmt := Lib.hid mt
    clear bel mt
    go_wp2_with fail
    have bel := Hbel.out
    have mt := Hmt.out
    clear Hbel Hmt
    clear q_mt_0 q_mt_1 q_mt_2 q_mt_3
    refine (sgn_any day cnt root wrong _ (ht.below bel (Nat.le_refl _)) hd0 hd1 hc0 hc1 hr100 sig hsig).mono ?_
    rintro e w5 ⟨sa, sc, sp, sq, rfl, sg, c⟩
    replace bel := below_next bel c
    replace mt := (c.block _ (Array.getElem?_eq_some_iff.1 mt).1).trans mt
    clear c
    have Hbel := Lib.hid bel
    have Hmt := Lib.hid mt
    have Hsg := Lib.hid sg
    clear bel mt sg
    go_wp2_with fail
    have bel := Hbel.out
    have mt := Hmt.out
    have sg := Hsg.out
    clear Hbel Hmt Hsg
    obtain ⟨w6, hw⟩ : ∃ z, w5.alloc (.cells #[.int .i64 0, .slice sa 18 sc, .slice sp 0 sq] 42) = z := ⟨_, rfl⟩
    have c : Below w5.heap.size w5 w6 := by rw [← hw]; exact (Below.refl _ _).alloc (Nat.le_refl _) _
    have ms : w6.heap[w5.heap.size]? = some (.cells #[.int .i64 0, .slice sa 18 sc, .slice sp 0 sq] 42 (0, 0)) := by rw [← hw]; exact heap_alloc_at _ _
    rw [hw]
    clear hw
    replace bel := below_next bel c
    replace mt := (c.block _ (Array.getElem?_eq_some_iff.1 mt).1).trans mt
    replace sg := sg.below c (Nat.le_refl _)
    clear c
    obtain ⟨bs, hb⟩ : ∃ b, w5.heap.size = b := ⟨_, rfl⟩
    rw [hb] at ms ⊢
    clear hb
    refine (newR_any offKey _).mono ?_
    rintro e w7 ⟨rfl, rd, c⟩
    obtain ⟨rb, hrb⟩ : ∃ r, w6.heap.size + 1 = r := ⟨_, rfl⟩
    obtain ⟨rm, hrm⟩ : ∃ r, w6.heap.size = r := ⟨_, rfl⟩
    have hrw : w.heap.size ≤ rm := by rw [← hrm]; exact bel.size
    rw [hrb, hrm] at rd
    rw [hrb]
    clear hrb hrm
    replace bel := below_next bel c
    replace mt := (c.block _ (Array.getElem?_eq_some_iff.1 mt).1).trans mt
    replace sg := sg.below c (Nat.le_refl _)
    replace ms := (c.block _ (Array.getElem?_eq_some_iff.1 ms).1).trans ms
    clear c
    have q_mt_0 := cell_of_heap (i := 0) mt
    have q_mt_1 := cell_of_heap (i := 1) mt
    have q_mt_2 := cell_of_heap (i := 2) mt
    have q_ms_0 := cell_of_heap (i := 0) ms
    have q_ms_1 := cell_of_heap (i := 1) ms
    have q_ms_2 := cell_of_heap (i := 2) ms
    have Hbel := Lib.hid bel
    have Hmt := Lib.hid mt
    have Hsg := Lib.hid sg
    have Hms := Lib.hid ms
    have Hrd := Lib.hid rd
    clear bel mt sg ms rd
    go_wp2_with fail
    have bel := Hbel.out
    have mt := Hmt.out
    have sg := Hsg.out
    have ms := Hms.out
    have rd := Hrd.out
    clear Hbel Hmt Hsg Hms Hrd
    clear q_mt_0 q_mt_1 q_mt_2 q_ms_0 q_ms_1 q_ms_2
    have mm := rd.2.1
    refine (learn_any offKey root day cnt sig _ rb rm 0 [] _ (ht.below bel (Nat.le_refl _)) rd ⟨sa, sc, sp, sq, rfl, sg⟩ (by rw [← hsig.out]; exact sigOk _ _) hd0 hd1 hc0 hc1 (by omega) (by decide) (es, er) hlr).mono ?_
    rintro e w8 ⟨rfl, rd2, g⟩
    replace bel := bel.grown g bel.size (fun k e => by injection e with e; omega)
    replace mt := map_heap mm g mt
    replace sg := sg.grown mm g
    replace ms := map_heap mm g ms
    clear g mm
    clear rd
    have rd := rd2
    clear rd2
    rcases learn_cases hlr.out with ⟨rfl, rfl⟩ | ⟨⟨k1, k2, k3, k4, k5⟩, hver, rfl, rfl⟩ | ⟨⟨k1, k2, k3, k4, k5⟩, hver, rfl, rfl⟩
    · skip
      by_cases hk0 : 0 ≤ day
      · skip
        by_cases hk1 : day ≤ 1000000
        · skip
          by_cases hk2 : 0 ≤ cnt
          · skip
            by_cases hk3 : cnt ≤ 2000
            · skip
              have q_mt_0 := cell_of_heap (i := 0) mt
              have q_mt_1 := cell_of_heap (i := 1) mt
              have q_mt_2 := cell_of_heap (i := 2) mt
              have q_mt_3 := cell_of_heap (i := 3) mt
              have Hbel := Lib.hid bel
              have Hmt := Lib.hid mt
              have Hsg := Lib.hid sg
              have Hms := Lib.hid ms
              have Hrd := Lib.hid rd
              clear bel mt sg ms rd
              go_wp2_with fail
              have bel := Hbel.out
              have mt := Hmt.out
              have sg := Hsg.out
              have ms := Hms.out
              have rd := Hrd.out
              clear Hbel Hmt Hsg Hms Hrd
              clear q_mt_0 q_mt_1 q_mt_2 q_mt_3
              refine (days_any offKey rb rm 1 [] _ rd (by decide)).mono ?_
              rintro e w9 ⟨dv, rfl, hdv, c⟩
              replace bel := below_next bel c
              replace mt := (c.block _ (Array.getElem?_eq_some_iff.1 mt).1).trans mt
              replace sg := sg.below c (Nat.le_refl _)
              replace ms := (c.block _ (Array.getElem?_eq_some_iff.1 ms).1).trans ms
              replace rd := rd.below c
              clear c
              obtain ⟨da, dc, rfl⟩ := hdv.shape
              clear hdv
              rw [days_len]
              have Hbel := Lib.hid bel
              have Hmt := Lib.hid mt
              have Hsg := Lib.hid sg
              have Hms := Lib.hid ms
              have Hrd := Lib.hid rd
              clear bel mt sg ms rd
              go_wp2_with fail
              have bel := Hbel.out
              have mt := Hmt.out
              have sg := Hsg.out
              have ms := Hms.out
              have rd := Hrd.out
              clear Hbel Hmt Hsg Hms Hrd
              go_ret
              exact ⟨rfl, bel⟩
            · skip
              have q_mt_0 := cell_of_heap (i := 0) mt
              have q_mt_1 := cell_of_heap (i := 1) mt
              have q_mt_2 := cell_of_heap (i := 2) mt
              have q_mt_3 := cell_of_heap (i := 3) mt
              have Hbel := Lib.hid bel
              have Hmt := Lib.hid mt
              have Hsg := Lib.hid sg
              have Hms := Lib.hid ms
              have Hrd := Lib.hid rd
              clear bel mt sg ms rd
              go_wp2_with fail
              have bel := Hbel.out
              have mt := Hmt.out
              have sg := Hsg.out
              have ms := Hms.out
              have rd := Hrd.out
              clear Hbel Hmt Hsg Hms Hrd
              clear q_mt_0 q_mt_1 q_mt_2 q_mt_3
              refine (days_any offKey rb rm 1 [] _ rd (by decide)).mono ?_
              rintro e w9 ⟨dv, rfl, hdv, c⟩
              replace bel := below_next bel c
              replace mt := (c.block _ (Array.getElem?_eq_some_iff.1 mt).1).trans mt
              replace sg := sg.below c (Nat.le_refl _)
              replace ms := (c.block _ (Array.getElem?_eq_some_iff.1 ms).1).trans ms
              replace rd := rd.below c
              clear c
              obtain ⟨da, dc, rfl⟩ := hdv.shape
              clear hdv
              rw [days_len]
              have Hbel := Lib.hid bel
              have Hmt := Lib.hid mt
              have Hsg := Lib.hid sg
              have Hms := Lib.hid ms
              have Hrd := Lib.hid rd
              clear bel mt sg ms rd
              go_wp2_with fail
              have bel := Hbel.out
              have mt := Hmt.out
              have sg := Hsg.out
              have ms := Hms.out
              have rd := Hrd.out
              clear Hbel Hmt Hsg Hms Hrd
              go_ret
              exact ⟨rfl, bel⟩
          · skip
            have q_mt_0 := cell_of_heap (i := 0) mt
            have q_mt_1 := cell_of_heap (i := 1) mt
            have q_mt_2 := cell_of_heap (i := 2) mt
            have q_mt_3 := cell_of_heap (i := 3) mt
            have Hbel := Lib.hid bel
            have Hmt := Lib.hid mt
            have Hsg := Lib.hid sg
            have Hms := Lib.hid ms
            have Hrd := Lib.hid rd
            clear bel mt sg ms rd
            go_wp2_with fail
            have bel := Hbel.out
            have mt := Hmt.out
            have sg := Hsg.out
            have ms := Hms.out
            have rd := Hrd.out
            clear Hbel Hmt Hsg Hms Hrd
            clear q_mt_0 q_mt_1 q_mt_2 q_mt_3
            refine (days_any offKey rb rm 1 [] _ rd (by decide)).mono ?_
            rintro e w9 ⟨dv, rfl, hdv, c⟩
            replace bel := below_next bel c
            replace mt := (c.block _ (Array.getElem?_eq_some_iff.1 mt).1).trans mt
            replace sg := sg.below c (Nat.le_refl _)
            replace ms := (c.block _ (Array.getElem?_eq_some_iff.1 ms).1).trans ms
            replace rd := rd.below c
            clear c
            obtain ⟨da, dc, rfl⟩ := hdv.shape
            clear hdv
            rw [days_len]
            have Hbel := Lib.hid bel
            have Hmt := Lib.hid mt
            have Hsg := Lib.hid sg
            have Hms := Lib.hid ms
            have Hrd := Lib.hid rd
            clear bel mt sg ms rd
            go_wp2_with fail
            have bel := Hbel.out
            have mt := Hmt.out
            have sg := Hsg.out
            have ms := Hms.out
            have rd := Hrd.out
            clear Hbel Hmt Hsg Hms Hrd
            go_ret
            exact ⟨rfl, bel⟩
        · skip
          have q_mt_0 := cell_of_heap (i := 0) mt
          have q_mt_1 := cell_of_heap (i := 1) mt
          have q_mt_2 := cell_of_heap (i := 2) mt
          have q_mt_3 := cell_of_heap (i := 3) mt
          have Hbel := Lib.hid bel
          have Hmt := Lib.hid mt
          have Hsg := Lib.hid sg
          have Hms := Lib.hid ms
          have Hrd := Lib.hid rd
          clear bel mt sg ms rd
          go_wp2_with fail
          have bel := Hbel.out
          have mt := Hmt.out
          have sg := Hsg.out
          have ms := Hms.out
          have rd := Hrd.out
          clear Hbel Hmt Hsg Hms Hrd
          clear q_mt_0 q_mt_1 q_mt_2 q_mt_3
          refine (days_any offKey rb rm 1 [] _ rd (by decide)).mono ?_
          rintro e w9 ⟨dv, rfl, hdv, c⟩
          replace bel := below_next bel c
          replace mt := (c.block _ (Array.getElem?_eq_some_iff.1 mt).1).trans mt
          replace sg := sg.below c (Nat.le_refl _)
          replace ms := (c.block _ (Array.getElem?_eq_some_iff.1 ms).1).trans ms
          replace rd := rd.below c
          clear c
          obtain ⟨da, dc, rfl⟩ := hdv.shape
          clear hdv
          rw [days_len]
          have Hbel := Lib.hid bel
          have Hmt := Lib.hid mt
          have Hsg := Lib.hid sg
          have Hms := Lib.hid ms
          have Hrd := Lib.hid rd
          clear bel mt sg ms rd
          go_wp2_with fail
          have bel := Hbel.out
          have mt := Hmt.out
          have sg := Hsg.out
          have ms := Hms.out
          have rd := Hrd.out
          clear Hbel Hmt Hsg Hms Hrd
          go_ret
          exact ⟨rfl, bel⟩
      · skip
        have q_mt_0 := cell_of_heap (i := 0) mt
        have q_mt_1 := cell_of_heap (i := 1) mt
        have q_mt_2 := cell_of_heap (i := 2) mt
        have q_mt_3 := cell_of_heap (i := 3) mt
        have Hbel := Lib.hid bel
        have Hmt := Lib.hid mt
        have Hsg := Lib.hid sg
        have Hms := Lib.hid ms
        have Hrd := Lib.hid rd
        clear bel mt sg ms rd
        go_wp2_with fail
        have bel := Hbel.out
        have mt := Hmt.out
        have sg := Hsg.out
        have ms := Hms.out
        have rd := Hrd.out
        clear Hbel Hmt Hsg Hms Hrd
        clear q_mt_0 q_mt_1 q_mt_2 q_mt_3
        refine (days_any offKey rb rm 1 [] _ rd (by decide)).mono ?_
        rintro e w9 ⟨dv, rfl, hdv, c⟩
        replace bel := below_next bel c
        replace mt := (c.block _ (Array.getElem?_eq_some_iff.1 mt).1).trans mt
        replace sg := sg.below c (Nat.le_refl _)
        replace ms := (c.block _ (Array.getElem?_eq_some_iff.1 ms).1).trans ms
        replace rd := rd.below c
        clear c
        obtain ⟨da, dc, rfl⟩ := hdv.shape
        clear hdv
        rw [days_len]
        have Hbel := Lib.hid bel
        have Hmt := Lib.hid mt
        have Hsg := Lib.hid sg
        have Hms := Lib.hid ms
        have Hrd := Lib.hid rd
        clear bel mt sg ms rd
        go_wp2_with fail
        have bel := Hbel.out
        have mt := Hmt.out
        have sg := Hsg.out
        have ms := Hms.out
        have rd := Hrd.out
        clear Hbel Hmt Hsg Hms Hrd
        go_ret
        exact ⟨rfl, bel⟩
    · cases wrong
      · skip
        have hL16 : root.length = 16 := isL_len k5
        have q_mt_0 := cell_of_heap (i := 0) mt
        have q_mt_1 := cell_of_heap (i := 1) mt
        have q_mt_2 := cell_of_heap (i := 2) mt
        have q_mt_3 := cell_of_heap (i := 3) mt
        have Hbel := Lib.hid bel
        have Hmt := Lib.hid mt
        have Hsg := Lib.hid sg
        have Hms := Lib.hid ms
        have Hrd := Lib.hid rd
        clear bel mt sg ms rd
        go_wp2_with fail
        have bel := Hbel.out
        have mt := Hmt.out
        have sg := Hsg.out
        have ms := Hms.out
        have rd := Hrd.out
        clear Hbel Hmt Hsg Hms Hrd
        clear q_mt_0 q_mt_1 q_mt_2 q_mt_3
        clear hL16
        obtain ⟨x, hx⟩ : ∃ x, Hid (Pf.msgL day cnt root = x) := ⟨_, rfl⟩
        have hxl : x.length ≤ 35184372088832 := by rw [← hx.out]; unfold Pf.msgL Dg.listL; rw [Dg.sumL_length]; decide
        rw [hx.out] at hver
        have hv2 : HasStrsC w8 (.slice sa 18 sc) sig := sg
        have CM : Hid (∀ A, Below w8.heap.size w8 A → Calls Tryz.prog 19 #[.int .i64 day, .int .i64 cnt, .string ⟨root.toArray⟩] A fun e w' => e = .returned (.string ⟨x.toArray⟩) ∧ Below A.heap.size A w') := fun A hA => message_any day cnt root x A (ht.below (below_next bel hA) (Nat.le_refl _)) hd0 hd1 hc0 hc1 (by omega) hx
        have CV : Hid (∀ A, Below w8.heap.size w8 A → Calls Tryz.prog 38 #[.string ⟨offKey.toArray⟩, .string ⟨x.toArray⟩, .agg #[.int .i64 0, .slice sa 18 sc, .slice sp 0 sq]] A fun e w' => e = .returned (.bool true) ∧ Below A.heap.size A w') := fun A hA => by rw [← hver]; exact verify_any offKey x sig sa sc sp sq A (ht.below (below_next bel hA) (Nat.le_refl _)) (hv2.below hA (Nat.le_refl _)) (sigOk' hsig).1 (sigOk' hsig).2.1 (sigOk' hsig).2.2 hxl
        have SN : Hid (∀ A B, (fun Y => Y.cell? ⟨bt, 0, none⟩ = some (.int .i64 day) ∧ Y.cell? ⟨bt, 1, none⟩ = some (.int .i64 cnt) ∧ Y.cell? ⟨bt, 2, none⟩ = some (.string ⟨root.toArray⟩) ∧ Y.cell? ⟨bt, 3, none⟩ = some (.bool false) ∧ Y.cell? ⟨bs, 0, none⟩ = some (.int .i64 0) ∧ Y.cell? ⟨bs, 1, none⟩ = some (.slice sa 18 sc) ∧ Y.cell? ⟨bs, 2, none⟩ = some (.slice sp 0 sq) ∧ Below w8.heap.size w8 Y) A → Below A.heap.size A B → (fun Y => Y.cell? ⟨bt, 0, none⟩ = some (.int .i64 day) ∧ Y.cell? ⟨bt, 1, none⟩ = some (.int .i64 cnt) ∧ Y.cell? ⟨bt, 2, none⟩ = some (.string ⟨root.toArray⟩) ∧ Y.cell? ⟨bt, 3, none⟩ = some (.bool false) ∧ Y.cell? ⟨bs, 0, none⟩ = some (.int .i64 0) ∧ Y.cell? ⟨bs, 1, none⟩ = some (.slice sa 18 sc) ∧ Y.cell? ⟨bs, 2, none⟩ = some (.slice sp 0 sq) ∧ Below w8.heap.size w8 Y) B) := by
          intro A B h c
          obtain ⟨h0, h1, h2, h3, h4, h5, h6, hb⟩ := h
          have lt := Nat.lt_of_lt_of_le (Array.getElem?_eq_some_iff.1 mt).1 hb.size
          have ls := Nat.lt_of_lt_of_le (Array.getElem?_eq_some_iff.1 ms).1 hb.size
          exact ⟨(c.cell (p := ⟨bt, 0, none⟩) lt).trans h0, (c.cell (p := ⟨bt, 1, none⟩) lt).trans h1, (c.cell (p := ⟨bt, 2, none⟩) lt).trans h2, (c.cell (p := ⟨bt, 3, none⟩) lt).trans h3, (c.cell (p := ⟨bs, 0, none⟩) ls).trans h4, (c.cell (p := ⟨bs, 1, none⟩) ls).trans h5, (c.cell (p := ⟨bs, 2, none⟩) ls).trans h6, below_next hb c⟩
        have hS0 : (fun Y => Y.cell? ⟨bt, 0, none⟩ = some (.int .i64 day) ∧ Y.cell? ⟨bt, 1, none⟩ = some (.int .i64 cnt) ∧ Y.cell? ⟨bt, 2, none⟩ = some (.string ⟨root.toArray⟩) ∧ Y.cell? ⟨bt, 3, none⟩ = some (.bool false) ∧ Y.cell? ⟨bs, 0, none⟩ = some (.int .i64 0) ∧ Y.cell? ⟨bs, 1, none⟩ = some (.slice sa 18 sc) ∧ Y.cell? ⟨bs, 2, none⟩ = some (.slice sp 0 sq) ∧ Below w8.heap.size w8 Y) w8 := ⟨cell_of_heap mt, cell_of_heap mt, cell_of_heap mt, cell_of_heap mt, cell_of_heap ms, cell_of_heap ms, cell_of_heap ms, Below.refl _ _⟩
        have hS1 := SN.out _ _ hS0 (Below.refl _ _).drew
        try simp only at hS0 hS1
        have Hbel := Lib.hid bel
        have Hmt := Lib.hid mt
        have Hsg := Lib.hid sg
        have Hms := Lib.hid ms
        have Hrd := Lib.hid rd
        clear bel mt sg ms rd
        go_region_held3 (fun Y => Y.cell? ⟨bt, 0, none⟩ = some (.int .i64 day) ∧ Y.cell? ⟨bt, 1, none⟩ = some (.int .i64 cnt) ∧ Y.cell? ⟨bt, 2, none⟩ = some (.string ⟨root.toArray⟩) ∧ Y.cell? ⟨bt, 3, none⟩ = some (.bool false) ∧ Y.cell? ⟨bs, 0, none⟩ = some (.int .i64 0) ∧ Y.cell? ⟨bs, 1, none⟩ = some (.slice sa 18 sc) ∧ Y.cell? ⟨bs, 2, none⟩ = some (.slice sp 0 sq) ∧ Below w8.heap.size w8 Y) (first | exact hS0 | exact hS1 | assumption) (first | (go_at_call 19; (with_reducible refine (CM.out _ (And.right (And.right (And.right (And.right (And.right (And.right (And.right (by assumption))))))))).mono ?_); rintro e z1 ⟨rfl, c1⟩; have hSa := SN.out _ _ (by assumption) c1; try simp only at hSa) | (go_at_call 38; (with_reducible refine (CV.out _ (And.right (And.right (And.right (And.right (And.right (And.right (And.right (by assumption))))))))).mono ?_); rintro e z2 ⟨rfl, c2⟩; have hSb := SN.out _ _ (by assumption) c2; try simp only at hSb))
        have bel := Hbel.out
        have mt := Hmt.out
        have sg := Hsg.out
        have ms := Hms.out
        have rd := Hrd.out
        clear Hbel Hmt Hsg Hms Hrd
        obtain ⟨_, _, _, _, _, _, _, c⟩ := hSb
        replace bel := below_next bel c
        replace mt := (c.block _ (Array.getElem?_eq_some_iff.1 mt).1).trans mt
        replace sg := sg.below c (Nat.le_refl _)
        replace ms := (c.block _ (Array.getElem?_eq_some_iff.1 ms).1).trans ms
        replace rd := rd.below c
        clear c
        clear hS0 hS1
        have q_mt_0 := cell_of_heap (i := 0) mt
        have q_mt_1 := cell_of_heap (i := 1) mt
        have q_mt_2 := cell_of_heap (i := 2) mt
        have q_mt_3 := cell_of_heap (i := 3) mt
        have q_ms_0 := cell_of_heap (i := 0) ms
        have q_ms_1 := cell_of_heap (i := 1) ms
        have q_ms_2 := cell_of_heap (i := 2) ms
        have Hbel := Lib.hid bel
        have Hmt := Lib.hid mt
        have Hsg := Lib.hid sg
        have Hms := Lib.hid ms
        have Hrd := Lib.hid rd
        clear bel mt sg ms rd
        go_wp2_with fail
        have bel := Hbel.out
        have mt := Hmt.out
        have sg := Hsg.out
        have ms := Hms.out
        have rd := Hrd.out
        clear Hbel Hmt Hsg Hms Hrd
        clear q_mt_0 q_mt_1 q_mt_2 q_mt_3 q_ms_0 q_ms_1 q_ms_2
        refine (few3_any sig _ _ ⟨sa, sc, sp, sq, rfl, sg⟩ (sigOk' hsig)).mono ?_
        rintro e w9 ⟨rfl, c⟩
        replace bel := below_next bel c
        replace mt := (c.block _ (Array.getElem?_eq_some_iff.1 mt).1).trans mt
        replace sg := sg.below c (Nat.le_refl _)
        replace ms := (c.block _ (Array.getElem?_eq_some_iff.1 ms).1).trans ms
        replace rd := rd.below c
        clear c
        have Hbel := Lib.hid bel
        have Hmt := Lib.hid mt
        have Hsg := Lib.hid sg
        have Hms := Lib.hid ms
        have Hrd := Lib.hid rd
        clear bel mt sg ms rd
        go_wp2_with fail
        have bel := Hbel.out
        have mt := Hmt.out
        have sg := Hsg.out
        have ms := Hms.out
        have rd := Hrd.out
        clear Hbel Hmt Hsg Hms Hrd
        refine (days_any offKey rb rm 1 [(day, cnt, root)] _ rd (by decide)).mono ?_
        rintro e w10 ⟨dv, rfl, hdv, c⟩
        replace bel := below_next bel c
        replace mt := (c.block _ (Array.getElem?_eq_some_iff.1 mt).1).trans mt
        replace sg := sg.below c (Nat.le_refl _)
        replace ms := (c.block _ (Array.getElem?_eq_some_iff.1 ms).1).trans ms
        replace rd := rd.below c
        clear c
        obtain ⟨da, dc, rfl⟩ := hdv.shape
        clear hdv
        rw [days_len]
        have Hbel := Lib.hid bel
        have Hmt := Lib.hid mt
        have Hsg := Lib.hid sg
        have Hms := Lib.hid ms
        have Hrd := Lib.hid rd
        clear bel mt sg ms rd
        go_wp2_with fail
        have bel := Hbel.out
        have mt := Hmt.out
        have sg := Hsg.out
        have ms := Hms.out
        have rd := Hrd.out
        clear Hbel Hmt Hsg Hms Hrd
        go_ret
        exact ⟨rfl, bel⟩
      · skip
        have hL16 : root.length = 16 := isL_len k5
        have q_mt_0 := cell_of_heap (i := 0) mt
        have q_mt_1 := cell_of_heap (i := 1) mt
        have q_mt_2 := cell_of_heap (i := 2) mt
        have q_mt_3 := cell_of_heap (i := 3) mt
        have Hbel := Lib.hid bel
        have Hmt := Lib.hid mt
        have Hsg := Lib.hid sg
        have Hms := Lib.hid ms
        have Hrd := Lib.hid rd
        clear bel mt sg ms rd
        go_wp2_with fail
        have bel := Hbel.out
        have mt := Hmt.out
        have sg := Hsg.out
        have ms := Hms.out
        have rd := Hrd.out
        clear Hbel Hmt Hsg Hms Hrd
        clear q_mt_0 q_mt_1 q_mt_2 q_mt_3
        clear hL16
        obtain ⟨x, hx⟩ : ∃ x, Hid (Pf.msgL day cnt root = x) := ⟨_, rfl⟩
        have hxl : x.length ≤ 35184372088832 := by rw [← hx.out]; unfold Pf.msgL Dg.listL; rw [Dg.sumL_length]; decide
        rw [hx.out] at hver
        have hv2 : HasStrsC w8 (.slice sa 18 sc) sig := sg
        have CM : Hid (∀ A, Below w8.heap.size w8 A → Calls Tryz.prog 19 #[.int .i64 day, .int .i64 cnt, .string ⟨root.toArray⟩] A fun e w' => e = .returned (.string ⟨x.toArray⟩) ∧ Below A.heap.size A w') := fun A hA => message_any day cnt root x A (ht.below (below_next bel hA) (Nat.le_refl _)) hd0 hd1 hc0 hc1 (by omega) hx
        have CV : Hid (∀ A, Below w8.heap.size w8 A → Calls Tryz.prog 38 #[.string ⟨offKey.toArray⟩, .string ⟨x.toArray⟩, .agg #[.int .i64 0, .slice sa 18 sc, .slice sp 0 sq]] A fun e w' => e = .returned (.bool true) ∧ Below A.heap.size A w') := fun A hA => by rw [← hver]; exact verify_any offKey x sig sa sc sp sq A (ht.below (below_next bel hA) (Nat.le_refl _)) (hv2.below hA (Nat.le_refl _)) (sigOk' hsig).1 (sigOk' hsig).2.1 (sigOk' hsig).2.2 hxl
        have SN : Hid (∀ A B, (fun Y => Y.cell? ⟨bt, 0, none⟩ = some (.int .i64 day) ∧ Y.cell? ⟨bt, 1, none⟩ = some (.int .i64 cnt) ∧ Y.cell? ⟨bt, 2, none⟩ = some (.string ⟨root.toArray⟩) ∧ Y.cell? ⟨bt, 3, none⟩ = some (.bool true) ∧ Y.cell? ⟨bs, 0, none⟩ = some (.int .i64 0) ∧ Y.cell? ⟨bs, 1, none⟩ = some (.slice sa 18 sc) ∧ Y.cell? ⟨bs, 2, none⟩ = some (.slice sp 0 sq) ∧ Below w8.heap.size w8 Y) A → Below A.heap.size A B → (fun Y => Y.cell? ⟨bt, 0, none⟩ = some (.int .i64 day) ∧ Y.cell? ⟨bt, 1, none⟩ = some (.int .i64 cnt) ∧ Y.cell? ⟨bt, 2, none⟩ = some (.string ⟨root.toArray⟩) ∧ Y.cell? ⟨bt, 3, none⟩ = some (.bool true) ∧ Y.cell? ⟨bs, 0, none⟩ = some (.int .i64 0) ∧ Y.cell? ⟨bs, 1, none⟩ = some (.slice sa 18 sc) ∧ Y.cell? ⟨bs, 2, none⟩ = some (.slice sp 0 sq) ∧ Below w8.heap.size w8 Y) B) := by
          intro A B h c
          obtain ⟨h0, h1, h2, h3, h4, h5, h6, hb⟩ := h
          have lt := Nat.lt_of_lt_of_le (Array.getElem?_eq_some_iff.1 mt).1 hb.size
          have ls := Nat.lt_of_lt_of_le (Array.getElem?_eq_some_iff.1 ms).1 hb.size
          exact ⟨(c.cell (p := ⟨bt, 0, none⟩) lt).trans h0, (c.cell (p := ⟨bt, 1, none⟩) lt).trans h1, (c.cell (p := ⟨bt, 2, none⟩) lt).trans h2, (c.cell (p := ⟨bt, 3, none⟩) lt).trans h3, (c.cell (p := ⟨bs, 0, none⟩) ls).trans h4, (c.cell (p := ⟨bs, 1, none⟩) ls).trans h5, (c.cell (p := ⟨bs, 2, none⟩) ls).trans h6, below_next hb c⟩
        have hS0 : (fun Y => Y.cell? ⟨bt, 0, none⟩ = some (.int .i64 day) ∧ Y.cell? ⟨bt, 1, none⟩ = some (.int .i64 cnt) ∧ Y.cell? ⟨bt, 2, none⟩ = some (.string ⟨root.toArray⟩) ∧ Y.cell? ⟨bt, 3, none⟩ = some (.bool true) ∧ Y.cell? ⟨bs, 0, none⟩ = some (.int .i64 0) ∧ Y.cell? ⟨bs, 1, none⟩ = some (.slice sa 18 sc) ∧ Y.cell? ⟨bs, 2, none⟩ = some (.slice sp 0 sq) ∧ Below w8.heap.size w8 Y) w8 := ⟨cell_of_heap mt, cell_of_heap mt, cell_of_heap mt, cell_of_heap mt, cell_of_heap ms, cell_of_heap ms, cell_of_heap ms, Below.refl _ _⟩
        have hS1 := SN.out _ _ hS0 (Below.refl _ _).drew
        try simp only at hS0 hS1
        have Hbel := Lib.hid bel
        have Hmt := Lib.hid mt
        have Hsg := Lib.hid sg
        have Hms := Lib.hid ms
        have Hrd := Lib.hid rd
        clear bel mt sg ms rd
        go_region_held3 (fun Y => Y.cell? ⟨bt, 0, none⟩ = some (.int .i64 day) ∧ Y.cell? ⟨bt, 1, none⟩ = some (.int .i64 cnt) ∧ Y.cell? ⟨bt, 2, none⟩ = some (.string ⟨root.toArray⟩) ∧ Y.cell? ⟨bt, 3, none⟩ = some (.bool true) ∧ Y.cell? ⟨bs, 0, none⟩ = some (.int .i64 0) ∧ Y.cell? ⟨bs, 1, none⟩ = some (.slice sa 18 sc) ∧ Y.cell? ⟨bs, 2, none⟩ = some (.slice sp 0 sq) ∧ Below w8.heap.size w8 Y) (first | exact hS0 | exact hS1 | assumption) (first | (go_at_call 19; (with_reducible refine (CM.out _ (And.right (And.right (And.right (And.right (And.right (And.right (And.right (by assumption))))))))).mono ?_); rintro e z1 ⟨rfl, c1⟩; have hSa := SN.out _ _ (by assumption) c1; try simp only at hSa) | (go_at_call 38; (with_reducible refine (CV.out _ (And.right (And.right (And.right (And.right (And.right (And.right (And.right (by assumption))))))))).mono ?_); rintro e z2 ⟨rfl, c2⟩; have hSb := SN.out _ _ (by assumption) c2; try simp only at hSb))
        have bel := Hbel.out
        have mt := Hmt.out
        have sg := Hsg.out
        have ms := Hms.out
        have rd := Hrd.out
        clear Hbel Hmt Hsg Hms Hrd
        obtain ⟨_, _, _, _, _, _, _, c⟩ := hSb
        replace bel := below_next bel c
        replace mt := (c.block _ (Array.getElem?_eq_some_iff.1 mt).1).trans mt
        replace sg := sg.below c (Nat.le_refl _)
        replace ms := (c.block _ (Array.getElem?_eq_some_iff.1 ms).1).trans ms
        replace rd := rd.below c
        clear c
        clear hS0 hS1
        have q_mt_0 := cell_of_heap (i := 0) mt
        have q_mt_1 := cell_of_heap (i := 1) mt
        have q_mt_2 := cell_of_heap (i := 2) mt
        have q_mt_3 := cell_of_heap (i := 3) mt
        have q_ms_0 := cell_of_heap (i := 0) ms
        have q_ms_1 := cell_of_heap (i := 1) ms
        have q_ms_2 := cell_of_heap (i := 2) ms
        have Hbel := Lib.hid bel
        have Hmt := Lib.hid mt
        have Hsg := Lib.hid sg
        have Hms := Lib.hid ms
        have Hrd := Lib.hid rd
        clear bel mt sg ms rd
        go_wp2_with fail
        have bel := Hbel.out
        have mt := Hmt.out
        have sg := Hsg.out
        have ms := Hms.out
        have rd := Hrd.out
        clear Hbel Hmt Hsg Hms Hrd
        clear q_mt_0 q_mt_1 q_mt_2 q_mt_3 q_ms_0 q_ms_1 q_ms_2
        refine (few3_any sig _ _ ⟨sa, sc, sp, sq, rfl, sg⟩ (sigOk' hsig)).mono ?_
        rintro e w9 ⟨rfl, c⟩
        replace bel := below_next bel c
        replace mt := (c.block _ (Array.getElem?_eq_some_iff.1 mt).1).trans mt
        replace sg := sg.below c (Nat.le_refl _)
        replace ms := (c.block _ (Array.getElem?_eq_some_iff.1 ms).1).trans ms
        replace rd := rd.below c
        clear c
        have Hbel := Lib.hid bel
        have Hmt := Lib.hid mt
        have Hsg := Lib.hid sg
        have Hms := Lib.hid ms
        have Hrd := Lib.hid rd
        clear bel mt sg ms rd
        go_wp2_with fail
        have bel := Hbel.out
        have mt := Hmt.out
        have sg := Hsg.out
        have ms := Hms.out
        have rd := Hrd.out
        clear Hbel Hmt Hsg Hms Hrd
        refine (days_any offKey rb rm 1 [(day, cnt, root)] _ rd (by decide)).mono ?_
        rintro e w10 ⟨dv, rfl, hdv, c⟩
        replace bel := below_next bel c
        replace mt := (c.block _ (Array.getElem?_eq_some_iff.1 mt).1).trans mt
        replace sg := sg.below c (Nat.le_refl _)
        replace ms := (c.block _ (Array.getElem?_eq_some_iff.1 ms).1).trans ms
        replace rd := rd.below c
        clear c
        obtain ⟨da, dc, rfl⟩ := hdv.shape
        clear hdv
        rw [days_len]
        have Hbel := Lib.hid bel
        have Hmt := Lib.hid mt
        have Hsg := Lib.hid sg
        have Hms := Lib.hid ms
        have Hrd := Lib.hid rd
        clear bel mt sg ms rd
        go_wp2_with fail
        have bel := Hbel.out
        have mt := Hmt.out
        have sg := Hsg.out
        have ms := Hms.out
        have rd := Hrd.out
        clear Hbel Hmt Hsg Hms Hrd
        go_ret
        exact ⟨rfl, bel⟩
    · cases wrong
      · exact absurd hver (by rw [← hsig.out]; unfold sgL; rw [ver_own']; decide)
      · skip
        have hL16 : root.length = 16 := isL_len k5
        have q_mt_0 := cell_of_heap (i := 0) mt
        have q_mt_1 := cell_of_heap (i := 1) mt
        have q_mt_2 := cell_of_heap (i := 2) mt
        have q_mt_3 := cell_of_heap (i := 3) mt
        have Hbel := Lib.hid bel
        have Hmt := Lib.hid mt
        have Hsg := Lib.hid sg
        have Hms := Lib.hid ms
        have Hrd := Lib.hid rd
        clear bel mt sg ms rd
        go_wp2_with fail
        have bel := Hbel.out
        have mt := Hmt.out
        have sg := Hsg.out
        have ms := Hms.out
        have rd := Hrd.out
        clear Hbel Hmt Hsg Hms Hrd
        clear q_mt_0 q_mt_1 q_mt_2 q_mt_3
        clear hL16
        obtain ⟨x, hx⟩ : ∃ x, Hid (Pf.msgL day cnt root = x) := ⟨_, rfl⟩
        have hxl : x.length ≤ 35184372088832 := by rw [← hx.out]; unfold Pf.msgL Dg.listL; rw [Dg.sumL_length]; decide
        rw [hx.out] at hver
        have hv2 : HasStrsC w8 (.slice sa 18 sc) sig := sg
        have CM : Hid (∀ A, Below w8.heap.size w8 A → Calls Tryz.prog 19 #[.int .i64 day, .int .i64 cnt, .string ⟨root.toArray⟩] A fun e w' => e = .returned (.string ⟨x.toArray⟩) ∧ Below A.heap.size A w') := fun A hA => message_any day cnt root x A (ht.below (below_next bel hA) (Nat.le_refl _)) hd0 hd1 hc0 hc1 (by omega) hx
        have CV : Hid (∀ A, Below w8.heap.size w8 A → Calls Tryz.prog 38 #[.string ⟨offKey.toArray⟩, .string ⟨x.toArray⟩, .agg #[.int .i64 0, .slice sa 18 sc, .slice sp 0 sq]] A fun e w' => e = .returned (.bool false) ∧ Below A.heap.size A w') := fun A hA => by rw [← hver]; exact verify_any offKey x sig sa sc sp sq A (ht.below (below_next bel hA) (Nat.le_refl _)) (hv2.below hA (Nat.le_refl _)) (sigOk' hsig).1 (sigOk' hsig).2.1 (sigOk' hsig).2.2 hxl
        have SN : Hid (∀ A B, (fun Y => Y.cell? ⟨bt, 0, none⟩ = some (.int .i64 day) ∧ Y.cell? ⟨bt, 1, none⟩ = some (.int .i64 cnt) ∧ Y.cell? ⟨bt, 2, none⟩ = some (.string ⟨root.toArray⟩) ∧ Y.cell? ⟨bt, 3, none⟩ = some (.bool true) ∧ Y.cell? ⟨bs, 0, none⟩ = some (.int .i64 0) ∧ Y.cell? ⟨bs, 1, none⟩ = some (.slice sa 18 sc) ∧ Y.cell? ⟨bs, 2, none⟩ = some (.slice sp 0 sq) ∧ Below w8.heap.size w8 Y) A → Below A.heap.size A B → (fun Y => Y.cell? ⟨bt, 0, none⟩ = some (.int .i64 day) ∧ Y.cell? ⟨bt, 1, none⟩ = some (.int .i64 cnt) ∧ Y.cell? ⟨bt, 2, none⟩ = some (.string ⟨root.toArray⟩) ∧ Y.cell? ⟨bt, 3, none⟩ = some (.bool true) ∧ Y.cell? ⟨bs, 0, none⟩ = some (.int .i64 0) ∧ Y.cell? ⟨bs, 1, none⟩ = some (.slice sa 18 sc) ∧ Y.cell? ⟨bs, 2, none⟩ = some (.slice sp 0 sq) ∧ Below w8.heap.size w8 Y) B) := by
          intro A B h c
          obtain ⟨h0, h1, h2, h3, h4, h5, h6, hb⟩ := h
          have lt := Nat.lt_of_lt_of_le (Array.getElem?_eq_some_iff.1 mt).1 hb.size
          have ls := Nat.lt_of_lt_of_le (Array.getElem?_eq_some_iff.1 ms).1 hb.size
          exact ⟨(c.cell (p := ⟨bt, 0, none⟩) lt).trans h0, (c.cell (p := ⟨bt, 1, none⟩) lt).trans h1, (c.cell (p := ⟨bt, 2, none⟩) lt).trans h2, (c.cell (p := ⟨bt, 3, none⟩) lt).trans h3, (c.cell (p := ⟨bs, 0, none⟩) ls).trans h4, (c.cell (p := ⟨bs, 1, none⟩) ls).trans h5, (c.cell (p := ⟨bs, 2, none⟩) ls).trans h6, below_next hb c⟩
        have hS0 : (fun Y => Y.cell? ⟨bt, 0, none⟩ = some (.int .i64 day) ∧ Y.cell? ⟨bt, 1, none⟩ = some (.int .i64 cnt) ∧ Y.cell? ⟨bt, 2, none⟩ = some (.string ⟨root.toArray⟩) ∧ Y.cell? ⟨bt, 3, none⟩ = some (.bool true) ∧ Y.cell? ⟨bs, 0, none⟩ = some (.int .i64 0) ∧ Y.cell? ⟨bs, 1, none⟩ = some (.slice sa 18 sc) ∧ Y.cell? ⟨bs, 2, none⟩ = some (.slice sp 0 sq) ∧ Below w8.heap.size w8 Y) w8 := ⟨cell_of_heap mt, cell_of_heap mt, cell_of_heap mt, cell_of_heap mt, cell_of_heap ms, cell_of_heap ms, cell_of_heap ms, Below.refl _ _⟩
        have hS1 := SN.out _ _ hS0 (Below.refl _ _).drew
        try simp only at hS0 hS1
        have Hbel := Lib.hid bel
        have Hmt := Lib.hid mt
        have Hsg := Lib.hid sg
        have Hms := Lib.hid ms
        have Hrd := Lib.hid rd
        clear bel mt sg ms rd
        go_region_held3 (fun Y => Y.cell? ⟨bt, 0, none⟩ = some (.int .i64 day) ∧ Y.cell? ⟨bt, 1, none⟩ = some (.int .i64 cnt) ∧ Y.cell? ⟨bt, 2, none⟩ = some (.string ⟨root.toArray⟩) ∧ Y.cell? ⟨bt, 3, none⟩ = some (.bool true) ∧ Y.cell? ⟨bs, 0, none⟩ = some (.int .i64 0) ∧ Y.cell? ⟨bs, 1, none⟩ = some (.slice sa 18 sc) ∧ Y.cell? ⟨bs, 2, none⟩ = some (.slice sp 0 sq) ∧ Below w8.heap.size w8 Y) (first | exact hS0 | exact hS1 | assumption) (first | (go_at_call 19; (with_reducible refine (CM.out _ (And.right (And.right (And.right (And.right (And.right (And.right (And.right (by assumption))))))))).mono ?_); rintro e z1 ⟨rfl, c1⟩; have hSa := SN.out _ _ (by assumption) c1; try simp only at hSa) | (go_at_call 38; (with_reducible refine (CV.out _ (And.right (And.right (And.right (And.right (And.right (And.right (And.right (by assumption))))))))).mono ?_); rintro e z2 ⟨rfl, c2⟩; have hSb := SN.out _ _ (by assumption) c2; try simp only at hSb))
        have bel := Hbel.out
        have mt := Hmt.out
        have sg := Hsg.out
        have ms := Hms.out
        have rd := Hrd.out
        clear Hbel Hmt Hsg Hms Hrd
        obtain ⟨_, _, _, _, _, _, _, c⟩ := hSb
        replace bel := below_next bel c
        replace mt := (c.block _ (Array.getElem?_eq_some_iff.1 mt).1).trans mt
        replace sg := sg.below c (Nat.le_refl _)
        replace ms := (c.block _ (Array.getElem?_eq_some_iff.1 ms).1).trans ms
        replace rd := rd.below c
        clear c
        clear hS0 hS1
        have q_mt_0 := cell_of_heap (i := 0) mt
        have q_mt_1 := cell_of_heap (i := 1) mt
        have q_mt_2 := cell_of_heap (i := 2) mt
        have q_mt_3 := cell_of_heap (i := 3) mt
        have q_ms_0 := cell_of_heap (i := 0) ms
        have q_ms_1 := cell_of_heap (i := 1) ms
        have q_ms_2 := cell_of_heap (i := 2) ms
        have Hbel := Lib.hid bel
        have Hmt := Lib.hid mt
        have Hsg := Lib.hid sg
        have Hms := Lib.hid ms
        have Hrd := Lib.hid rd
        clear bel mt sg ms rd
        go_wp2_with fail
        have bel := Hbel.out
        have mt := Hmt.out
        have sg := Hsg.out
        have ms := Hms.out
        have rd := Hrd.out
        clear Hbel Hmt Hsg Hms Hrd
        clear q_mt_0 q_mt_1 q_mt_2 q_mt_3 q_ms_0 q_ms_1 q_ms_2
        refine (few3_any sig _ _ ⟨sa, sc, sp, sq, rfl, sg⟩ (sigOk' hsig)).mono ?_
        rintro e w9 ⟨rfl, c⟩
        replace bel := below_next bel c
        replace mt := (c.block _ (Array.getElem?_eq_some_iff.1 mt).1).trans mt
        replace sg := sg.below c (Nat.le_refl _)
        replace ms := (c.block _ (Array.getElem?_eq_some_iff.1 ms).1).trans ms
        replace rd := rd.below c
        clear c
        have Hbel := Lib.hid bel
        have Hmt := Lib.hid mt
        have Hsg := Lib.hid sg
        have Hms := Lib.hid ms
        have Hrd := Lib.hid rd
        clear bel mt sg ms rd
        go_wp2_with fail
        have bel := Hbel.out
        have mt := Hmt.out
        have sg := Hsg.out
        have ms := Hms.out
        have rd := Hrd.out
        clear Hbel Hmt Hsg Hms Hrd
        refine (days_any offKey rb rm 1 [] _ rd (by decide)).mono ?_
        rintro e w10 ⟨dv, rfl, hdv, c⟩
        replace bel := below_next bel c
        replace mt := (c.block _ (Array.getElem?_eq_some_iff.1 mt).1).trans mt
        replace sg := sg.below c (Nat.le_refl _)
        replace ms := (c.block _ (Array.getElem?_eq_some_iff.1 ms).1).trans ms
        replace rd := rd.below c
        clear c
        obtain ⟨da, dc, rfl⟩ := hdv.shape
        clear hdv
        rw [days_len]
        have Hbel := Lib.hid bel
        have Hmt := Lib.hid mt
        have Hsg := Lib.hid sg
        have Hms := Lib.hid ms
        have Hrd := Lib.hid rd
        clear bel mt sg ms rd
        go_wp2_with fail
        have bel := Hbel.out
        have mt := Hmt.out
        have sg := Hsg.out
        have ms := Hms.out
        have rd := Hrd.out
        clear Hbel Hmt Hsg Hms Hrd
        go_ret
        exact ⟨rfl, bel⟩
end Go.Proofs.YteoclpjbeadkpaaGreatDoor
/- WALK: ProofPublished. -/
namespace Go.Proofs.YteoclpjbeadkpaaGreatDoor
open Go.RowKit Go.Shelf Go.Maps

theorem short_len {l : List Td} {n : Nat} (h : shortL l n = true) : l.length ≤ n := by
  unfold shortL at h
  rw [Bool.and_eq_true, decide_eq_true_eq] at h
  exact h.1
theorem short_roots {l : List Td} {n : Nat} (h : shortL l n = true) : ∀ t ∈ l, t.root.length ≤ 100 := by
  unfold shortL at h
  rw [Bool.and_eq_true, List.all_eq_true] at h
  intro t ht
  simpa using h.2 t ht
theorem HasTds.at {w : World} {a : Option Addr} {n c : Nat} {l : List Td} (h : HasTds w (.slice a n c) l) {k : Nat} (hk : k < l.length) : ∃ vb off, a = some ⟨vb, off, none⟩ ∧ vb < w.heap.size ∧ TdAt w vb (off + k * 4) l[k] := by
  rcases h with ⟨rfl, _⟩ | ⟨_, b, off, c, e, hlt, hc⟩
  · simp at hk
  · cases e; exact ⟨b, off, rfl, hlt, hc k hk⟩
theorem prOk_few {p : Pf.Pr} (h : Pf.fewL p = true) (hi : PrIn p) : PrOk p := by
  obtain ⟨h1, h2, h3, h4, h5⟩ := (Pf.few_iff p).1 h
  refine ⟨⟨by omega, by omega, by omega, by omega⟩, fun s hs => ?_, by omega, hi.1, hi.2.1, hi.2.2.1, hi.2.2.2.1⟩
  have := h5 s hs
  omega
theorem FMapAt.mono {w : World} {m n n' : Nat} {fs : List Td} (h : FMapAt w m n fs) (hn : n ≤ n') : FMapAt w m n' fs := by
  obtain ⟨D, h1, h2⟩ := h
  exact ⟨D, h1.mono hn, h2⟩
theorem prMax {p : Pf.Pr} (h : PrIn p) : ItMax p.item ∧ ∀ t ∈ p.path, t.length ≤ 9223372036854775807 := by
  obtain ⟨_, _, _, _, _, h5, h6⟩ := h
  refine ⟨h5, fun t ht => ?_⟩
  obtain ⟨j, hj, rfl⟩ := List.mem_iff_getElem.1 ht
  have := h6.2 j hj
  rwa [List.getD_eq_getElem?_getD, List.getElem?_eq_getElem hj] at this
def PbS (w : World) (bp rb rm fm : Nat) (pc : Obj) (k : Nat) (fs : List Td) (wr : World) : Prop := Below w.heap.size w wr ∧ wr.heap[bp]? = some pc ∧ ReaderAt wr rb rm k offKey (knows fs) ∧ FMapAt wr fm k fs

set_option maxHeartbeats 32000000 in
set_option maxRecDepth 100000 in
theorem publishedLaw_any (l : List Td) (v : Value) (p : Pf.Pr) (pv : Value) (day : Int) (w : World) (ht : Tab w) (hv : HasTds w v l) (hl : l.length ≤ 140737488355328) (hin : ∀ t ∈ l, TdIn t ∧ t.root.length ≤ 140737488355328) (hp : HasStrsC w pv p.path) (hpi : PrIn p) (hd0 : -9223372036854775808 ≤ day) (hd1 : day ≤ 9223372036854775807) :
    Calls Tryz.prog 6 #[v, prV p pv, .int .i64 day] w fun e w' => e = .returned (.bool true) ∧ Below w.heap.size w w' := by
  have hmm := @run_makeMap Tryz.prog
  obtain ⟨sb, hsb⟩ : ∃ sb, Hid (shortL l 10 = sb) := ⟨_, rfl⟩
  obtain ⟨fb, hfb⟩ : ∃ fb, Hid (Pf.fewL p = fb) := ⟨_, rfl⟩
  obtain ⟨sig0, hsig0⟩ : ∃ sig, Hid (sgL false 0 0 [] = sig) := ⟨_, rfl⟩
  have hpm : ItMax p.item ∧ ∀ t ∈ p.path, t.length ≤ 9223372036854775807 := prMax hpi
  obtain ⟨a, c, rfl⟩ := hv.shape
  obtain ⟨pa, pc, rfl⟩ : ∃ pa pc, pv = .slice pa p.path.length pc := by obtain ⟨_, pa, pc, e, _⟩ := hp; exact ⟨pa, pc, e⟩
  simp only [prV]
  have Hv := Lib.hid hv
  have Hin := Lib.hid hin
  have Hp := Lib.hid hp
  have Hpi := Lib.hid hpi
  have Hpm := Lib.hid hpm
  clear hv hin hp hpi hpm
  go_enter Tryz.func6, Tryz.ntmps6
  have bel := Below.refl w.heap.size w
  have Hbel := Lib.hid bel
  clear bel
  go_wp2_with fail
  have bel := Hbel.out
  clear Hbel
  obtain ⟨w1, hw⟩ : ∃ z, w.alloc (.cells #[.int .i64 p.count, .int .i64 p.index, .int .i64 p.item.kind, .string ⟨p.item.id.toArray⟩, .string ⟨p.item.parent.toArray⟩, .string ⟨p.item.number.toArray⟩, .string ⟨p.item.north.toArray⟩, .string ⟨p.item.south.toArray⟩, .bool p.item.gone, .slice pa p.path.length pc] 29) = z := ⟨_, rfl⟩
  have c : Below w.heap.size w w1 := by rw [← hw]; exact (Below.refl _ _).alloc (Nat.le_refl _) _
  have mp : w1.heap[w.heap.size]? = some (.cells #[.int .i64 p.count, .int .i64 p.index, .int .i64 p.item.kind, .string ⟨p.item.id.toArray⟩, .string ⟨p.item.parent.toArray⟩, .string ⟨p.item.number.toArray⟩, .string ⟨p.item.north.toArray⟩, .string ⟨p.item.south.toArray⟩, .bool p.item.gone, .slice pa p.path.length pc] 29 (0, 0)) := by rw [← hw]; exact heap_alloc_at _ _
  rw [hw]
  clear hw
  replace bel := below_next bel c
  clear c
  obtain ⟨bp, hb⟩ : ∃ b, w.heap.size = b := ⟨_, rfl⟩
  rw [hb] at mp ⊢
  clear hb
  refine (head44_any _ (ht.below bel (Nat.le_refl _))).mono ?_
  rintro e w2 ⟨rfl, c⟩
  replace bel := below_next bel c
  replace mp := (c.block _ (Array.getElem?_eq_some_iff.1 mp).1).trans mp
  clear c
  have Hbel := Lib.hid bel
  have Hmp := Lib.hid mp
  clear bel mp
  go_wp2_with fail
  have bel := Hbel.out
  have mp := Hmp.out
  clear Hbel Hmp
  have htd := Hv.out.below bel (Nat.le_refl _)
  refine (short_any l 10 _ _ htd hl (by decide) (fun t h => (Hin.out t h).2) sb hsb).mono ?_
  rintro e w3 ⟨rfl, c⟩
  clear htd
  replace bel := below_next bel c
  replace mp := (c.block _ (Array.getElem?_eq_some_iff.1 mp).1).trans mp
  clear c
  cases sb
  · skip
    have Hbel := Lib.hid bel
    have Hmp := Lib.hid mp
    clear bel mp
    go_wp2_with fail
    have bel := Hbel.out
    have mp := Hmp.out
    clear Hbel Hmp
    go_ret
    exact ⟨rfl, bel⟩
  · skip
    have hl10 : l.length ≤ 10 := short_len hsb.out
    have Hr100 : Hid (∀ t ∈ l, t.root.length ≤ 100) := short_roots hsb.out
    have q_mp_0 := cell_of_heap (i := 0) mp
    have q_mp_1 := cell_of_heap (i := 1) mp
    have q_mp_2 := cell_of_heap (i := 2) mp
    have q_mp_3 := cell_of_heap (i := 3) mp
    have q_mp_4 := cell_of_heap (i := 4) mp
    have q_mp_5 := cell_of_heap (i := 5) mp
    have q_mp_6 := cell_of_heap (i := 6) mp
    have q_mp_7 := cell_of_heap (i := 7) mp
    have q_mp_8 := cell_of_heap (i := 8) mp
    have q_mp_9 := cell_of_heap (i := 9) mp
    have Hbel := Lib.hid bel
    have Hmp := Lib.hid mp
    clear bel mp
    go_wp2_with fail
    have bel := Hbel.out
    have mp := Hmp.out
    clear Hbel Hmp
    clear q_mp_0 q_mp_1 q_mp_2 q_mp_3 q_mp_4 q_mp_5 q_mp_6 q_mp_7 q_mp_8 q_mp_9
    refine (few44_any p _ _ (Hp.out.below bel (Nat.le_refl _)) Hpm.out.1 Hpm.out.2 fb hfb).mono ?_
    rintro e w4 ⟨rfl, c⟩
    replace bel := below_next bel c
    replace mp := (c.block _ (Array.getElem?_eq_some_iff.1 mp).1).trans mp
    clear c
    cases fb
    · skip
      have Hbel := Lib.hid bel
      have Hmp := Lib.hid mp
      clear bel mp
      go_wp2_with fail
      have bel := Hbel.out
      have mp := Hmp.out
      clear Hbel Hmp
      go_ret
      exact ⟨rfl, bel⟩
    · skip
      have hpo : PrOk p := prOk_few hfb.out Hpi.out
      have Hbel := Lib.hid bel
      have Hmp := Lib.hid mp
      clear bel mp
      go_wp2_with fail
      have bel := Hbel.out
      have mp := Hmp.out
      clear Hbel Hmp
      refine (sgn_any 0 0 [] false _ (ht.below bel (Nat.le_refl _)) (by decide) (by decide) (by decide) (by decide) (by decide) sig0 hsig0).mono ?_
      rintro e w5 ⟨za, zc, zp, zq, rfl, sz, c⟩
      replace bel := below_next bel c
      replace mp := (c.block _ (Array.getElem?_eq_some_iff.1 mp).1).trans mp
      clear c
      clear sz
      have Hbel := Lib.hid bel
      have Hmp := Lib.hid mp
      clear bel mp
      go_wp2_with fail
      have bel := Hbel.out
      have mp := Hmp.out
      clear Hbel Hmp
      obtain ⟨w6, hw⟩ : ∃ z, w5.alloc (.cells #[.int .i64 0, .slice za 18 zc, .slice zp 0 zq] 42) = z := ⟨_, rfl⟩
      have c : Below w5.heap.size w5 w6 := by rw [← hw]; exact (Below.refl _ _).alloc (Nat.le_refl _) _
      have mz : w6.heap[w5.heap.size]? = some (.cells #[.int .i64 0, .slice za 18 zc, .slice zp 0 zq] 42 (0, 0)) := by rw [← hw]; exact heap_alloc_at _ _
      rw [hw]
      clear hw
      replace bel := below_next bel c
      replace mp := (c.block _ (Array.getElem?_eq_some_iff.1 mp).1).trans mp
      clear c
      obtain ⟨bz, hb⟩ : ∃ b, w5.heap.size = b := ⟨_, rfl⟩
      rw [hb] at mz ⊢
      clear hb
      clear mz
      refine (newR_any offKey _).mono ?_
      rintro e w7 ⟨rfl, rd, c⟩
      obtain ⟨rb, hrb⟩ : ∃ r, w6.heap.size + 1 = r := ⟨_, rfl⟩
      obtain ⟨rm, hrm⟩ : ∃ r, w6.heap.size = r := ⟨_, rfl⟩
      have hrw : w.heap.size ≤ rm := by rw [← hrm]; exact bel.size
      rw [hrb, hrm] at rd
      rw [hrb]
      clear hrb hrm
      replace bel := below_next bel c
      replace mp := (c.block _ (Array.getElem?_eq_some_iff.1 mp).1).trans mp
      clear c
      have hrb : rb < w7.heap.size := (Array.getElem?_eq_some_iff.1 rd.1).1
      have hrm : rm < rb := rd.2.2.2
      have Hbel := Lib.hid bel
      have Hmp := Lib.hid mp
      have Hrd := Lib.hid rd
      clear bel mp rd
      go_wp2_with fail
      have bel := Hbel.out
      have mp := Hmp.out
      have rd := Hrd.out
      clear Hbel Hmp Hrd
      obtain ⟨w8, hw⟩ : ∃ z, w7.alloc (.map #[] 0) = z := ⟨_, rfl⟩
      have c : Below w7.heap.size w7 w8 := by rw [← hw]; exact (Below.refl _ _).alloc (Nat.le_refl _) _
      have fm : FMapAt w8 w7.heap.size 0 [] := by rw [← hw]; exact fmap_new _
      rw [hw]
      clear hw
      have hfw : w.heap.size ≤ w7.heap.size := bel.size
      replace bel := below_next bel c
      replace mp := (c.block _ (Array.getElem?_eq_some_iff.1 mp).1).trans mp
      replace rd := rd.below c
      clear c
      obtain ⟨fm1, hb⟩ : ∃ b, w7.heap.size = b := ⟨_, rfl⟩
      rw [hb] at fm hrb hfw ⊢
      clear hb
      go_loopw [12] (fun i wr => ∃ (k : Nat) (fs : List Td), k ≤ l.length ∧ i = .int .i64 (k : Int) ∧ PbS w bp rb rm fm1 (.cells #[.int .i64 p.count, .int .i64 p.index, .int .i64 p.item.kind, .string ⟨p.item.id.toArray⟩, .string ⟨p.item.parent.toArray⟩, .string ⟨p.item.number.toArray⟩, .string ⟨p.item.north.toArray⟩, .string ⟨p.item.south.toArray⟩, .bool p.item.gone, .slice pa p.path.length pc] 29 (0, 0)) k fs wr) (fun i _ => l.length - (intOf i).toNat)
      case atStart => exact ⟨0, [], by omega, rfl, bel, mp, rd, fm⟩
      case round =>
        clear bel mp rd fm
        obtain ⟨k, fs, hk, rfl, bel, mp, rd, fm⟩ := hrel
        by_cases hkl : k < l.length
        · skip
          obtain ⟨vb, off, rfl, hvb, htd⟩ := Hv.out.at hkl
          obtain ⟨⟨i0, i1, i2, i3⟩, _⟩ := Hin.out _ (List.getElem_mem hkl)
          have h100 := Hr100.out _ (List.getElem_mem hkl)
          replace htd := htd.below bel hvb
          obtain ⟨⟨day', cnt, root, wrong⟩, ht0⟩ : ∃ t, l[k] = t := ⟨_, rfl⟩
          rw [ht0] at htd i0 i1 i2 i3 h100
          clear ht0
          simp only at i0 i1 i2 i3 h100
          obtain ⟨f0, f1, f2, f3⟩ := htd
          simp only at f0 f1 f2 f3
          have hkz : (0 : Int) ≤ (k : Int) := by omega
          have Hbel := Lib.hid bel
          have Hmp := Lib.hid mp
          have Hrd := Lib.hid rd
          have Hfm := Lib.hid fm
          clear bel mp rd fm
          go_wp2_with fail
          have bel := Hbel.out
          have mp := Hmp.out
          have rd := Hrd.out
          have fm := Hfm.out
          clear Hbel Hmp Hrd Hfm
          clear f0 f1 f2 f3
          obtain ⟨w9, hw⟩ : ∃ z, wr.alloc (.cells #[.int .i64 day', .int .i64 cnt, .string ⟨root.toArray⟩, .bool wrong] 46) = z := ⟨_, rfl⟩
          have c : Below wr.heap.size wr w9 := by rw [← hw]; exact (Below.refl _ _).alloc (Nat.le_refl _) _
          have mt : w9.heap[wr.heap.size]? = some (.cells #[.int .i64 day', .int .i64 cnt, .string ⟨root.toArray⟩, .bool wrong] 46 (0, 0)) := by rw [← hw]; exact heap_alloc_at _ _
          rw [hw]
          clear hw
          replace bel := below_next bel c
          replace mp := (c.block _ (Array.getElem?_eq_some_iff.1 mp).1).trans mp
          replace rd := rd.below c
          replace fm := fm.below c
          clear c
          obtain ⟨bt, hb⟩ : ∃ b, wr.heap.size = b := ⟨_, rfl⟩
          rw [hb] at mt ⊢
          clear hb
          obtain ⟨sig, hsig⟩ : ∃ sig, Hid (sgL wrong day' cnt root = sig) := ⟨_, rfl⟩
          have q_mt_0 := cell_of_heap (i := 0) mt
          have q_mt_1 := cell_of_heap (i := 1) mt
          have q_mt_2 := cell_of_heap (i := 2) mt
          have q_mt_3 := cell_of_heap (i := 3) mt
          have Hbel := Lib.hid bel
          have Hmp := Lib.hid mp
          have Hrd := Lib.hid rd
          have Hfm := Lib.hid fm
          have Hmt := Lib.hid mt
          clear bel mp rd fm mt
          go_wp2_with fail
          have bel := Hbel.out
          have mp := Hmp.out
          have rd := Hrd.out
          have fm := Hfm.out
          have mt := Hmt.out
          clear Hbel Hmp Hrd Hfm Hmt
          clear q_mt_0 q_mt_1 q_mt_2 q_mt_3
          refine (sgn_any day' cnt root wrong _ (ht.below bel (Nat.le_refl _)) i0 i1 i2 i3 h100 sig hsig).mono ?_
          rintro e w10 ⟨sa, sc, sp, sq, rfl, sg, c⟩
          replace bel := below_next bel c
          replace mp := (c.block _ (Array.getElem?_eq_some_iff.1 mp).1).trans mp
          replace rd := rd.below c
          replace fm := fm.below c
          replace mt := (c.block _ (Array.getElem?_eq_some_iff.1 mt).1).trans mt
          clear c
          have q_mt_0 := cell_of_heap (i := 0) ((heap_alloc_lt w10 (.cells #[.int .i64 0, .slice sa 18 sc, .slice sp 0 sq] 42) _ (Array.getElem?_eq_some_iff.1 mt).1).trans mt)
          have q_mt_1 := cell_of_heap (i := 1) ((heap_alloc_lt w10 (.cells #[.int .i64 0, .slice sa 18 sc, .slice sp 0 sq] 42) _ (Array.getElem?_eq_some_iff.1 mt).1).trans mt)
          have q_mt_2 := cell_of_heap (i := 2) ((heap_alloc_lt w10 (.cells #[.int .i64 0, .slice sa 18 sc, .slice sp 0 sq] 42) _ (Array.getElem?_eq_some_iff.1 mt).1).trans mt)
          have Hbel := Lib.hid bel
          have Hmp := Lib.hid mp
          have Hrd := Lib.hid rd
          have Hfm := Lib.hid fm
          have Hmt := Lib.hid mt
          have Hsg := Lib.hid sg
          clear bel mp rd fm mt sg
          go_wp2_with fail
          have bel := Hbel.out
          have mp := Hmp.out
          have rd := Hrd.out
          have fm := Hfm.out
          have mt := Hmt.out
          have sg := Hsg.out
          clear Hbel Hmp Hrd Hfm Hmt Hsg
          clear q_mt_0 q_mt_1 q_mt_2
          obtain ⟨w11, hw⟩ : ∃ z, w10.alloc (.cells #[.int .i64 0, .slice sa 18 sc, .slice sp 0 sq] 42) = z := ⟨_, rfl⟩
          have c : Below w10.heap.size w10 w11 := by rw [← hw]; exact (Below.refl _ _).alloc (Nat.le_refl _) _
          have ms : w11.heap[w10.heap.size]? = some (.cells #[.int .i64 0, .slice sa 18 sc, .slice sp 0 sq] 42 (0, 0)) := by rw [← hw]; exact heap_alloc_at _ _
          rw [hw]
          clear hw
          replace bel := below_next bel c
          replace mp := (c.block _ (Array.getElem?_eq_some_iff.1 mp).1).trans mp
          replace rd := rd.below c
          replace fm := fm.below c
          replace mt := (c.block _ (Array.getElem?_eq_some_iff.1 mt).1).trans mt
          replace sg := sg.below c (Nat.le_refl _)
          clear c
          obtain ⟨bs, hb⟩ : ∃ b, w10.heap.size = b := ⟨_, rfl⟩
          rw [hb] at ms ⊢
          clear hb
          obtain ⟨⟨es, er⟩, hlr⟩ : ∃ r, Hid (Pf.learnL offKey (knows fs) day' cnt root sig = r) := ⟨_, rfl⟩
          obtain ⟨⟨es0, er0⟩, hlr0⟩ : ∃ r, Hid (Pf.learnL offKey [] day' cnt root sig = r) := ⟨_, rfl⟩
          have mm := rd.2.1
          refine (learn_any offKey root day' cnt sig _ rb rm k (knows fs) _ (ht.below bel (Nat.le_refl _)) rd ⟨sa, sc, sp, sq, rfl, sg⟩ (by rw [← hsig.out]; exact sigOk _ _) i0 i1 i2 i3 (by omega) (by omega) (es, er) hlr).mono ?_
          rintro e w12 ⟨rfl, rd2, g⟩
          replace bel := bel.grown g bel.size (fun k e => by injection e with e; omega)
          replace mp := map_heap mm g mp
          replace fm := fm.kept g (by intro e; injection e with e; omega)
          replace mt := map_heap mm g mt
          replace sg := sg.grown mm g
          replace ms := map_heap mm g ms
          clear g mm
          clear rd
          have rd := rd2
          clear rd2
          have look := fmap_look fm day' i0 i1
          have hsok := sigOk' hsig
          rcases learn_next (t := ⟨day', cnt, root, wrong⟩) hlr.out hlr0.out with ⟨rfl, rfl | rfl, rfl⟩ | ⟨x, hf, hx1, hx2, rfl, rfl, rfl⟩ | ⟨x, hf, hx1, rfl, rfl, rfl⟩ | ⟨hf, rfl, rfl, rfl⟩
          · skip
            obtain ⟨⟨xd, xc, xr, xw⟩, hwx⟩ : ∃ x, Hid ((fstL fs day').getD zeroTd = x) := ⟨_, rfl⟩
            obtain ⟨okb, hok⟩ : ∃ x, Hid ((fstL fs day').isSome = x) := ⟨_, rfl⟩
            rw [hwx.out, hok.out] at look
            simp only [tdV] at look
            have q_mt_0 := cell_of_heap (i := 0) mt
            have Hbel := Lib.hid bel
            have Hmp := Lib.hid mp
            have Hrd := Lib.hid rd
            have Hfm := Lib.hid fm
            have Hmt := Lib.hid mt
            have Hsg := Lib.hid sg
            have Hms := Lib.hid ms
            clear bel mp rd fm mt sg ms
            go_wp2_with fail
            have bel := Hbel.out
            have mp := Hmp.out
            have rd := Hrd.out
            have fm := Hfm.out
            have mt := Hmt.out
            have sg := Hsg.out
            have ms := Hms.out
            clear Hbel Hmp Hrd Hfm Hmt Hsg Hms
            clear q_mt_0
            clear look
            obtain ⟨w13, hw⟩ : ∃ z, w12.alloc (.cells #[.int .i64 xd, .int .i64 xc, .string ⟨xr.toArray⟩, .bool xw] 46) = z := ⟨_, rfl⟩
            have c : Below w12.heap.size w12 w13 := by rw [← hw]; exact (Below.refl _ _).alloc (Nat.le_refl _) _
            have mw : w13.heap[w12.heap.size]? = some (.cells #[.int .i64 xd, .int .i64 xc, .string ⟨xr.toArray⟩, .bool xw] 46 (0, 0)) := by rw [← hw]; exact heap_alloc_at _ _
            rw [hw]
            clear hw
            replace bel := below_next bel c
            replace mp := (c.block _ (Array.getElem?_eq_some_iff.1 mp).1).trans mp
            replace rd := rd.below c
            replace fm := fm.below c
            replace mt := (c.block _ (Array.getElem?_eq_some_iff.1 mt).1).trans mt
            replace sg := sg.below c (Nat.le_refl _)
            replace ms := (c.block _ (Array.getElem?_eq_some_iff.1 ms).1).trans ms
            clear c
            obtain ⟨bw, hb⟩ : ∃ b, w12.heap.size = b := ⟨_, rfl⟩
            rw [hb] at mw ⊢
            clear hb
            have Hbel := Lib.hid bel
            have Hmp := Lib.hid mp
            have Hrd := Lib.hid rd
            have Hfm := Lib.hid fm
            have Hmt := Lib.hid mt
            have Hsg := Lib.hid sg
            have Hms := Lib.hid ms
            have Hmw := Lib.hid mw
            clear bel mp rd fm mt sg ms mw
            go_wp2_with fail
            have bel := Hbel.out
            have mp := Hmp.out
            have rd := Hrd.out
            have fm := Hfm.out
            have mt := Hmt.out
            have sg := Hsg.out
            have ms := Hms.out
            have mw := Hmw.out
            clear Hbel Hmp Hrd Hfm Hmt Hsg Hms Hmw
            have SB : Hid (∀ Y, Below w13.heap.size w13 Y → (fun Y => Y.cell? ⟨bt, 0, none⟩ = some (.int .i64 day') ∧ Y.cell? ⟨bt, 1, none⟩ = some (.int .i64 cnt) ∧ Y.cell? ⟨bt, 2, none⟩ = some (.string ⟨root.toArray⟩) ∧ Y.cell? ⟨bs, 0, none⟩ = some (.int .i64 0) ∧ Y.cell? ⟨bs, 1, none⟩ = some (.slice sa 18 sc) ∧ Y.cell? ⟨bs, 2, none⟩ = some (.slice sp 0 sq) ∧ Below w13.heap.size w13 Y) Y) := by
              intro Y hb
              have lt := (Array.getElem?_eq_some_iff.1 mt).1
              have ls := (Array.getElem?_eq_some_iff.1 ms).1
              exact ⟨(hb.cell (p := ⟨bt, 0, none⟩) lt).trans (cell_of_heap mt), (hb.cell (p := ⟨bt, 1, none⟩) lt).trans (cell_of_heap mt), (hb.cell (p := ⟨bt, 2, none⟩) lt).trans (cell_of_heap mt), (hb.cell (p := ⟨bs, 0, none⟩) ls).trans (cell_of_heap ms), (hb.cell (p := ⟨bs, 1, none⟩) ls).trans (cell_of_heap ms), (hb.cell (p := ⟨bs, 2, none⟩) ls).trans (cell_of_heap ms), hb⟩
            have CN : Hid (∀ A, Below w13.heap.size w13 A → Calls Tryz.prog 22 #[.string ⟨offKey.toArray⟩] A fun e w' => ∃ rb2 rm2, e = .returned (.pointer (some ⟨rb2, 0, none⟩)) ∧ w13.heap.size ≤ rm2 ∧ ReaderAt w' rb2 rm2 0 offKey [] ∧ Below w13.heap.size w13 w') := fun A hA => (newR_any offKey A).mono fun e w' ⟨h1, h2, h3⟩ => ⟨_, _, h1, hA.size, h2, below_next hA h3⟩
            have CL : Hid (∀ A rb2 rm2, Below w13.heap.size w13 A → w13.heap.size ≤ rm2 → ReaderAt A rb2 rm2 0 offKey [] → Calls Tryz.prog 24 #[.pointer (some ⟨rb2, 0, none⟩), .int .i64 day', .int .i64 cnt, .string ⟨root.toArray⟩, .agg #[.int .i64 0, .slice sa 18 sc, .slice sp 0 sq]] A fun e w' => e = .returned (.int .i64 1) ∧ Below w13.heap.size w13 w') := fun A rb2 rm2 hA hge hrd => (learn_any offKey root day' cnt sig _ rb2 rm2 0 [] _ (ht.below (below_next bel hA) (Nat.le_refl _)) hrd ⟨sa, sc, sp, sq, rfl, sg.below hA (Nat.le_refl _)⟩ hsok i0 i1 i2 i3 (by omega) (by decide) (es0, 1) hlr0).mono fun e w' ⟨h1, _, h3⟩ => ⟨h1, hA.grown h3 hA.size (fun k e => by injection e with e; omega)⟩
            have hS0 := SB.out _ (Below.refl _ _)
            have hS1 := SB.out _ (Below.refl w13.heap.size w13).drew
            try simp only at hS0 hS1
            have Hbel := Lib.hid bel
            have Hmp := Lib.hid mp
            have Hrd := Lib.hid rd
            have Hfm := Lib.hid fm
            have Hmt := Lib.hid mt
            have Hsg := Lib.hid sg
            have Hms := Lib.hid ms
            have Hmw := Lib.hid mw
            clear bel mp rd fm mt sg ms mw
            go_region_held3 (fun Y => Y.cell? ⟨bt, 0, none⟩ = some (.int .i64 day') ∧ Y.cell? ⟨bt, 1, none⟩ = some (.int .i64 cnt) ∧ Y.cell? ⟨bt, 2, none⟩ = some (.string ⟨root.toArray⟩) ∧ Y.cell? ⟨bs, 0, none⟩ = some (.int .i64 0) ∧ Y.cell? ⟨bs, 1, none⟩ = some (.slice sa 18 sc) ∧ Y.cell? ⟨bs, 2, none⟩ = some (.slice sp 0 sq) ∧ Below w13.heap.size w13 Y) (first | exact hS0 | exact hS1 | assumption) (first | (go_at_call 22; (with_reducible refine (CN.out _ (And.right (And.right (And.right (And.right (And.right (And.right (by assumption)))))))).mono ?_); rintro e z1 ⟨rb2, rm2, rfl, hge, hrd, c1⟩; have hSa := SB.out _ c1; try simp only at hSa) | (go_at_call 24; (with_reducible refine (CL.out _ _ _ (And.right (And.right (And.right (And.right (And.right (And.right (by assumption))))))) hge hrd).mono ?_); rintro e z2 ⟨rfl, c2⟩; have hSb := SB.out _ c2; try simp only at hSb))
            have bel := Hbel.out
            have mp := Hmp.out
            have rd := Hrd.out
            have fm := Hfm.out
            have mt := Hmt.out
            have sg := Hsg.out
            have ms := Hms.out
            have mw := Hmw.out
            clear Hbel Hmp Hrd Hfm Hmt Hsg Hms Hmw
            obtain ⟨_, _, _, _, _, _, c⟩ := hSb
            replace bel := below_next bel c
            replace mp := (c.block _ (Array.getElem?_eq_some_iff.1 mp).1).trans mp
            replace rd := rd.below c
            replace fm := fm.below c
            replace mt := (c.block _ (Array.getElem?_eq_some_iff.1 mt).1).trans mt
            replace sg := sg.below c (Nat.le_refl _)
            replace ms := (c.block _ (Array.getElem?_eq_some_iff.1 ms).1).trans ms
            replace mw := (c.block _ (Array.getElem?_eq_some_iff.1 mw).1).trans mw
            clear c
            clear hS0 hS1 hSa hge hrd c1
            have q_mt_0 := cell_of_heap (i := 0) mt
            have q_mt_1 := cell_of_heap (i := 1) mt
            have q_mt_2 := cell_of_heap (i := 2) mt
            have q_mt_3 := cell_of_heap (i := 3) mt
            have q_mw_0 := cell_of_heap (i := 0) mw
            have q_mw_1 := cell_of_heap (i := 1) mw
            have q_mw_2 := cell_of_heap (i := 2) mw
            have Hbel := Lib.hid bel
            have Hmp := Lib.hid mp
            have Hrd := Lib.hid rd
            have Hfm := Lib.hid fm
            have Hmt := Lib.hid mt
            have Hsg := Lib.hid sg
            have Hms := Lib.hid ms
            have Hmw := Lib.hid mw
            clear bel mp rd fm mt sg ms mw
            go_wp2_with fail
            have bel := Hbel.out
            have mp := Hmp.out
            have rd := Hrd.out
            have fm := Hfm.out
            have mt := Hmt.out
            have sg := Hsg.out
            have ms := Hms.out
            have mw := Hmw.out
            clear Hbel Hmp Hrd Hfm Hmt Hsg Hms Hmw
            clear q_mt_0 q_mt_1 q_mt_2 q_mt_3 q_mw_0 q_mw_1 q_mw_2
            go_roundw
            case rel => exact ⟨k + 1, fs, by omega, by go_num, bel, mp, rd, fm.mono (by omega)⟩
            case measure => simp [intOf]; omega
          · skip
            obtain ⟨⟨xd, xc, xr, xw⟩, hwx⟩ : ∃ x, Hid ((fstL fs day').getD zeroTd = x) := ⟨_, rfl⟩
            obtain ⟨okb, hok⟩ : ∃ x, Hid ((fstL fs day').isSome = x) := ⟨_, rfl⟩
            rw [hwx.out, hok.out] at look
            simp only [tdV] at look
            have q_mt_0 := cell_of_heap (i := 0) mt
            have Hbel := Lib.hid bel
            have Hmp := Lib.hid mp
            have Hrd := Lib.hid rd
            have Hfm := Lib.hid fm
            have Hmt := Lib.hid mt
            have Hsg := Lib.hid sg
            have Hms := Lib.hid ms
            clear bel mp rd fm mt sg ms
            go_wp2_with fail
            have bel := Hbel.out
            have mp := Hmp.out
            have rd := Hrd.out
            have fm := Hfm.out
            have mt := Hmt.out
            have sg := Hsg.out
            have ms := Hms.out
            clear Hbel Hmp Hrd Hfm Hmt Hsg Hms
            clear q_mt_0
            clear look
            obtain ⟨w13, hw⟩ : ∃ z, w12.alloc (.cells #[.int .i64 xd, .int .i64 xc, .string ⟨xr.toArray⟩, .bool xw] 46) = z := ⟨_, rfl⟩
            have c : Below w12.heap.size w12 w13 := by rw [← hw]; exact (Below.refl _ _).alloc (Nat.le_refl _) _
            have mw : w13.heap[w12.heap.size]? = some (.cells #[.int .i64 xd, .int .i64 xc, .string ⟨xr.toArray⟩, .bool xw] 46 (0, 0)) := by rw [← hw]; exact heap_alloc_at _ _
            rw [hw]
            clear hw
            replace bel := below_next bel c
            replace mp := (c.block _ (Array.getElem?_eq_some_iff.1 mp).1).trans mp
            replace rd := rd.below c
            replace fm := fm.below c
            replace mt := (c.block _ (Array.getElem?_eq_some_iff.1 mt).1).trans mt
            replace sg := sg.below c (Nat.le_refl _)
            replace ms := (c.block _ (Array.getElem?_eq_some_iff.1 ms).1).trans ms
            clear c
            obtain ⟨bw, hb⟩ : ∃ b, w12.heap.size = b := ⟨_, rfl⟩
            rw [hb] at mw ⊢
            clear hb
            have Hbel := Lib.hid bel
            have Hmp := Lib.hid mp
            have Hrd := Lib.hid rd
            have Hfm := Lib.hid fm
            have Hmt := Lib.hid mt
            have Hsg := Lib.hid sg
            have Hms := Lib.hid ms
            have Hmw := Lib.hid mw
            clear bel mp rd fm mt sg ms mw
            go_wp2_with fail
            have bel := Hbel.out
            have mp := Hmp.out
            have rd := Hrd.out
            have fm := Hfm.out
            have mt := Hmt.out
            have sg := Hsg.out
            have ms := Hms.out
            have mw := Hmw.out
            clear Hbel Hmp Hrd Hfm Hmt Hsg Hms Hmw
            have SB : Hid (∀ Y, Below w13.heap.size w13 Y → (fun Y => Y.cell? ⟨bt, 0, none⟩ = some (.int .i64 day') ∧ Y.cell? ⟨bt, 1, none⟩ = some (.int .i64 cnt) ∧ Y.cell? ⟨bt, 2, none⟩ = some (.string ⟨root.toArray⟩) ∧ Y.cell? ⟨bs, 0, none⟩ = some (.int .i64 0) ∧ Y.cell? ⟨bs, 1, none⟩ = some (.slice sa 18 sc) ∧ Y.cell? ⟨bs, 2, none⟩ = some (.slice sp 0 sq) ∧ Below w13.heap.size w13 Y) Y) := by
              intro Y hb
              have lt := (Array.getElem?_eq_some_iff.1 mt).1
              have ls := (Array.getElem?_eq_some_iff.1 ms).1
              exact ⟨(hb.cell (p := ⟨bt, 0, none⟩) lt).trans (cell_of_heap mt), (hb.cell (p := ⟨bt, 1, none⟩) lt).trans (cell_of_heap mt), (hb.cell (p := ⟨bt, 2, none⟩) lt).trans (cell_of_heap mt), (hb.cell (p := ⟨bs, 0, none⟩) ls).trans (cell_of_heap ms), (hb.cell (p := ⟨bs, 1, none⟩) ls).trans (cell_of_heap ms), (hb.cell (p := ⟨bs, 2, none⟩) ls).trans (cell_of_heap ms), hb⟩
            have CN : Hid (∀ A, Below w13.heap.size w13 A → Calls Tryz.prog 22 #[.string ⟨offKey.toArray⟩] A fun e w' => ∃ rb2 rm2, e = .returned (.pointer (some ⟨rb2, 0, none⟩)) ∧ w13.heap.size ≤ rm2 ∧ ReaderAt w' rb2 rm2 0 offKey [] ∧ Below w13.heap.size w13 w') := fun A hA => (newR_any offKey A).mono fun e w' ⟨h1, h2, h3⟩ => ⟨_, _, h1, hA.size, h2, below_next hA h3⟩
            have CL : Hid (∀ A rb2 rm2, Below w13.heap.size w13 A → w13.heap.size ≤ rm2 → ReaderAt A rb2 rm2 0 offKey [] → Calls Tryz.prog 24 #[.pointer (some ⟨rb2, 0, none⟩), .int .i64 day', .int .i64 cnt, .string ⟨root.toArray⟩, .agg #[.int .i64 0, .slice sa 18 sc, .slice sp 0 sq]] A fun e w' => e = .returned (.int .i64 19) ∧ Below w13.heap.size w13 w') := fun A rb2 rm2 hA hge hrd => (learn_any offKey root day' cnt sig _ rb2 rm2 0 [] _ (ht.below (below_next bel hA) (Nat.le_refl _)) hrd ⟨sa, sc, sp, sq, rfl, sg.below hA (Nat.le_refl _)⟩ hsok i0 i1 i2 i3 (by omega) (by decide) (es0, 19) hlr0).mono fun e w' ⟨h1, _, h3⟩ => ⟨h1, hA.grown h3 hA.size (fun k e => by injection e with e; omega)⟩
            have hS0 := SB.out _ (Below.refl _ _)
            have hS1 := SB.out _ (Below.refl w13.heap.size w13).drew
            try simp only at hS0 hS1
            have Hbel := Lib.hid bel
            have Hmp := Lib.hid mp
            have Hrd := Lib.hid rd
            have Hfm := Lib.hid fm
            have Hmt := Lib.hid mt
            have Hsg := Lib.hid sg
            have Hms := Lib.hid ms
            have Hmw := Lib.hid mw
            clear bel mp rd fm mt sg ms mw
            go_region_held3 (fun Y => Y.cell? ⟨bt, 0, none⟩ = some (.int .i64 day') ∧ Y.cell? ⟨bt, 1, none⟩ = some (.int .i64 cnt) ∧ Y.cell? ⟨bt, 2, none⟩ = some (.string ⟨root.toArray⟩) ∧ Y.cell? ⟨bs, 0, none⟩ = some (.int .i64 0) ∧ Y.cell? ⟨bs, 1, none⟩ = some (.slice sa 18 sc) ∧ Y.cell? ⟨bs, 2, none⟩ = some (.slice sp 0 sq) ∧ Below w13.heap.size w13 Y) (first | exact hS0 | exact hS1 | assumption) (first | (go_at_call 22; (with_reducible refine (CN.out _ (And.right (And.right (And.right (And.right (And.right (And.right (by assumption)))))))).mono ?_); rintro e z1 ⟨rb2, rm2, rfl, hge, hrd, c1⟩; have hSa := SB.out _ c1; try simp only at hSa) | (go_at_call 24; (with_reducible refine (CL.out _ _ _ (And.right (And.right (And.right (And.right (And.right (And.right (by assumption))))))) hge hrd).mono ?_); rintro e z2 ⟨rfl, c2⟩; have hSb := SB.out _ c2; try simp only at hSb))
            have bel := Hbel.out
            have mp := Hmp.out
            have rd := Hrd.out
            have fm := Hfm.out
            have mt := Hmt.out
            have sg := Hsg.out
            have ms := Hms.out
            have mw := Hmw.out
            clear Hbel Hmp Hrd Hfm Hmt Hsg Hms Hmw
            obtain ⟨_, _, _, _, _, _, c⟩ := hSb
            replace bel := below_next bel c
            replace mp := (c.block _ (Array.getElem?_eq_some_iff.1 mp).1).trans mp
            replace rd := rd.below c
            replace fm := fm.below c
            replace mt := (c.block _ (Array.getElem?_eq_some_iff.1 mt).1).trans mt
            replace sg := sg.below c (Nat.le_refl _)
            replace ms := (c.block _ (Array.getElem?_eq_some_iff.1 ms).1).trans ms
            replace mw := (c.block _ (Array.getElem?_eq_some_iff.1 mw).1).trans mw
            clear c
            clear hS0 hS1 hSa hge hrd c1
            have q_mt_0 := cell_of_heap (i := 0) mt
            have q_mt_1 := cell_of_heap (i := 1) mt
            have q_mt_2 := cell_of_heap (i := 2) mt
            have q_mt_3 := cell_of_heap (i := 3) mt
            have q_mw_0 := cell_of_heap (i := 0) mw
            have q_mw_1 := cell_of_heap (i := 1) mw
            have q_mw_2 := cell_of_heap (i := 2) mw
            have Hbel := Lib.hid bel
            have Hmp := Lib.hid mp
            have Hrd := Lib.hid rd
            have Hfm := Lib.hid fm
            have Hmt := Lib.hid mt
            have Hsg := Lib.hid sg
            have Hms := Lib.hid ms
            have Hmw := Lib.hid mw
            clear bel mp rd fm mt sg ms mw
            go_wp2_with fail
            have bel := Hbel.out
            have mp := Hmp.out
            have rd := Hrd.out
            have fm := Hfm.out
            have mt := Hmt.out
            have sg := Hsg.out
            have ms := Hms.out
            have mw := Hmw.out
            clear Hbel Hmp Hrd Hfm Hmt Hsg Hms Hmw
            clear q_mt_0 q_mt_1 q_mt_2 q_mt_3 q_mw_0 q_mw_1 q_mw_2
            go_roundw
            case rel => exact ⟨k + 1, fs, by omega, by go_num, bel, mp, rd, fm.mono (by omega)⟩
            case measure => simp [intOf]; omega
          · skip
            simp only at hf
            obtain ⟨xd, xc, xr, xw⟩ := x
            simp only at hx1 hx2
            obtain rfl := hx1.symm
            obtain rfl := hx2.symm
            rw [hf] at look
            have Hf := Lib.hid hf
            clear hf
            simp only [Option.getD_some, Option.getD_none, Option.isSome_some, Option.isSome_none, tdV, zeroTd] at look
            have q_mt_0 := cell_of_heap (i := 0) mt
            have Hbel := Lib.hid bel
            have Hmp := Lib.hid mp
            have Hrd := Lib.hid rd
            have Hfm := Lib.hid fm
            have Hmt := Lib.hid mt
            have Hsg := Lib.hid sg
            have Hms := Lib.hid ms
            clear bel mp rd fm mt sg ms
            go_wp2_with fail
            have bel := Hbel.out
            have mp := Hmp.out
            have rd := Hrd.out
            have fm := Hfm.out
            have mt := Hmt.out
            have sg := Hsg.out
            have ms := Hms.out
            clear Hbel Hmp Hrd Hfm Hmt Hsg Hms
            clear q_mt_0
            clear look
            obtain ⟨w13, hw⟩ : ∃ z, w12.alloc (.cells #[.int .i64 xd, .int .i64 cnt, .string ⟨root.toArray⟩, .bool xw] 46) = z := ⟨_, rfl⟩
            have c : Below w12.heap.size w12 w13 := by rw [← hw]; exact (Below.refl _ _).alloc (Nat.le_refl _) _
            have mw : w13.heap[w12.heap.size]? = some (.cells #[.int .i64 xd, .int .i64 cnt, .string ⟨root.toArray⟩, .bool xw] 46 (0, 0)) := by rw [← hw]; exact heap_alloc_at _ _
            rw [hw]
            clear hw
            replace bel := below_next bel c
            replace mp := (c.block _ (Array.getElem?_eq_some_iff.1 mp).1).trans mp
            replace rd := rd.below c
            replace fm := fm.below c
            replace mt := (c.block _ (Array.getElem?_eq_some_iff.1 mt).1).trans mt
            replace sg := sg.below c (Nat.le_refl _)
            replace ms := (c.block _ (Array.getElem?_eq_some_iff.1 ms).1).trans ms
            clear c
            obtain ⟨bw, hb⟩ : ∃ b, w12.heap.size = b := ⟨_, rfl⟩
            rw [hb] at mw ⊢
            clear hb
            have Hbel := Lib.hid bel
            have Hmp := Lib.hid mp
            have Hrd := Lib.hid rd
            have Hfm := Lib.hid fm
            have Hmt := Lib.hid mt
            have Hsg := Lib.hid sg
            have Hms := Lib.hid ms
            have Hmw := Lib.hid mw
            clear bel mp rd fm mt sg ms mw
            go_wp2_with fail
            have bel := Hbel.out
            have mp := Hmp.out
            have rd := Hrd.out
            have fm := Hfm.out
            have mt := Hmt.out
            have sg := Hsg.out
            have ms := Hms.out
            have mw := Hmw.out
            clear Hbel Hmp Hrd Hfm Hmt Hsg Hms Hmw
            have SB : Hid (∀ Y, Below w13.heap.size w13 Y → (fun Y => Y.cell? ⟨bt, 0, none⟩ = some (.int .i64 day') ∧ Y.cell? ⟨bt, 1, none⟩ = some (.int .i64 cnt) ∧ Y.cell? ⟨bt, 2, none⟩ = some (.string ⟨root.toArray⟩) ∧ Y.cell? ⟨bs, 0, none⟩ = some (.int .i64 0) ∧ Y.cell? ⟨bs, 1, none⟩ = some (.slice sa 18 sc) ∧ Y.cell? ⟨bs, 2, none⟩ = some (.slice sp 0 sq) ∧ Below w13.heap.size w13 Y) Y) := by
              intro Y hb
              have lt := (Array.getElem?_eq_some_iff.1 mt).1
              have ls := (Array.getElem?_eq_some_iff.1 ms).1
              exact ⟨(hb.cell (p := ⟨bt, 0, none⟩) lt).trans (cell_of_heap mt), (hb.cell (p := ⟨bt, 1, none⟩) lt).trans (cell_of_heap mt), (hb.cell (p := ⟨bt, 2, none⟩) lt).trans (cell_of_heap mt), (hb.cell (p := ⟨bs, 0, none⟩) ls).trans (cell_of_heap ms), (hb.cell (p := ⟨bs, 1, none⟩) ls).trans (cell_of_heap ms), (hb.cell (p := ⟨bs, 2, none⟩) ls).trans (cell_of_heap ms), hb⟩
            have CN : Hid (∀ A, Below w13.heap.size w13 A → Calls Tryz.prog 22 #[.string ⟨offKey.toArray⟩] A fun e w' => ∃ rb2 rm2, e = .returned (.pointer (some ⟨rb2, 0, none⟩)) ∧ w13.heap.size ≤ rm2 ∧ ReaderAt w' rb2 rm2 0 offKey [] ∧ Below w13.heap.size w13 w') := fun A hA => (newR_any offKey A).mono fun e w' ⟨h1, h2, h3⟩ => ⟨_, _, h1, hA.size, h2, below_next hA h3⟩
            have CL : Hid (∀ A rb2 rm2, Below w13.heap.size w13 A → w13.heap.size ≤ rm2 → ReaderAt A rb2 rm2 0 offKey [] → Calls Tryz.prog 24 #[.pointer (some ⟨rb2, 0, none⟩), .int .i64 day', .int .i64 cnt, .string ⟨root.toArray⟩, .agg #[.int .i64 0, .slice sa 18 sc, .slice sp 0 sq]] A fun e w' => e = .returned (.int .i64 0) ∧ Below w13.heap.size w13 w') := fun A rb2 rm2 hA hge hrd => (learn_any offKey root day' cnt sig _ rb2 rm2 0 [] _ (ht.below (below_next bel hA) (Nat.le_refl _)) hrd ⟨sa, sc, sp, sq, rfl, sg.below hA (Nat.le_refl _)⟩ hsok i0 i1 i2 i3 (by omega) (by decide) (es0, 0) hlr0).mono fun e w' ⟨h1, _, h3⟩ => ⟨h1, hA.grown h3 hA.size (fun k e => by injection e with e; omega)⟩
            have hS0 := SB.out _ (Below.refl _ _)
            have hS1 := SB.out _ (Below.refl w13.heap.size w13).drew
            try simp only at hS0 hS1
            have Hbel := Lib.hid bel
            have Hmp := Lib.hid mp
            have Hrd := Lib.hid rd
            have Hfm := Lib.hid fm
            have Hmt := Lib.hid mt
            have Hsg := Lib.hid sg
            have Hms := Lib.hid ms
            have Hmw := Lib.hid mw
            clear bel mp rd fm mt sg ms mw
            go_region_held3 (fun Y => Y.cell? ⟨bt, 0, none⟩ = some (.int .i64 day') ∧ Y.cell? ⟨bt, 1, none⟩ = some (.int .i64 cnt) ∧ Y.cell? ⟨bt, 2, none⟩ = some (.string ⟨root.toArray⟩) ∧ Y.cell? ⟨bs, 0, none⟩ = some (.int .i64 0) ∧ Y.cell? ⟨bs, 1, none⟩ = some (.slice sa 18 sc) ∧ Y.cell? ⟨bs, 2, none⟩ = some (.slice sp 0 sq) ∧ Below w13.heap.size w13 Y) (first | exact hS0 | exact hS1 | assumption) (first | (go_at_call 22; (with_reducible refine (CN.out _ (And.right (And.right (And.right (And.right (And.right (And.right (by assumption)))))))).mono ?_); rintro e z1 ⟨rb2, rm2, rfl, hge, hrd, c1⟩; have hSa := SB.out _ c1; try simp only at hSa) | (go_at_call 24; (with_reducible refine (CL.out _ _ _ (And.right (And.right (And.right (And.right (And.right (And.right (by assumption))))))) hge hrd).mono ?_); rintro e z2 ⟨rfl, c2⟩; have hSb := SB.out _ c2; try simp only at hSb))
            have bel := Hbel.out
            have mp := Hmp.out
            have rd := Hrd.out
            have fm := Hfm.out
            have mt := Hmt.out
            have sg := Hsg.out
            have ms := Hms.out
            have mw := Hmw.out
            clear Hbel Hmp Hrd Hfm Hmt Hsg Hms Hmw
            obtain ⟨_, _, _, _, _, _, c⟩ := hSb
            replace bel := below_next bel c
            replace mp := (c.block _ (Array.getElem?_eq_some_iff.1 mp).1).trans mp
            replace rd := rd.below c
            replace fm := fm.below c
            replace mt := (c.block _ (Array.getElem?_eq_some_iff.1 mt).1).trans mt
            replace sg := sg.below c (Nat.le_refl _)
            replace ms := (c.block _ (Array.getElem?_eq_some_iff.1 ms).1).trans ms
            replace mw := (c.block _ (Array.getElem?_eq_some_iff.1 mw).1).trans mw
            clear c
            clear hS0 hS1 hSa hge hrd c1
            have q_mt_0 := cell_of_heap (i := 0) mt
            have q_mt_1 := cell_of_heap (i := 1) mt
            have q_mt_2 := cell_of_heap (i := 2) mt
            have q_mt_3 := cell_of_heap (i := 3) mt
            have q_mw_0 := cell_of_heap (i := 0) mw
            have q_mw_1 := cell_of_heap (i := 1) mw
            have q_mw_2 := cell_of_heap (i := 2) mw
            have Hbel := Lib.hid bel
            have Hmp := Lib.hid mp
            have Hrd := Lib.hid rd
            have Hfm := Lib.hid fm
            have Hmt := Lib.hid mt
            have Hsg := Lib.hid sg
            have Hms := Lib.hid ms
            have Hmw := Lib.hid mw
            clear bel mp rd fm mt sg ms mw
            go_wp2_with fail
            have bel := Hbel.out
            have mp := Hmp.out
            have rd := Hrd.out
            have fm := Hfm.out
            have mt := Hmt.out
            have sg := Hsg.out
            have ms := Hms.out
            have mw := Hmw.out
            clear Hbel Hmp Hrd Hfm Hmt Hsg Hms Hmw
            clear q_mt_0 q_mt_1 q_mt_2 q_mt_3 q_mw_0 q_mw_1 q_mw_2
            go_roundw
            case rel => exact ⟨k + 1, fs, by omega, by go_num, bel, mp, rd, fm.mono (by omega)⟩
            case measure => simp [intOf]; omega
          · skip
            simp only at hf
            obtain ⟨xd, xc, xr, xw⟩ := x
            simp only at hx1
            have Hx1 := Lib.hid hx1
            clear hx1
            rw [hf] at look
            have Hf := Lib.hid hf
            clear hf
            simp only [Option.getD_some, Option.getD_none, Option.isSome_some, Option.isSome_none, tdV, zeroTd] at look
            have q_mt_0 := cell_of_heap (i := 0) mt
            have Hbel := Lib.hid bel
            have Hmp := Lib.hid mp
            have Hrd := Lib.hid rd
            have Hfm := Lib.hid fm
            have Hmt := Lib.hid mt
            have Hsg := Lib.hid sg
            have Hms := Lib.hid ms
            clear bel mp rd fm mt sg ms
            go_wp2_with fail
            have bel := Hbel.out
            have mp := Hmp.out
            have rd := Hrd.out
            have fm := Hfm.out
            have mt := Hmt.out
            have sg := Hsg.out
            have ms := Hms.out
            clear Hbel Hmp Hrd Hfm Hmt Hsg Hms
            clear q_mt_0
            clear look
            obtain ⟨w13, hw⟩ : ∃ z, w12.alloc (.cells #[.int .i64 xd, .int .i64 xc, .string ⟨xr.toArray⟩, .bool xw] 46) = z := ⟨_, rfl⟩
            have c : Below w12.heap.size w12 w13 := by rw [← hw]; exact (Below.refl _ _).alloc (Nat.le_refl _) _
            have mw : w13.heap[w12.heap.size]? = some (.cells #[.int .i64 xd, .int .i64 xc, .string ⟨xr.toArray⟩, .bool xw] 46 (0, 0)) := by rw [← hw]; exact heap_alloc_at _ _
            rw [hw]
            clear hw
            replace bel := below_next bel c
            replace mp := (c.block _ (Array.getElem?_eq_some_iff.1 mp).1).trans mp
            replace rd := rd.below c
            replace fm := fm.below c
            replace mt := (c.block _ (Array.getElem?_eq_some_iff.1 mt).1).trans mt
            replace sg := sg.below c (Nat.le_refl _)
            replace ms := (c.block _ (Array.getElem?_eq_some_iff.1 ms).1).trans ms
            clear c
            obtain ⟨bw, hb⟩ : ∃ b, w12.heap.size = b := ⟨_, rfl⟩
            rw [hb] at mw ⊢
            clear hb
            have Hbel := Lib.hid bel
            have Hmp := Lib.hid mp
            have Hrd := Lib.hid rd
            have Hfm := Lib.hid fm
            have Hmt := Lib.hid mt
            have Hsg := Lib.hid sg
            have Hms := Lib.hid ms
            have Hmw := Lib.hid mw
            clear bel mp rd fm mt sg ms mw
            go_wp2_with fail
            have bel := Hbel.out
            have mp := Hmp.out
            have rd := Hrd.out
            have fm := Hfm.out
            have mt := Hmt.out
            have sg := Hsg.out
            have ms := Hms.out
            have mw := Hmw.out
            clear Hbel Hmp Hrd Hfm Hmt Hsg Hms Hmw
            have SB : Hid (∀ Y, Below w13.heap.size w13 Y → (fun Y => Y.cell? ⟨bt, 0, none⟩ = some (.int .i64 day') ∧ Y.cell? ⟨bt, 1, none⟩ = some (.int .i64 cnt) ∧ Y.cell? ⟨bt, 2, none⟩ = some (.string ⟨root.toArray⟩) ∧ Y.cell? ⟨bs, 0, none⟩ = some (.int .i64 0) ∧ Y.cell? ⟨bs, 1, none⟩ = some (.slice sa 18 sc) ∧ Y.cell? ⟨bs, 2, none⟩ = some (.slice sp 0 sq) ∧ Below w13.heap.size w13 Y) Y) := by
              intro Y hb
              have lt := (Array.getElem?_eq_some_iff.1 mt).1
              have ls := (Array.getElem?_eq_some_iff.1 ms).1
              exact ⟨(hb.cell (p := ⟨bt, 0, none⟩) lt).trans (cell_of_heap mt), (hb.cell (p := ⟨bt, 1, none⟩) lt).trans (cell_of_heap mt), (hb.cell (p := ⟨bt, 2, none⟩) lt).trans (cell_of_heap mt), (hb.cell (p := ⟨bs, 0, none⟩) ls).trans (cell_of_heap ms), (hb.cell (p := ⟨bs, 1, none⟩) ls).trans (cell_of_heap ms), (hb.cell (p := ⟨bs, 2, none⟩) ls).trans (cell_of_heap ms), hb⟩
            have CN : Hid (∀ A, Below w13.heap.size w13 A → Calls Tryz.prog 22 #[.string ⟨offKey.toArray⟩] A fun e w' => ∃ rb2 rm2, e = .returned (.pointer (some ⟨rb2, 0, none⟩)) ∧ w13.heap.size ≤ rm2 ∧ ReaderAt w' rb2 rm2 0 offKey [] ∧ Below w13.heap.size w13 w') := fun A hA => (newR_any offKey A).mono fun e w' ⟨h1, h2, h3⟩ => ⟨_, _, h1, hA.size, h2, below_next hA h3⟩
            have CL : Hid (∀ A rb2 rm2, Below w13.heap.size w13 A → w13.heap.size ≤ rm2 → ReaderAt A rb2 rm2 0 offKey [] → Calls Tryz.prog 24 #[.pointer (some ⟨rb2, 0, none⟩), .int .i64 day', .int .i64 cnt, .string ⟨root.toArray⟩, .agg #[.int .i64 0, .slice sa 18 sc, .slice sp 0 sq]] A fun e w' => e = .returned (.int .i64 0) ∧ Below w13.heap.size w13 w') := fun A rb2 rm2 hA hge hrd => (learn_any offKey root day' cnt sig _ rb2 rm2 0 [] _ (ht.below (below_next bel hA) (Nat.le_refl _)) hrd ⟨sa, sc, sp, sq, rfl, sg.below hA (Nat.le_refl _)⟩ hsok i0 i1 i2 i3 (by omega) (by decide) (es0, 0) hlr0).mono fun e w' ⟨h1, _, h3⟩ => ⟨h1, hA.grown h3 hA.size (fun k e => by injection e with e; omega)⟩
            have hS0 := SB.out _ (Below.refl _ _)
            have hS1 := SB.out _ (Below.refl w13.heap.size w13).drew
            try simp only at hS0 hS1
            have Hbel := Lib.hid bel
            have Hmp := Lib.hid mp
            have Hrd := Lib.hid rd
            have Hfm := Lib.hid fm
            have Hmt := Lib.hid mt
            have Hsg := Lib.hid sg
            have Hms := Lib.hid ms
            have Hmw := Lib.hid mw
            clear bel mp rd fm mt sg ms mw
            go_region_held3 (fun Y => Y.cell? ⟨bt, 0, none⟩ = some (.int .i64 day') ∧ Y.cell? ⟨bt, 1, none⟩ = some (.int .i64 cnt) ∧ Y.cell? ⟨bt, 2, none⟩ = some (.string ⟨root.toArray⟩) ∧ Y.cell? ⟨bs, 0, none⟩ = some (.int .i64 0) ∧ Y.cell? ⟨bs, 1, none⟩ = some (.slice sa 18 sc) ∧ Y.cell? ⟨bs, 2, none⟩ = some (.slice sp 0 sq) ∧ Below w13.heap.size w13 Y) (first | exact hS0 | exact hS1 | assumption) (first | (go_at_call 22; (with_reducible refine (CN.out _ (And.right (And.right (And.right (And.right (And.right (And.right (by assumption)))))))).mono ?_); rintro e z1 ⟨rb2, rm2, rfl, hge, hrd, c1⟩; have hSa := SB.out _ c1; try simp only at hSa) | (go_at_call 24; (with_reducible refine (CL.out _ _ _ (And.right (And.right (And.right (And.right (And.right (And.right (by assumption))))))) hge hrd).mono ?_); rintro e z2 ⟨rfl, c2⟩; have hSb := SB.out _ c2; try simp only at hSb))
            have bel := Hbel.out
            have mp := Hmp.out
            have rd := Hrd.out
            have fm := Hfm.out
            have mt := Hmt.out
            have sg := Hsg.out
            have ms := Hms.out
            have mw := Hmw.out
            clear Hbel Hmp Hrd Hfm Hmt Hsg Hms Hmw
            obtain ⟨_, _, _, _, _, _, c⟩ := hSb
            replace bel := below_next bel c
            replace mp := (c.block _ (Array.getElem?_eq_some_iff.1 mp).1).trans mp
            replace rd := rd.below c
            replace fm := fm.below c
            replace mt := (c.block _ (Array.getElem?_eq_some_iff.1 mt).1).trans mt
            replace sg := sg.below c (Nat.le_refl _)
            replace ms := (c.block _ (Array.getElem?_eq_some_iff.1 ms).1).trans ms
            replace mw := (c.block _ (Array.getElem?_eq_some_iff.1 mw).1).trans mw
            clear c
            clear hS0 hS1 hSa hge hrd c1
            by_cases hc1 : xr = root
            · skip
              subst hc1
              have hc2 : ¬ xc = cnt := fun e => Hx1.out ⟨rfl, e⟩
              have q_mt_0 := cell_of_heap (i := 0) mt
              have q_mt_1 := cell_of_heap (i := 1) mt
              have q_mt_2 := cell_of_heap (i := 2) mt
              have q_mt_3 := cell_of_heap (i := 3) mt
              have q_mw_0 := cell_of_heap (i := 0) mw
              have q_mw_1 := cell_of_heap (i := 1) mw
              have q_mw_2 := cell_of_heap (i := 2) mw
              have Hbel := Lib.hid bel
              have Hmp := Lib.hid mp
              have Hrd := Lib.hid rd
              have Hfm := Lib.hid fm
              have Hmt := Lib.hid mt
              have Hsg := Lib.hid sg
              have Hms := Lib.hid ms
              have Hmw := Lib.hid mw
              clear bel mp rd fm mt sg ms mw
              go_wp2_with fail
              have bel := Hbel.out
              have mp := Hmp.out
              have rd := Hrd.out
              have fm := Hfm.out
              have mt := Hmt.out
              have sg := Hsg.out
              have ms := Hms.out
              have mw := Hmw.out
              clear Hbel Hmp Hrd Hfm Hmt Hsg Hms Hmw
              clear q_mt_0 q_mt_1 q_mt_2 q_mt_3 q_mw_0 q_mw_1 q_mw_2
              go_roundw
              case rel => exact ⟨k + 1, fs, by omega, by go_num, bel, mp, rd, fm.mono (by omega)⟩
              case measure => simp [intOf]; omega
            · skip
              have q_mt_0 := cell_of_heap (i := 0) mt
              have q_mt_1 := cell_of_heap (i := 1) mt
              have q_mt_2 := cell_of_heap (i := 2) mt
              have q_mt_3 := cell_of_heap (i := 3) mt
              have q_mw_0 := cell_of_heap (i := 0) mw
              have q_mw_1 := cell_of_heap (i := 1) mw
              have q_mw_2 := cell_of_heap (i := 2) mw
              have Hbel := Lib.hid bel
              have Hmp := Lib.hid mp
              have Hrd := Lib.hid rd
              have Hfm := Lib.hid fm
              have Hmt := Lib.hid mt
              have Hsg := Lib.hid sg
              have Hms := Lib.hid ms
              have Hmw := Lib.hid mw
              clear bel mp rd fm mt sg ms mw
              go_wp2_with fail
              have bel := Hbel.out
              have mp := Hmp.out
              have rd := Hrd.out
              have fm := Hfm.out
              have mt := Hmt.out
              have sg := Hsg.out
              have ms := Hms.out
              have mw := Hmw.out
              clear Hbel Hmp Hrd Hfm Hmt Hsg Hms Hmw
              clear q_mt_0 q_mt_1 q_mt_2 q_mt_3 q_mw_0 q_mw_1 q_mw_2
              go_roundw
              case rel => exact ⟨k + 1, fs, by omega, by go_num, bel, mp, rd, fm.mono (by omega)⟩
              case measure => simp [intOf]; omega
          · skip
            simp only at hf
            rw [hf] at look
            have Hf := Lib.hid hf
            clear hf
            simp only [Option.getD_some, Option.getD_none, Option.isSome_some, Option.isSome_none, tdV, zeroTd] at look
            have q_mt_0 := cell_of_heap (i := 0) mt
            have Hbel := Lib.hid bel
            have Hmp := Lib.hid mp
            have Hrd := Lib.hid rd
            have Hfm := Lib.hid fm
            have Hmt := Lib.hid mt
            have Hsg := Lib.hid sg
            have Hms := Lib.hid ms
            clear bel mp rd fm mt sg ms
            go_wp2_with fail
            have bel := Hbel.out
            have mp := Hmp.out
            have rd := Hrd.out
            have fm := Hfm.out
            have mt := Hmt.out
            have sg := Hsg.out
            have ms := Hms.out
            clear Hbel Hmp Hrd Hfm Hmt Hsg Hms
            clear q_mt_0
            clear look
            obtain ⟨w13, hw⟩ : ∃ z, w12.alloc (.cells #[.int .i64 0, .int .i64 0, .string ⟨([] : List UInt8).toArray⟩, .bool false] 46) = z := ⟨_, rfl⟩
            have c : Below w12.heap.size w12 w13 := by rw [← hw]; exact (Below.refl _ _).alloc (Nat.le_refl _) _
            have mw : w13.heap[w12.heap.size]? = some (.cells #[.int .i64 0, .int .i64 0, .string ⟨([] : List UInt8).toArray⟩, .bool false] 46 (0, 0)) := by rw [← hw]; exact heap_alloc_at _ _
            rw [hw]
            clear hw
            replace bel := below_next bel c
            replace mp := (c.block _ (Array.getElem?_eq_some_iff.1 mp).1).trans mp
            replace rd := rd.below c
            replace fm := fm.below c
            replace mt := (c.block _ (Array.getElem?_eq_some_iff.1 mt).1).trans mt
            replace sg := sg.below c (Nat.le_refl _)
            replace ms := (c.block _ (Array.getElem?_eq_some_iff.1 ms).1).trans ms
            clear c
            obtain ⟨bw, hb⟩ : ∃ b, w12.heap.size = b := ⟨_, rfl⟩
            rw [hb] at mw ⊢
            clear hb
            have Hbel := Lib.hid bel
            have Hmp := Lib.hid mp
            have Hrd := Lib.hid rd
            have Hfm := Lib.hid fm
            have Hmt := Lib.hid mt
            have Hsg := Lib.hid sg
            have Hms := Lib.hid ms
            have Hmw := Lib.hid mw
            clear bel mp rd fm mt sg ms mw
            go_wp2_with fail
            have bel := Hbel.out
            have mp := Hmp.out
            have rd := Hrd.out
            have fm := Hfm.out
            have mt := Hmt.out
            have sg := Hsg.out
            have ms := Hms.out
            have mw := Hmw.out
            clear Hbel Hmp Hrd Hfm Hmt Hsg Hms Hmw
            have SB : Hid (∀ Y, Below w13.heap.size w13 Y → (fun Y => Y.cell? ⟨bt, 0, none⟩ = some (.int .i64 day') ∧ Y.cell? ⟨bt, 1, none⟩ = some (.int .i64 cnt) ∧ Y.cell? ⟨bt, 2, none⟩ = some (.string ⟨root.toArray⟩) ∧ Y.cell? ⟨bs, 0, none⟩ = some (.int .i64 0) ∧ Y.cell? ⟨bs, 1, none⟩ = some (.slice sa 18 sc) ∧ Y.cell? ⟨bs, 2, none⟩ = some (.slice sp 0 sq) ∧ Below w13.heap.size w13 Y) Y) := by
              intro Y hb
              have lt := (Array.getElem?_eq_some_iff.1 mt).1
              have ls := (Array.getElem?_eq_some_iff.1 ms).1
              exact ⟨(hb.cell (p := ⟨bt, 0, none⟩) lt).trans (cell_of_heap mt), (hb.cell (p := ⟨bt, 1, none⟩) lt).trans (cell_of_heap mt), (hb.cell (p := ⟨bt, 2, none⟩) lt).trans (cell_of_heap mt), (hb.cell (p := ⟨bs, 0, none⟩) ls).trans (cell_of_heap ms), (hb.cell (p := ⟨bs, 1, none⟩) ls).trans (cell_of_heap ms), (hb.cell (p := ⟨bs, 2, none⟩) ls).trans (cell_of_heap ms), hb⟩
            have CN : Hid (∀ A, Below w13.heap.size w13 A → Calls Tryz.prog 22 #[.string ⟨offKey.toArray⟩] A fun e w' => ∃ rb2 rm2, e = .returned (.pointer (some ⟨rb2, 0, none⟩)) ∧ w13.heap.size ≤ rm2 ∧ ReaderAt w' rb2 rm2 0 offKey [] ∧ Below w13.heap.size w13 w') := fun A hA => (newR_any offKey A).mono fun e w' ⟨h1, h2, h3⟩ => ⟨_, _, h1, hA.size, h2, below_next hA h3⟩
            have CL : Hid (∀ A rb2 rm2, Below w13.heap.size w13 A → w13.heap.size ≤ rm2 → ReaderAt A rb2 rm2 0 offKey [] → Calls Tryz.prog 24 #[.pointer (some ⟨rb2, 0, none⟩), .int .i64 day', .int .i64 cnt, .string ⟨root.toArray⟩, .agg #[.int .i64 0, .slice sa 18 sc, .slice sp 0 sq]] A fun e w' => e = .returned (.int .i64 0) ∧ Below w13.heap.size w13 w') := fun A rb2 rm2 hA hge hrd => (learn_any offKey root day' cnt sig _ rb2 rm2 0 [] _ (ht.below (below_next bel hA) (Nat.le_refl _)) hrd ⟨sa, sc, sp, sq, rfl, sg.below hA (Nat.le_refl _)⟩ hsok i0 i1 i2 i3 (by omega) (by decide) (es0, 0) hlr0).mono fun e w' ⟨h1, _, h3⟩ => ⟨h1, hA.grown h3 hA.size (fun k e => by injection e with e; omega)⟩
            have hS0 := SB.out _ (Below.refl _ _)
            have hS1 := SB.out _ (Below.refl w13.heap.size w13).drew
            try simp only at hS0 hS1
            have Hbel := Lib.hid bel
            have Hmp := Lib.hid mp
            have Hrd := Lib.hid rd
            have Hfm := Lib.hid fm
            have Hmt := Lib.hid mt
            have Hsg := Lib.hid sg
            have Hms := Lib.hid ms
            have Hmw := Lib.hid mw
            clear bel mp rd fm mt sg ms mw
            go_region_held3 (fun Y => Y.cell? ⟨bt, 0, none⟩ = some (.int .i64 day') ∧ Y.cell? ⟨bt, 1, none⟩ = some (.int .i64 cnt) ∧ Y.cell? ⟨bt, 2, none⟩ = some (.string ⟨root.toArray⟩) ∧ Y.cell? ⟨bs, 0, none⟩ = some (.int .i64 0) ∧ Y.cell? ⟨bs, 1, none⟩ = some (.slice sa 18 sc) ∧ Y.cell? ⟨bs, 2, none⟩ = some (.slice sp 0 sq) ∧ Below w13.heap.size w13 Y) (first | exact hS0 | exact hS1 | assumption) (first | (go_at_call 22; (with_reducible refine (CN.out _ (And.right (And.right (And.right (And.right (And.right (And.right (by assumption)))))))).mono ?_); rintro e z1 ⟨rb2, rm2, rfl, hge, hrd, c1⟩; have hSa := SB.out _ c1; try simp only at hSa) | (go_at_call 24; (with_reducible refine (CL.out _ _ _ (And.right (And.right (And.right (And.right (And.right (And.right (by assumption))))))) hge hrd).mono ?_); rintro e z2 ⟨rfl, c2⟩; have hSb := SB.out _ c2; try simp only at hSb))
            have bel := Hbel.out
            have mp := Hmp.out
            have rd := Hrd.out
            have fm := Hfm.out
            have mt := Hmt.out
            have sg := Hsg.out
            have ms := Hms.out
            have mw := Hmw.out
            clear Hbel Hmp Hrd Hfm Hmt Hsg Hms Hmw
            obtain ⟨_, _, _, _, _, _, c⟩ := hSb
            replace bel := below_next bel c
            replace mp := (c.block _ (Array.getElem?_eq_some_iff.1 mp).1).trans mp
            replace rd := rd.below c
            replace fm := fm.below c
            replace mt := (c.block _ (Array.getElem?_eq_some_iff.1 mt).1).trans mt
            replace sg := sg.below c (Nat.le_refl _)
            replace ms := (c.block _ (Array.getElem?_eq_some_iff.1 ms).1).trans ms
            replace mw := (c.block _ (Array.getElem?_eq_some_iff.1 mw).1).trans mw
            clear c
            clear hS0 hS1 hSa hge hrd c1
            obtain ⟨wq, hput, fm2, gq⟩ := fmap_put (t := ⟨day', cnt, root, wrong⟩) fm i0 i1 (by unfold maxLen; omega) Hf.out
            simp only [tdV] at hput
            have Hfm2 := Lib.hid fm2
            have Hgq := Lib.hid gq
            clear fm2 gq
            have q_mt_0 := cell_of_heap (i := 0) mt
            have q_mt_1 := cell_of_heap (i := 1) mt
            have q_mt_2 := cell_of_heap (i := 2) mt
            have q_mt_3 := cell_of_heap (i := 3) mt
            have q_mw_0 := cell_of_heap (i := 0) mw
            have q_mw_1 := cell_of_heap (i := 1) mw
            have q_mw_2 := cell_of_heap (i := 2) mw
            have Hbel := Lib.hid bel
            have Hmp := Lib.hid mp
            have Hrd := Lib.hid rd
            have Hfm := Lib.hid fm
            have Hmt := Lib.hid mt
            have Hsg := Lib.hid sg
            have Hms := Lib.hid ms
            have Hmw := Lib.hid mw
            clear bel mp rd fm mt sg ms mw
            go_wp2_with fail
            have bel := Hbel.out
            have mp := Hmp.out
            have rd := Hrd.out
            have fm := Hfm.out
            have mt := Hmt.out
            have sg := Hsg.out
            have ms := Hms.out
            have mw := Hmw.out
            clear Hbel Hmp Hrd Hfm Hmt Hsg Hms Hmw
            clear q_mt_0 q_mt_1 q_mt_2 q_mt_3 q_mw_0 q_mw_1 q_mw_2
            have fm2 := Hfm2.out
            have gq := Hgq.out
            have hmm2 := fm
            replace bel := bel.grown gq bel.size (fun k e => by injection e with e; omega)
            replace mp := (gq.block _ (Array.getElem?_eq_some_iff.1 mp).1 (fun e => hmm2.ne mp (by injection e))).trans mp
            replace rd := rd.kept gq (by intro e; injection e with e; omega) (by intro e; injection e with e; omega)
            clear fm Hfm2 Hgq hmm2
            have fm := fm2
            clear fm2
            go_roundw
            case rel => exact ⟨k + 1, fs ++ [⟨day', cnt, root, wrong⟩], by omega, by go_num, bel, mp, rd, fm⟩
            case measure => simp [intOf]; omega
        · skip
          obtain rfl : k = l.length := by omega
          obtain ⟨r, hwr⟩ : ∃ r, Hid (Pf.wasL (knows fs) day p = r) := ⟨_, rfl⟩
          have look := fmap_look fm day hd0 hd1
          cases hf : fstL fs day with
          | none =>
            have hr : r = 11 := by rw [← hwr.out]; exact was_none hf
            subst hr
            rw [hf] at look
            have Hf := Lib.hid hf
            clear hf
            simp only [Option.getD_some, Option.getD_none, Option.isSome_some, Option.isSome_none, tdV, zeroTd] at look
            have q_mp_0 := cell_of_heap (i := 0) ((heap_alloc_lt wr (.cells #[.int .i64 0, .int .i64 0, .string ⟨([] : List UInt8).toArray⟩, .bool false] 46) _ (Array.getElem?_eq_some_iff.1 mp).1).trans mp)
            have q_mp_1 := cell_of_heap (i := 1) ((heap_alloc_lt wr (.cells #[.int .i64 0, .int .i64 0, .string ⟨([] : List UInt8).toArray⟩, .bool false] 46) _ (Array.getElem?_eq_some_iff.1 mp).1).trans mp)
            have q_mp_2 := cell_of_heap (i := 2) ((heap_alloc_lt wr (.cells #[.int .i64 0, .int .i64 0, .string ⟨([] : List UInt8).toArray⟩, .bool false] 46) _ (Array.getElem?_eq_some_iff.1 mp).1).trans mp)
            have q_mp_3 := cell_of_heap (i := 3) ((heap_alloc_lt wr (.cells #[.int .i64 0, .int .i64 0, .string ⟨([] : List UInt8).toArray⟩, .bool false] 46) _ (Array.getElem?_eq_some_iff.1 mp).1).trans mp)
            have q_mp_4 := cell_of_heap (i := 4) ((heap_alloc_lt wr (.cells #[.int .i64 0, .int .i64 0, .string ⟨([] : List UInt8).toArray⟩, .bool false] 46) _ (Array.getElem?_eq_some_iff.1 mp).1).trans mp)
            have q_mp_5 := cell_of_heap (i := 5) ((heap_alloc_lt wr (.cells #[.int .i64 0, .int .i64 0, .string ⟨([] : List UInt8).toArray⟩, .bool false] 46) _ (Array.getElem?_eq_some_iff.1 mp).1).trans mp)
            have q_mp_6 := cell_of_heap (i := 6) ((heap_alloc_lt wr (.cells #[.int .i64 0, .int .i64 0, .string ⟨([] : List UInt8).toArray⟩, .bool false] 46) _ (Array.getElem?_eq_some_iff.1 mp).1).trans mp)
            have q_mp_7 := cell_of_heap (i := 7) ((heap_alloc_lt wr (.cells #[.int .i64 0, .int .i64 0, .string ⟨([] : List UInt8).toArray⟩, .bool false] 46) _ (Array.getElem?_eq_some_iff.1 mp).1).trans mp)
            have q_mp_8 := cell_of_heap (i := 8) ((heap_alloc_lt wr (.cells #[.int .i64 0, .int .i64 0, .string ⟨([] : List UInt8).toArray⟩, .bool false] 46) _ (Array.getElem?_eq_some_iff.1 mp).1).trans mp)
            have q_mp_9 := cell_of_heap (i := 9) ((heap_alloc_lt wr (.cells #[.int .i64 0, .int .i64 0, .string ⟨([] : List UInt8).toArray⟩, .bool false] 46) _ (Array.getElem?_eq_some_iff.1 mp).1).trans mp)
            have Hbel := Lib.hid bel
            have Hmp := Lib.hid mp
            have Hrd := Lib.hid rd
            have Hfm := Lib.hid fm
            clear bel mp rd fm
            go_wp2_with fail
            have bel := Hbel.out
            have mp := Hmp.out
            have rd := Hrd.out
            have fm := Hfm.out
            clear Hbel Hmp Hrd Hfm
            clear q_mp_0 q_mp_1 q_mp_2 q_mp_3 q_mp_4 q_mp_5 q_mp_6 q_mp_7 q_mp_8 q_mp_9
            clear look
            obtain ⟨w9, hw⟩ : ∃ z, wr.alloc (.cells #[.int .i64 0, .int .i64 0, .string ⟨([] : List UInt8).toArray⟩, .bool false] 46) = z := ⟨_, rfl⟩
            have c : Below wr.heap.size wr w9 := by rw [← hw]; exact (Below.refl _ _).alloc (Nat.le_refl _) _
            have mx : w9.heap[wr.heap.size]? = some (.cells #[.int .i64 0, .int .i64 0, .string ⟨([] : List UInt8).toArray⟩, .bool false] 46 (0, 0)) := by rw [← hw]; exact heap_alloc_at _ _
            rw [hw]
            clear hw
            replace bel := below_next bel c
            replace mp := (c.block _ (Array.getElem?_eq_some_iff.1 mp).1).trans mp
            replace rd := rd.below c
            replace fm := fm.below c
            clear c
            obtain ⟨bx, hb⟩ : ∃ b, wr.heap.size = b := ⟨_, rfl⟩
            rw [hb] at mx ⊢
            clear hb
            refine (was_any offKey day p _ rb rm _ (knows fs) _ (ht.below bel (Nat.le_refl _)) rd (Hp.out.below bel (Nat.le_refl _)) hpo hd0 hd1 11 hwr).mono ?_
            rintro e w10 ⟨rfl, c⟩
            replace bel := below_next bel c
            replace mp := (c.block _ (Array.getElem?_eq_some_iff.1 mp).1).trans mp
            replace rd := rd.below c
            replace fm := fm.below c
            replace mx := (c.block _ (Array.getElem?_eq_some_iff.1 mx).1).trans mx
            clear c
            have Hbel := Lib.hid bel
            have Hmp := Lib.hid mp
            have Hrd := Lib.hid rd
            have Hfm := Lib.hid fm
            have Hmx := Lib.hid mx
            clear bel mp rd fm mx
            go_wp2_with fail
            have bel := Hbel.out
            have mp := Hmp.out
            have rd := Hrd.out
            have fm := Hfm.out
            have mx := Hmx.out
            clear Hbel Hmp Hrd Hfm Hmx
            refine (days_any offKey rb rm _ (knows fs) _ rd (by omega)).mono ?_
            rintro e w11 ⟨dv, rfl, hdv, c⟩
            replace bel := below_next bel c
            replace mp := (c.block _ (Array.getElem?_eq_some_iff.1 mp).1).trans mp
            replace rd := rd.below c
            replace fm := fm.below c
            replace mx := (c.block _ (Array.getElem?_eq_some_iff.1 mx).1).trans mx
            clear c
            obtain ⟨da, dc, rfl⟩ := hdv.shape
            clear hdv
            rw [knows_length]
            have hln := fmap_len fm 3
            have Hbel := Lib.hid bel
            have Hmp := Lib.hid mp
            have Hrd := Lib.hid rd
            have Hfm := Lib.hid fm
            have Hmx := Lib.hid mx
            clear bel mp rd fm mx
            go_wp2_with fail
            have bel := Hbel.out
            have mp := Hmp.out
            have rd := Hrd.out
            have fm := Hfm.out
            have mx := Hmx.out
            clear Hbel Hmp Hrd Hfm Hmx
            go_ret
            exact ⟨rfl, bel⟩
          | some x =>
            obtain ⟨xd, xc, xr, xw⟩ := x
            have hws := hwr.out
            rw [was_some hf] at hws
            simp only at hws
            obtain ⟨cb, hcb⟩ : ∃ cb, Hid (Pf.checkL xr p = cb) := ⟨_, rfl⟩
            rw [hcb.out] at hws
            have Hws := Lib.hid hws
            clear hws
            rw [hf] at look
            have Hf := Lib.hid hf
            clear hf
            simp only [Option.getD_some, Option.getD_none, Option.isSome_some, Option.isSome_none, tdV, zeroTd] at look
            have q_mp_0 := cell_of_heap (i := 0) ((heap_alloc_lt wr (.cells #[.int .i64 xd, .int .i64 xc, .string ⟨xr.toArray⟩, .bool xw] 46) _ (Array.getElem?_eq_some_iff.1 mp).1).trans mp)
            have q_mp_1 := cell_of_heap (i := 1) ((heap_alloc_lt wr (.cells #[.int .i64 xd, .int .i64 xc, .string ⟨xr.toArray⟩, .bool xw] 46) _ (Array.getElem?_eq_some_iff.1 mp).1).trans mp)
            have q_mp_2 := cell_of_heap (i := 2) ((heap_alloc_lt wr (.cells #[.int .i64 xd, .int .i64 xc, .string ⟨xr.toArray⟩, .bool xw] 46) _ (Array.getElem?_eq_some_iff.1 mp).1).trans mp)
            have q_mp_3 := cell_of_heap (i := 3) ((heap_alloc_lt wr (.cells #[.int .i64 xd, .int .i64 xc, .string ⟨xr.toArray⟩, .bool xw] 46) _ (Array.getElem?_eq_some_iff.1 mp).1).trans mp)
            have q_mp_4 := cell_of_heap (i := 4) ((heap_alloc_lt wr (.cells #[.int .i64 xd, .int .i64 xc, .string ⟨xr.toArray⟩, .bool xw] 46) _ (Array.getElem?_eq_some_iff.1 mp).1).trans mp)
            have q_mp_5 := cell_of_heap (i := 5) ((heap_alloc_lt wr (.cells #[.int .i64 xd, .int .i64 xc, .string ⟨xr.toArray⟩, .bool xw] 46) _ (Array.getElem?_eq_some_iff.1 mp).1).trans mp)
            have q_mp_6 := cell_of_heap (i := 6) ((heap_alloc_lt wr (.cells #[.int .i64 xd, .int .i64 xc, .string ⟨xr.toArray⟩, .bool xw] 46) _ (Array.getElem?_eq_some_iff.1 mp).1).trans mp)
            have q_mp_7 := cell_of_heap (i := 7) ((heap_alloc_lt wr (.cells #[.int .i64 xd, .int .i64 xc, .string ⟨xr.toArray⟩, .bool xw] 46) _ (Array.getElem?_eq_some_iff.1 mp).1).trans mp)
            have q_mp_8 := cell_of_heap (i := 8) ((heap_alloc_lt wr (.cells #[.int .i64 xd, .int .i64 xc, .string ⟨xr.toArray⟩, .bool xw] 46) _ (Array.getElem?_eq_some_iff.1 mp).1).trans mp)
            have q_mp_9 := cell_of_heap (i := 9) ((heap_alloc_lt wr (.cells #[.int .i64 xd, .int .i64 xc, .string ⟨xr.toArray⟩, .bool xw] 46) _ (Array.getElem?_eq_some_iff.1 mp).1).trans mp)
            have Hbel := Lib.hid bel
            have Hmp := Lib.hid mp
            have Hrd := Lib.hid rd
            have Hfm := Lib.hid fm
            clear bel mp rd fm
            go_wp2_with fail
            have bel := Hbel.out
            have mp := Hmp.out
            have rd := Hrd.out
            have fm := Hfm.out
            clear Hbel Hmp Hrd Hfm
            clear q_mp_0 q_mp_1 q_mp_2 q_mp_3 q_mp_4 q_mp_5 q_mp_6 q_mp_7 q_mp_8 q_mp_9
            clear look
            obtain ⟨w9, hw⟩ : ∃ z, wr.alloc (.cells #[.int .i64 xd, .int .i64 xc, .string ⟨xr.toArray⟩, .bool xw] 46) = z := ⟨_, rfl⟩
            have c : Below wr.heap.size wr w9 := by rw [← hw]; exact (Below.refl _ _).alloc (Nat.le_refl _) _
            have mx : w9.heap[wr.heap.size]? = some (.cells #[.int .i64 xd, .int .i64 xc, .string ⟨xr.toArray⟩, .bool xw] 46 (0, 0)) := by rw [← hw]; exact heap_alloc_at _ _
            rw [hw]
            clear hw
            replace bel := below_next bel c
            replace mp := (c.block _ (Array.getElem?_eq_some_iff.1 mp).1).trans mp
            replace rd := rd.below c
            replace fm := fm.below c
            clear c
            obtain ⟨bx, hb⟩ : ∃ b, wr.heap.size = b := ⟨_, rfl⟩
            rw [hb] at mx ⊢
            clear hb
            refine (was_any offKey day p _ rb rm _ (knows fs) _ (ht.below bel (Nat.le_refl _)) rd (Hp.out.below bel (Nat.le_refl _)) hpo hd0 hd1 r hwr).mono ?_
            rintro e w10 ⟨rfl, c⟩
            replace bel := below_next bel c
            replace mp := (c.block _ (Array.getElem?_eq_some_iff.1 mp).1).trans mp
            replace rd := rd.below c
            replace fm := fm.below c
            replace mx := (c.block _ (Array.getElem?_eq_some_iff.1 mx).1).trans mx
            clear c
            by_cases hc : xc = p.count
            · skip
              subst hc
              cases cb
              · skip
                obtain rfl : r = 21 := by rw [← Hws.out]; simp
                have q_mp_0 := cell_of_heap (i := 0) mp
                have q_mp_1 := cell_of_heap (i := 1) mp
                have q_mp_2 := cell_of_heap (i := 2) mp
                have q_mp_3 := cell_of_heap (i := 3) mp
                have q_mp_4 := cell_of_heap (i := 4) mp
                have q_mp_5 := cell_of_heap (i := 5) mp
                have q_mp_6 := cell_of_heap (i := 6) mp
                have q_mp_7 := cell_of_heap (i := 7) mp
                have q_mp_8 := cell_of_heap (i := 8) mp
                have q_mp_9 := cell_of_heap (i := 9) mp
                have q_mx_1 := cell_of_heap (i := 1) mx
                have q_mx_2 := cell_of_heap (i := 2) mx
                have Hbel := Lib.hid bel
                have Hmp := Lib.hid mp
                have Hrd := Lib.hid rd
                have Hfm := Lib.hid fm
                have Hmx := Lib.hid mx
                clear bel mp rd fm mx
                go_wp2_with fail
                have bel := Hbel.out
                have mp := Hmp.out
                have rd := Hrd.out
                have fm := Hfm.out
                have mx := Hmx.out
                clear Hbel Hmp Hrd Hfm Hmx
                clear q_mp_0 q_mp_1 q_mp_2 q_mp_3 q_mp_4 q_mp_5 q_mp_6 q_mp_7 q_mp_8 q_mp_9 q_mx_1 q_mx_2
                refine (checkP_any xr p _ false _ (ht.below bel (Nat.le_refl _)) (Hp.out.below bel (Nat.le_refl _)) hpo hcb).mono ?_
                rintro e w11 ⟨rfl, c⟩
                replace bel := below_next bel c
                replace mp := (c.block _ (Array.getElem?_eq_some_iff.1 mp).1).trans mp
                replace rd := rd.below c
                replace fm := fm.below c
                replace mx := (c.block _ (Array.getElem?_eq_some_iff.1 mx).1).trans mx
                clear c
                have Hbel := Lib.hid bel
                have Hmp := Lib.hid mp
                have Hrd := Lib.hid rd
                have Hfm := Lib.hid fm
                have Hmx := Lib.hid mx
                clear bel mp rd fm mx
                go_wp2_with fail
                have bel := Hbel.out
                have mp := Hmp.out
                have rd := Hrd.out
                have fm := Hfm.out
                have mx := Hmx.out
                clear Hbel Hmp Hrd Hfm Hmx
                go_ret
                exact ⟨rfl, bel⟩
              · skip
                obtain rfl : r = 0 := by rw [← Hws.out]; simp
                have q_mp_0 := cell_of_heap (i := 0) mp
                have q_mp_1 := cell_of_heap (i := 1) mp
                have q_mp_2 := cell_of_heap (i := 2) mp
                have q_mp_3 := cell_of_heap (i := 3) mp
                have q_mp_4 := cell_of_heap (i := 4) mp
                have q_mp_5 := cell_of_heap (i := 5) mp
                have q_mp_6 := cell_of_heap (i := 6) mp
                have q_mp_7 := cell_of_heap (i := 7) mp
                have q_mp_8 := cell_of_heap (i := 8) mp
                have q_mp_9 := cell_of_heap (i := 9) mp
                have q_mx_1 := cell_of_heap (i := 1) mx
                have q_mx_2 := cell_of_heap (i := 2) mx
                have Hbel := Lib.hid bel
                have Hmp := Lib.hid mp
                have Hrd := Lib.hid rd
                have Hfm := Lib.hid fm
                have Hmx := Lib.hid mx
                clear bel mp rd fm mx
                go_wp2_with fail
                have bel := Hbel.out
                have mp := Hmp.out
                have rd := Hrd.out
                have fm := Hfm.out
                have mx := Hmx.out
                clear Hbel Hmp Hrd Hfm Hmx
                clear q_mp_0 q_mp_1 q_mp_2 q_mp_3 q_mp_4 q_mp_5 q_mp_6 q_mp_7 q_mp_8 q_mp_9 q_mx_1 q_mx_2
                refine (checkP_any xr p _ true _ (ht.below bel (Nat.le_refl _)) (Hp.out.below bel (Nat.le_refl _)) hpo hcb).mono ?_
                rintro e w11 ⟨rfl, c⟩
                replace bel := below_next bel c
                replace mp := (c.block _ (Array.getElem?_eq_some_iff.1 mp).1).trans mp
                replace rd := rd.below c
                replace fm := fm.below c
                replace mx := (c.block _ (Array.getElem?_eq_some_iff.1 mx).1).trans mx
                clear c
                have Hbel := Lib.hid bel
                have Hmp := Lib.hid mp
                have Hrd := Lib.hid rd
                have Hfm := Lib.hid fm
                have Hmx := Lib.hid mx
                clear bel mp rd fm mx
                go_wp2_with fail
                have bel := Hbel.out
                have mp := Hmp.out
                have rd := Hrd.out
                have fm := Hfm.out
                have mx := Hmx.out
                clear Hbel Hmp Hrd Hfm Hmx
                go_ret
                exact ⟨rfl, bel⟩
            · skip
              have hc2 : ¬ p.count = xc := fun e => hc e.symm
              obtain rfl : r = 21 := by rw [← Hws.out, if_neg (fun h => hc h.1)]
              clear hc
              have q_mp_0 := cell_of_heap (i := 0) mp
              have q_mp_1 := cell_of_heap (i := 1) mp
              have q_mp_2 := cell_of_heap (i := 2) mp
              have q_mp_3 := cell_of_heap (i := 3) mp
              have q_mp_4 := cell_of_heap (i := 4) mp
              have q_mp_5 := cell_of_heap (i := 5) mp
              have q_mp_6 := cell_of_heap (i := 6) mp
              have q_mp_7 := cell_of_heap (i := 7) mp
              have q_mp_8 := cell_of_heap (i := 8) mp
              have q_mp_9 := cell_of_heap (i := 9) mp
              have q_mx_1 := cell_of_heap (i := 1) mx
              have q_mx_2 := cell_of_heap (i := 2) mx
              have Hbel := Lib.hid bel
              have Hmp := Lib.hid mp
              have Hrd := Lib.hid rd
              have Hfm := Lib.hid fm
              have Hmx := Lib.hid mx
              clear bel mp rd fm mx
              go_wp2_with fail
              have bel := Hbel.out
              have mp := Hmp.out
              have rd := Hrd.out
              have fm := Hfm.out
              have mx := Hmx.out
              clear Hbel Hmp Hrd Hfm Hmx
              clear q_mp_0 q_mp_1 q_mp_2 q_mp_3 q_mp_4 q_mp_5 q_mp_6 q_mp_7 q_mp_8 q_mp_9 q_mx_1 q_mx_2
              go_ret
              exact ⟨rfl, bel⟩
end Go.Proofs.YteoclpjbeadkpaaGreatDoor
