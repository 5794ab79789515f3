/- The texts RdMap RdWalk RdWas RdAll RdDays SgSigned, merged: walks and plain laws that the statements of layer 44 use. -/
import Derived.Maps.Views
import Derived.Maps.OwnOps
import Derived.Maps.OwnSet
import Derived.Test.YteoclpjbeadkpaaGreatDoorMpF
import Derived.Deep.QuietTactic
import Derived.BigQuiet
import Derived.Test.YteoclpjbeadkpaaGreatDoorMpD
import Derived.RangeFuncMany
import Derived.RangeFuncLeaves
import Derived.Sort.MapsRangeIn
import Derived.WalkKit
import Derived.OwnWalkIn
import Derived.TacticsInMore
import Derived.RegionIn
import Derived.LoopNIn
import Derived.LoopIn
import Derived.Sort.OwnSortedInts
set_option linter.unusedSimpArgs false
set_option linter.unusedVariables false
/- The map of a reader's days (proof.Reader), and the reader in memory. -/
namespace Go.Proofs.YteoclpjbeadkpaaGreatDoor.Pf
/-- What a reader knows: for each day, its count and root; the days are different. -/
abbrev Rd := List (Int × Int × List UInt8)
def findL (es : Rd) (day : Int) : Option (Int × List UInt8) := (es.find? (fun e => e.1 == day)).map (·.2)
/-- What proof.Learn answers, and what the reader knows then. -/
def learnL (pub : List UInt8) (es : Rd) (day cnt : Int) (root : List UInt8) (sig : List (List UInt8)) : Rd × Int :=
  if day < 0 ∨ 1000000 < day ∨ cnt < 0 ∨ 2000 < cnt ∨ Dg.isL root = false then (es, 1)
  else if Se.verL pub (Pf.msgL day cnt root) sig = false then (es, 19)
  else match findL es day with
    | some (c, r) => if c = cnt ∧ r = root then (es, 0) else (es, 23)
    | none => (es ++ [(day, cnt, root)], 0)
def wasL (es : Rd) (day : Int) (p : Pr) : Int :=
  match findL es day with
  | none => 11
  | some (c, r) => if c = p.count ∧ checkL r p = true then 0 else 21
def daysL (es : Rd) : List Int := (es.map (·.1)).mergeSort (fun x y => decide (x ≤ y))
theorem findL_append (es : Rd) (day cnt : Int) (root : List UInt8) (d : Int) : findL (es ++ [(day, cnt, root)]) d = (findL es d).or (if day = d then some (cnt, root) else none) := by
  unfold findL
  rw [List.find?_append]
  cases h : es.find? (fun e => e.1 == d) with
  | some x => simp
  | none => by_cases e : day = d <;> simp [e]
theorem findL_mem (es : Rd) (d : Int) : (findL es d).isSome = true ↔ d ∈ es.map (·.1) := by
  unfold findL
  rw [Option.isSome_map, List.find?_isSome, List.mem_map]
  constructor
  · rintro ⟨x, hx, he⟩; exact ⟨x, hx, by simpa using he⟩
  · rintro ⟨x, hx, rfl⟩; exact ⟨x, hx, by simp⟩
theorem learnL_nodup (pub : List UInt8) (es : Rd) (day cnt : Int) (root : List UInt8) (sig : List (List UInt8)) (h : (es.map (·.1)).Nodup) : ((learnL pub es day cnt root sig).1.map (·.1)).Nodup := by
  unfold learnL
  split
  · exact h
  · split
    · exact h
    · cases hf : findL es day with
      | some x => obtain ⟨c, r⟩ := x; simp only; split <;> exact h
      | none =>
        simp only [List.map_append, List.map_cons, List.map_nil]
        refine List.nodup_append.mpr ⟨h, by simp, ?_⟩
        intro a ha b hb e
        simp at hb
        subst hb; subst e
        have := (findL_mem es a).2 ha
        rw [hf] at this
        cases this
theorem learnL_le (pub : List UInt8) (es : Rd) (day cnt : Int) (root : List UInt8) (sig : List (List UInt8)) : (learnL pub es day cnt root sig).1.length ≤ es.length + 1 := by
  unfold learnL
  split
  · simp
  · split
    · simp
    · cases hf : findL es day with
      | some x => obtain ⟨c, r⟩ := x; simp only; split <;> simp
      | none => simp
end Go.Proofs.YteoclpjbeadkpaaGreatDoor.Pf
namespace Go.Proofs.YteoclpjbeadkpaaGreatDoor
open Go.RowKit Go.Shelf Go.Maps

/-- An element is told by the element itself. -/
def heldR (v : Value) : Option (DataW Value × List MemPlace) := some (.held v, [])
def lrV (x : Int × List UInt8) : Value := .agg #[.int .i64 x.1, .string ⟨x.2.toArray⟩]
/-- Block m is a map that knows what es says. -/
def MapAt (w : World) (m n : Nat) (es : Pf.Rd) : Prop := ∃ D : DataW Value, w.ownsMap Tryz.prog 3 heldR m n D ∧ ∀ d : Int, has D (.int .i64 d) = (Pf.findL es d).isSome ∧ ∀ zd, D.atKey (.int .i64 d) zd = match Pf.findL es d with | some x => .held (lrV x) | none => zd
theorem mapAt_new (w : World) : MapAt (w.alloc (.map #[] 0)) w.heap.size 0 [] := ⟨_, World.ownsMap_made w _ _ _, fun d => ⟨rfl, fun zd => rfl⟩⟩
theorem MapAt.kept {w w' : World} {row : Option Nat} {m n : Nat} {es : Pf.Rd} (h : MapAt w m n es) (hg : w.grownBy w' row) (hne : some m ≠ row) : MapAt w' m n es := by
  obtain ⟨D, h1, h2⟩ := h
  exact ⟨D, World.ownsMap.kept h1 hg hne, h2⟩
theorem MapAt.lt {w : World} {m n : Nat} {es : Pf.Rd} (h : MapAt w m n es) : m < w.heap.size := by
  obtain ⟨D, h1, h2⟩ := h
  exact h1.lt
theorem key_int (d : Int) (h0 : -9223372036854775808 ≤ d) (h1 : d ≤ 9223372036854775807) : keyOf Tryz.prog 3 (.int .i64 d) = some (.int .i64 d) := keyOf_int_mk Tryz.underlying3 (by simp [Lit.wf]; exact ⟨h0, h1⟩)
theorem days_look {w : World} {m n : Nat} {es : Pf.Rd} (h : MapAt w m n es) (d : Int) (h0 : -9223372036854775808 ≤ d) (h1 : d ≤ 9223372036854775807) :
    (Instr.lookup 86 (.map (some m)) (.int .i64 d) true).run Tryz.prog w = .ok (.tuple #[lrV ((Pf.findL es d).getD (0, [])), .bool (Pf.findL es d).isSome]) w := by
  obtain ⟨D, ho, hD⟩ := h
  obtain ⟨v, ps, hrun, hv⟩ := World.ownsMap.look_ok ho (int_keyed Tryz.underlying3) Tryz.underlying86 (Tryz.zeroValue94 w) (zd := .held (lrV (0, []))) (zp := []) rfl (key_int d h0 h1)
  obtain ⟨e1, e2⟩ := hD d
  rw [e1] at hrun
  rw [e2] at hv
  unfold heldR at hv
  cases hf : Pf.findL es d with
  | some x =>
    rw [hf] at hv hrun
    simp only [Option.some.injEq, Prod.mk.injEq, DataW.held.injEq] at hv
    rw [hrun, hv.1]; rfl
  | none =>
    rw [hf] at hv hrun
    simp only [Option.some.injEq, Prod.mk.injEq, DataW.held.injEq] at hv
    rw [hrun, hv.1]; rfl
theorem days_put {w : World} {m n : Nat} {es : Pf.Rd} (h : MapAt w m n es) (day cnt : Int) (root : List UInt8) (h0 : -9223372036854775808 ≤ day) (h1 : day ≤ 9223372036854775807) (hn : n < maxLen) (hs : Pf.findL es day = none ∨ Pf.findL es day = some (cnt, root)) :
    ∃ w', (Instr.mapUpdate 86 (.map (some m)) (.int .i64 day) (lrV (cnt, root))).run Tryz.prog w = .ok () w' ∧ MapAt w' m (n + 1) (if (Pf.findL es day).isSome then es else es ++ [(day, cnt, root)]) ∧ w.grownBy w' (some m) := by
  obtain ⟨D, ho, hD⟩ := h
  obtain ⟨w', hrun, h2, h3⟩ := World.ownsMap.update ho (int_keyed Tryz.underlying3) Tryz.underlying86 hn (key_int day h0 h1) (val := lrV (cnt, root)) (d := .held (lrV (cnt, root))) (ps := []) rfl
  refine ⟨w', hrun, ⟨_, h2, ?_⟩, h3⟩
  intro d
  by_cases e : d = day
  · subst e
    have hf : Pf.findL (if (Pf.findL es d).isSome then es else es ++ [(d, cnt, root)]) d = some (cnt, root) := by
      rcases hs with hs | hs
      · rw [hs]; simp only [Option.isSome_none, Bool.false_eq_true, if_false]; rw [Pf.findL_append, hs]; simp
      · rw [hs]; simpa using hs
    rw [hf]
    exact ⟨has_put_same ho.isMap (by trivial) _, fun zd => atKey_put_same ho.isMap (by trivial) _ _⟩
  · have hf : Pf.findL (if (Pf.findL es day).isSome then es else es ++ [(day, cnt, root)]) d = Pf.findL es d := by
      split
      · rfl
      · rw [Pf.findL_append, if_neg (fun h => e h.symm)]; simp
    rw [hf]
    have hne : (Lit.int .i64 d) ≠ (Lit.int .i64 day) := fun h => e (by injection h)
    exact ⟨(has_put_other hne _).trans (hD d).1, fun zd => (atKey_put_other hne _ _).trans ((hD d).2 zd)⟩

/-- A reader in memory. -/
def ReaderAt (w : World) (rb m n : Nat) (key : List UInt8) (es : Pf.Rd) : Prop :=
  w.heap[rb]? = some (.cells #[.string ⟨key.toArray⟩, .map (some m)] 88 (0, 0)) ∧ MapAt w m n es ∧ (es.map (·.1)).Nodup ∧ m < rb
theorem ReaderAt.kept {w w' : World} {row : Option Nat} {rb m n : Nat} {key : List UInt8} {es : Pf.Rd} (h : ReaderAt w rb m n key es) (hg : w.grownBy w' row) (hne : some m ≠ row) (hne2 : some rb ≠ row) : ReaderAt w' rb m n key es :=
  ⟨(hg.block rb (Array.getElem?_eq_some_iff.1 h.1).1 hne2).trans h.1, h.2.1.kept hg hne, h.2.2⟩
theorem ReaderAt.below {w w' : World} {rb m n : Nat} {key : List UInt8} {es : Pf.Rd} (h : ReaderAt w rb m n key es) (hb : Below w.heap.size w w') : ReaderAt w' rb m n key es := h.kept (grown_none hb) (by simp) (by simp)
theorem grown_below {w w' : World} {m n₀ : Nat} (hg : w.grownBy w' (some m)) (hm : n₀ ≤ m) (hs : n₀ ≤ w.heap.size) : Below n₀ w w' := (Below.refl n₀ w).grown hg hs (fun k e => by cases e; exact hm)
end Go.Proofs.YteoclpjbeadkpaaGreatDoor
/- WALK: proof.New, proof.Learn. -/
namespace Go.Proofs.YteoclpjbeadkpaaGreatDoor
open Go.RowKit Go.Shelf Go.Maps

/-- A seal in memory, as seal.Sign returns it at height 0. -/
def SealAt (w : World) (sv : Value) (sig : List (List UInt8)) : Prop := ∃ a c pa pc, sv = .agg #[.int .i64 0, .slice a 18 c, .slice pa 0 pc] ∧ HasStrsC w (.slice a 18 c) sig
def SigOk (sig : List (List UInt8)) : Prop := sig.length = 18 ∧ sig.all Dg.isL = true ∧ Mod sig
theorem SealAt.below {w w' : World} {sv : Value} {sig : List (List UInt8)} (h : SealAt w sv sig) {B : Nat} (hb : Below B w w') (hB : w.heap.size ≤ B) : SealAt w' sv sig := by
  obtain ⟨a, c, pa, pc, e, hs⟩ := h
  exact ⟨a, c, pa, pc, e, hs.below hb hB⟩
theorem MapAt.mono {w : World} {m n n' : Nat} {es : Pf.Rd} (h : MapAt w m n es) (hn : n ≤ n') : MapAt w m n' es := by
  obtain ⟨D, h1, h2⟩ := h
  exact ⟨D, h1.mono hn, h2⟩
theorem ReaderAt.mono {w : World} {rb m n n' : Nat} {key : List UInt8} {es : Pf.Rd} (h : ReaderAt w rb m n key es) (hn : n ≤ n') : ReaderAt w rb m n' key es := ⟨h.1, h.2.1.mono hn, h.2.2⟩

set_option maxRecDepth 100000 in
theorem newR_any (key : List UInt8) (w : World) :
    Calls Tryz.prog 22 #[.string ⟨key.toArray⟩] w fun e w' => e = .returned (.pointer (some ⟨w.heap.size + 1, 0, none⟩)) ∧ ReaderAt w' (w.heap.size + 1) w.heap.size 0 key [] ∧ Below w.heap.size w w' := by
  have hmm := @run_makeMap Tryz.prog
  go_enter Tryz.func22, Tryz.ntmps22
  go_wp2_with fail
  go_ret
  refine ⟨by simp, ⟨?_, ?_, by simp, by omega⟩, ((Below.refl _ w).alloc (Nat.le_refl _) _).alloc (by simp) _⟩
  · have e := heap_alloc_at (w.alloc (.map #[] 0)) (.cells #[.string ⟨key.toArray⟩, .map (some w.heap.size)] 88)
    rw [World.size_alloc] at e
    exact e
  · exact (mapAt_new w).kept (World.grownBy_alloc _ _ Option.none) (by simp)

abbrev LnS (w : World) (rb m n : Nat) (key : List UInt8) (es : Pf.Rd) (a : Option Addr) (c : Nat) (pa : Option Addr) (pc : Nat) (Y : World) : Prop := Y.cell? ⟨rb, 0, none⟩ = some (.string ⟨key.toArray⟩) ∧ Y.cell? ⟨w.heap.size, 0, none⟩ = some (.int .i64 0) ∧ Y.cell? ⟨w.heap.size, 1, none⟩ = some (.slice a 18 c) ∧ Y.cell? ⟨w.heap.size, 2, none⟩ = some (.slice pa 0 pc) ∧ Below w.heap.size w Y ∧ w.heap.size < Y.heap.size ∧ rb < w.heap.size
theorem LnS.next {w : World} {rb m n : Nat} {key : List UInt8} {es : Pf.Rd} {a : Option Addr} {c : Nat} {pa : Option Addr} {pc : Nat} {X Y : World} (h : LnS w rb m n key es a c pa pc X) (b : Below X.heap.size X Y) : LnS w rb m n key es a c pa pc Y := by
  obtain ⟨h0, h1, h2, h3, h4, h5, h6⟩ := h
  exact ⟨(b.cell (p := ⟨rb, 0, none⟩) (by show rb < _; omega)).trans h0, (b.cell (p := ⟨w.heap.size, 0, none⟩) h5).trans h1, (b.cell (p := ⟨w.heap.size, 1, none⟩) h5).trans h2, (b.cell (p := ⟨w.heap.size, 2, none⟩) h5).trans h3, below_next h4 b, Nat.lt_of_lt_of_le h5 b.size, h6⟩

theorem grown_none' {w w' : World} (h : Below w.heap.size w w') : w.grownBy w' none := ⟨h.os, h.tape, h.output, h.size, fun k hk _ => h.block k hk⟩
theorem gtrans {w w' w'' : World} {row : Option Nat} (h : w.grownBy w' none) (h' : w'.grownBy w'' row) : w.grownBy w'' row :=
  ⟨h'.os.trans h.os, h'.tape.trans h.tape, h'.output.trans h.output, Nat.le_trans h.size h'.size, fun k hk hr => (h'.block k (Nat.lt_of_lt_of_le hk h.size) hr).trans (h.block k hk (by simp))⟩
set_option maxHeartbeats 8000000 in
set_option maxRecDepth 100000 in
theorem learn_any (key root : List UInt8) (day cnt : Int) (sig : List (List UInt8)) (sv : Value) (rb m n : Nat) (es : Pf.Rd) (w : World) (ht : Tab w) (hr : ReaderAt w rb m n key es) (hs : SealAt w sv sig) (hok : SigOk sig)
    (hd0 : -9223372036854775808 ≤ day) (hd1 : day ≤ 9223372036854775807) (hc0 : -9223372036854775808 ≤ cnt) (hc1 : cnt ≤ 9223372036854775807) (hrl : root.length ≤ 35184372088832) (hn : n < 1000000)
    (r : Pf.Rd × Int) (hres : Hid (Pf.learnL key es day cnt root sig = r)) :
    Calls Tryz.prog 24 #[.pointer (some ⟨rb, 0, none⟩), .int .i64 day, .int .i64 cnt, .string ⟨root.toArray⟩, sv] w fun e w' => e = .returned (.int .i64 r.2) ∧ ReaderAt w' rb m (n + 1) key r.1 ∧ w.grownBy w' (some m) := by
  obtain ⟨a, c, pa, pc, rfl, hsc⟩ := hs
  have hE : Hid (Below w.heap.size w (w.alloc (.cells #[.int .i64 0, .slice a 18 c, .slice pa 0 pc] 42))) := (Below.refl _ w).alloc (Nat.le_refl _) _
  have fin : Hid (∀ (Z : World), r.1 = es → Below w.heap.size w Z → ReaderAt Z rb m (n + 1) key r.1 ∧ w.grownBy Z (some m)) := fun Z e hb => ⟨by rw [e]; exact (hr.below hb).mono (by omega), ⟨hb.os, hb.tape, hb.output, hb.size, fun j hj _ => hb.block j hj⟩⟩
  by_cases g1 : day < 0
  · have hv : Hid (r = (es, 1)) := by unfold Hid; rw [← hres.out]; unfold Pf.learnL; rw [if_pos (.inl g1)]
    clear hres hr hsc
    go_enter Tryz.func24, Tryz.ntmps24
    go_wp2_with fail
    go_ret
    exact ⟨by rw [hv.out]; rfl, fin.out _ (by rw [hv.out]) hE.out⟩
  by_cases g2 : 1000000 < day
  · have hv : Hid (r = (es, 1)) := by unfold Hid; rw [← hres.out]; unfold Pf.learnL; rw [if_pos (.inr (.inl g2))]
    clear hres hr hsc
    go_enter Tryz.func24, Tryz.ntmps24
    go_wp2_with fail
    go_ret
    exact ⟨by rw [hv.out]; rfl, fin.out _ (by rw [hv.out]) hE.out⟩
  by_cases g3 : cnt < 0
  · have hv : Hid (r = (es, 1)) := by unfold Hid; rw [← hres.out]; unfold Pf.learnL; rw [if_pos (.inr (.inr (.inl g3)))]
    clear hres hr hsc
    go_enter Tryz.func24, Tryz.ntmps24
    go_wp2_with fail
    go_ret
    exact ⟨by rw [hv.out]; rfl, fin.out _ (by rw [hv.out]) hE.out⟩
  by_cases g4 : 2000 < cnt
  · have hv : Hid (r = (es, 1)) := by unfold Hid; rw [← hres.out]; unfold Pf.learnL; rw [if_pos (.inr (.inr (.inr (.inl g4))))]
    clear hres hr hsc
    go_enter Tryz.func24, Tryz.ntmps24
    go_wp2_with fail
    go_ret
    exact ⟨by rw [hv.out]; rfl, fin.out _ (by rw [hv.out]) hE.out⟩
  obtain ⟨ib, hib⟩ : ∃ ib, Hid (Dg.isL root = ib) := ⟨_, rfl⟩
  have CI : Hid (∀ A, Calls Tryz.prog 58 #[.string ⟨root.toArray⟩] A fun e w' => e = .returned (.bool ib) ∧ Below A.heap.size A w') := fun A => by rw [← hib.out]; exact is_any root A (Nat.le_trans hrl (by decide))
  cases ib
  · have hv : Hid (r = (es, 1)) := by unfold Hid; rw [← hres.out]; unfold Pf.learnL; rw [if_pos (.inr (.inr (.inr (.inr hib.out))))]
    clear hres hr hsc
    go_enter Tryz.func24, Tryz.ntmps24
    go_wp2_with fail
    refine (CI.out _).mono ?_
    rintro e w1 ⟨rfl, c1⟩
    have b1 := Lib.hid (below_next hE.out c1)
    clear c1
    go_wp2_with fail
    go_ret
    exact ⟨by rw [hv.out]; rfl, fin.out _ (by rw [hv.out]) b1.out⟩
  obtain ⟨vb, hvb⟩ : ∃ vb, Hid (Se.verL key (Pf.msgL day cnt root) sig = vb) := ⟨_, rfl⟩
  have hbad : ¬ (day < 0 ∨ 1000000 < day ∨ cnt < 0 ∨ 2000 < cnt ∨ Dg.isL root = false) := by
    rw [hib.out]; simp; omega
  have HR := hres.out
  unfold Pf.learnL at HR
  rw [if_neg hbad, hvb.out] at HR
  have HRES := Lib.hid HR
  have HLL := Lib.hid (hres.out)
  obtain ⟨x, hx⟩ : ∃ x, Hid (Pf.msgL day cnt root = x) := ⟨_, rfl⟩
  have hxl : x.length ≤ 35184372088832 := by rw [← hx.out]; unfold Pf.msgL Dg.listL; rw [Dg.sumL_length]; decide
  rw [hx.out] at hvb
  have CM : Hid (∀ A, Below w.heap.size w A → Calls Tryz.prog 19 #[.int .i64 day, .int .i64 cnt, .string ⟨root.toArray⟩] A fun e w' => e = .returned (.string ⟨x.toArray⟩) ∧ Below A.heap.size A w') := fun A hA => message_any day cnt root x A (ht.below hA (Nat.le_refl _)) hd0 hd1 hc0 hc1 hrl hx
  have CV : Hid (∀ A, Below w.heap.size w A → Calls Tryz.prog 38 #[.string ⟨key.toArray⟩, .string ⟨x.toArray⟩, .agg #[.int .i64 0, .slice a 18 c, .slice pa 0 pc]] A fun e w' => e = .returned (.bool vb) ∧ Below A.heap.size A w') := fun A hA => by rw [← hvb.out]; exact verify_any key x sig a c pa pc A (ht.below hA (Nat.le_refl _)) (hsc.below hA (Nat.le_refl _)) hok.1 hok.2.1 hok.2.2 hxl
  have HS0 : Hid (∀ Y, Below (w.heap.size + 1) (w.alloc (.cells #[.int .i64 0, .slice a 18 c, .slice pa 0 pc] 42)) Y → LnS w rb m n key es a c pa pc Y) := by
    intro Y hY
    have e := heap_alloc_at w (.cells #[.int .i64 0, .slice a 18 c, .slice pa 0 pc] 42)
    have hrb : rb < w.heap.size := (Array.getElem?_eq_some_iff.1 hr.1).1
    have S0 : LnS w rb m n key es a c pa pc (w.alloc (.cells #[.int .i64 0, .slice a 18 c, .slice pa 0 pc] 42)) := ⟨cell_of_heap ((heap_alloc_lt w _ rb hrb).trans hr.1), cell_of_heap e, cell_of_heap e, cell_of_heap e, hE.out, by simp, hrb⟩
    exact S0.next (by rw [World.size_alloc]; exact hY)
  have HRd := Lib.hid hr
  clear hres HR hsc hr hbad hxl hok
  go_enter Tryz.func24, Tryz.ntmps24
  go_wp2_with fail
  refine (CI.out _).mono ?_
  rintro e w1 ⟨rfl, c1⟩
  rw [World.size_alloc] at c1
  have hS1 := HS0.out _ c1
  clear c1
  go_wp2_with fail
  have hS2 := LnS.next hS1 (Below.refl _ _).drew
  go_region_held3 (fun Y => Y.cell? ⟨rb, 0, none⟩ = some (.string ⟨key.toArray⟩) ∧ Y.cell? ⟨w.heap.size, 0, none⟩ = some (.int .i64 0) ∧ Y.cell? ⟨w.heap.size, 1, none⟩ = some (.slice a 18 c) ∧ Y.cell? ⟨w.heap.size, 2, none⟩ = some (.slice pa 0 pc) ∧ Below w.heap.size w Y ∧ w.heap.size < Y.heap.size ∧ rb < w.heap.size) (first | exact hS1 | exact hS2 | assumption) (first | (go_at_call 19; (with_reducible refine (CM.out _ (And.left (And.right (And.right (And.right (And.right (by assumption))))))).mono ?_); rintro e w1 ⟨rfl, c1⟩; have hSa := LnS.next (m := m) (n := n) (es := es) (by assumption) c1) | (go_at_call 38; (with_reducible refine (CV.out _ (And.left (And.right (And.right (And.right (And.right (by assumption))))))).mono ?_); rintro e w2 ⟨rfl, c2⟩; have hSb := LnS.next (m := m) (n := n) (es := es) (by assumption) c2))
  obtain ⟨_, _, _, _, hbW, hlW, hrbW⟩ := hSb
  clear hS1 hS2
  cases vb
  · have hv : Hid (r = (es, 19)) := by unfold Hid; rw [← HRES.out, if_pos rfl]
    go_wp2_with fail
    go_ret
    exact ⟨by rw [hv.out]; rfl, fin.out _ (by rw [hv.out]) hbW⟩
  have hR0 := HRd.out.below hbW
  have hR3 := hR0.below ((Below.refl _ w2).alloc (Nat.le_refl _) (.cells #[.int .i64 cnt, .string ⟨root.toArray⟩] 94))
  have mc : (w2.alloc (.cells #[.int .i64 cnt, .string ⟨root.toArray⟩] 94)).cell? ⟨rb, 1, none⟩ = some (.map (some m)) := cell_of_heap hR3.1
  have look := days_look hR3.2.1 day hd0 hd1
  obtain ⟨wx, hwe⟩ : ∃ x, Hid ((Pf.findL es day).getD (0, []) = x) := ⟨_, rfl⟩
  obtain ⟨ok, hoke⟩ : ∃ x, Hid ((Pf.findL es day).isSome = x) := ⟨_, rfl⟩
  rw [hwe.out, hoke.out] at look
  obtain ⟨wc, wr⟩ := wx
  simp only [lrV] at look
  have hR4 := (hR3.below ((Below.refl _ _).alloc (Nat.le_refl _) (.cells #[.int .i64 wc, .string ⟨wr.toArray⟩] 94))).below (Below.refl _ _).drew
  have md : ((w2.alloc (.cells #[.int .i64 cnt, .string ⟨root.toArray⟩] 94)).alloc (.cells #[.int .i64 wc, .string ⟨wr.toArray⟩] 94)).drew.cell? ⟨rb, 1, none⟩ = some (.map (some m)) := cell_of_heap hR4.1
  have hbx : Below w.heap.size w ((w2.alloc (.cells #[.int .i64 cnt, .string ⟨root.toArray⟩] 94)).alloc (.cells #[.int .i64 wc, .string ⟨wr.toArray⟩] 94)) := ((hbW.alloc hbW.size _).alloc (by simp; omega) _)
  have HBX := Lib.hid hbx
  have hb4 : Below w.heap.size w ((w2.alloc (.cells #[.int .i64 cnt, .string ⟨root.toArray⟩] 94)).alloc (.cells #[.int .i64 wc, .string ⟨wr.toArray⟩] 94)).drew := hbx.drew
  clear hbx
  have hA := (heap_alloc_lt (w2.alloc (.cells #[.int .i64 cnt, .string ⟨root.toArray⟩] 94)) (.cells #[.int .i64 wc, .string ⟨wr.toArray⟩] 94) w2.heap.size (by simp)).trans (heap_alloc_at w2 (.cells #[.int .i64 cnt, .string ⟨root.toArray⟩] 94))
  have cA0 : ((w2.alloc (.cells #[.int .i64 cnt, .string ⟨root.toArray⟩] 94)).alloc (.cells #[.int .i64 wc, .string ⟨wr.toArray⟩] 94)).drew.cell? ⟨w2.heap.size, 0, none⟩ = some (.int .i64 cnt) := cell_of_heap hA
  have cA1 : ((w2.alloc (.cells #[.int .i64 cnt, .string ⟨root.toArray⟩] 94)).alloc (.cells #[.int .i64 wc, .string ⟨wr.toArray⟩] 94)).drew.cell? ⟨w2.heap.size, 1, none⟩ = some (.string ⟨root.toArray⟩) := cell_of_heap hA
  have HR0 := Lib.hid hR0
  have HB4 := Lib.hid hb4
  clear hR0 hR3 hb4 hA
  cases ok
  · have hnone : Pf.findL es day = none := by simpa using hoke.out
    obtain ⟨w5, hput, hM5, hg5⟩ := days_put hR4.2.1 day cnt root hd0 hd1 (by unfold maxLen; omega) (.inl hnone)
    rw [hnone] at hM5
    simp only [lrV] at hput
    have HM5 := Lib.hid hM5
    have HG5 := Lib.hid hg5
    have hv : Hid (r = (es ++ [(day, cnt, root)], 0)) := by
      unfold Hid; rw [← HRES.out, if_neg (by decide), hnone]
    have hF : Hid (ReaderAt w5 rb m (n + 1) key r.1 ∧ w.grownBy w5 (some m)) := by
      have hmw : m < w.heap.size := HRd.out.2.1.lt
      have hg := gtrans (grown_none' HB4.out) HG5.out
      refine ⟨⟨(HG5.out.block rb (Array.getElem?_eq_some_iff.1 hR4.1).1 (by have := hR4.2.2.2; intro e; cases e; omega)).trans hR4.1, ?_, ?_, hR4.2.2.2⟩, hg⟩
      · rw [hv.out]; exact HM5.out
      · have hh := Pf.learnL_nodup key es day cnt root sig hR4.2.2.1
        rw [HLL.out] at hh
        exact hh
    clear hM5 hg5 hR4
    go_wp2_with fail
    go_region_with (fail)
    all_goals
      go_wp2_with fail
      go_ret
      exact ⟨by rw [hv.out]; rfl, hF.out⟩
  · obtain ⟨wy, hwy⟩ : ∃ y, Pf.findL es day = some y := Option.isSome_iff_exists.mp hoke.out
    have hwy2 : wy = (wc, wr) := by have := hwe.out; rw [hwy] at this; exact this
    subst hwy2
    by_cases hc : wc = cnt
    · subst hc
      by_cases hrr : wr = root
      · subst hrr
        obtain ⟨w5, hput, hM5, hg5⟩ := days_put hR4.2.1 day wc wr hd0 hd1 (by unfold maxLen; omega) (.inr hwy)
        rw [hwy] at hM5
        simp only [lrV] at hput
        have HM5 := Lib.hid hM5
        have HG5 := Lib.hid hg5
        have hv : Hid (r = (es, 0)) := by
          unfold Hid; rw [← HRES.out, if_neg (by decide), hwy]; simp
        have hF : Hid (ReaderAt w5 rb m (n + 1) key r.1 ∧ w.grownBy w5 (some m)) := by
          refine ⟨⟨(HG5.out.block rb (Array.getElem?_eq_some_iff.1 hR4.1).1 (by have := hR4.2.2.2; intro e; cases e; omega)).trans hR4.1, ?_, ?_, hR4.2.2.2⟩, gtrans (grown_none' HB4.out) HG5.out⟩
          · rw [hv.out]; exact HM5.out
          · rw [hv.out]; exact hR4.2.2.1
        clear hM5 hg5 hR4
        go_wp2_with fail
        go_region_with (fail)
        all_goals
          go_wp2_with fail
          go_ret
          exact ⟨by rw [hv.out]; rfl, hF.out⟩
      · skip
        have hv : Hid (r = (es, 23)) := by
          unfold Hid; rw [← HRES.out, if_neg (by decide), hwy]; simp [hrr]
        clear hR4
        go_wp2_with fail
        go_ret
        exact ⟨by rw [hv.out]; rfl, fin.out _ (by rw [hv.out]) HBX.out⟩
    · skip
      have hv : Hid (r = (es, 23)) := by
        unfold Hid; rw [← HRES.out, if_neg (by decide), hwy]; simp [hc]
      clear hR4
      go_wp2_with fail
      go_ret
      exact ⟨by rw [hv.out]; rfl, fin.out _ (by rw [hv.out]) HBX.out⟩
end Go.Proofs.YteoclpjbeadkpaaGreatDoor
/- WALK: proof.Was. -/
namespace Go.Proofs.YteoclpjbeadkpaaGreatDoor
open Go.RowKit Go.Shelf Go.Maps

set_option maxRecDepth 100000 in
theorem was_nil (day : Int) (p : Pf.Pr) (pv : Value) (w : World) : Calls Tryz.prog 26 #[.pointer none, .int .i64 day, prV p pv] w fun e w' => e = .returned (.int .i64 1) ∧ Below w.heap.size w w' := by
  unfold prV
  go_enter Tryz.func26, Tryz.ntmps26
  go_wp2_with fail
  go_ret
  exact ⟨rfl, (Below.refl _ w).alloc (Nat.le_refl _) _⟩

set_option maxHeartbeats 8000000 in
set_option maxRecDepth 100000 in
theorem was_any (key : List UInt8) (day : Int) (p : Pf.Pr) (pv : Value) (rb m n : Nat) (es : Pf.Rd) (w : World) (ht : Tab w) (hr : ReaderAt w rb m n key es) (hv : HasStrsC w pv p.path) (hok : PrOk p)
    (hd0 : -9223372036854775808 ≤ day) (hd1 : day ≤ 9223372036854775807) (r : Int) (hres : Hid (Pf.wasL es day p = r)) :
    Calls Tryz.prog 26 #[.pointer (some ⟨rb, 0, none⟩), .int .i64 day, prV p pv] w fun e w' => e = .returned (.int .i64 r) ∧ Below w.heap.size w w' := by
  have hrb : rb < w.heap.size := (Array.getElem?_eq_some_iff.1 hr.1).1
  have CK : Hid (∀ (root : List UInt8) (b : Bool) (A : World), Hid (Pf.checkL root p = b) → Below w.heap.size w A → Calls Tryz.prog 17 #[.string ⟨root.toArray⟩, prV p pv] A fun e w' => e = .returned (.bool b) ∧ Below A.heap.size A w') :=
    fun root b A hb hA => checkP_any root p pv b A (ht.below hA (Nat.le_refl _)) (hv.below hA (Nat.le_refl _)) hok hb
  unfold prV at CK ⊢
  obtain ⟨o, ho⟩ : ∃ o, o = Obj.cells #[.int .i64 p.count, .int .i64 p.index, .int .i64 p.item.kind, .string ⟨p.item.id.toArray⟩, .string ⟨p.item.parent.toArray⟩, .string ⟨p.item.number.toArray⟩, .string ⟨p.item.north.toArray⟩, .string ⟨p.item.south.toArray⟩, .bool p.item.gone, pv] 29 := ⟨_, rfl⟩
  have hR1 := hr.below ((Below.refl _ w).alloc (Nat.le_refl _) o)
  have b1 := (Below.refl _ w).alloc (Nat.le_refl _) o
  have mc : (w.alloc o).cell? ⟨rb, 1, none⟩ = some (.map (some m)) := cell_of_heap hR1.1
  have look := days_look hR1.2.1 day hd0 hd1
  obtain ⟨wx, hwe⟩ : ∃ x, Hid ((Pf.findL es day).getD (0, []) = x) := ⟨_, rfl⟩
  obtain ⟨ok, hoke⟩ : ∃ x, Hid ((Pf.findL es day).isSome = x) := ⟨_, rfl⟩
  rw [hwe.out, hoke.out] at look
  obtain ⟨wc, wr⟩ := wx
  simp only [lrV] at look
  have hb2 : Hid (Below w.heap.size w ((w.alloc o).alloc (.cells #[.int .i64 wc, .string ⟨wr.toArray⟩] 94))) := b1.alloc (by simp) _
  have h1 := (heap_alloc_lt (w.alloc o) (.cells #[.int .i64 wc, .string ⟨wr.toArray⟩] 94) w.heap.size (by simp)).trans (heap_alloc_at w o)
  rw [ho] at h1 mc look hb2
  have c0 := cell_of_heap (i := 0) h1; have c1 := cell_of_heap (i := 1) h1; have c2 := cell_of_heap (i := 2) h1; have c3 := cell_of_heap (i := 3) h1; have c4 := cell_of_heap (i := 4) h1; have c5 := cell_of_heap (i := 5) h1; have c6 := cell_of_heap (i := 6) h1; have c7 := cell_of_heap (i := 7) h1; have c8 := cell_of_heap (i := 8) h1; have c9 := cell_of_heap (i := 9) h1
  clear h1 hR1 b1 hr hv
  cases ok
  · have hnone : Pf.findL es day = none := by simpa using hoke.out
    have hv : Hid (r = 11) := by unfold Hid; rw [← hres.out]; unfold Pf.wasL; rw [hnone]
    go_enter Tryz.func26, Tryz.ntmps26
    go_wp2_with fail
    go_ret
    exact ⟨by rw [hv.out]; rfl, hb2.out⟩
  · obtain ⟨wy, hwy⟩ : ∃ y, Pf.findL es day = some y := Option.isSome_iff_exists.mp hoke.out
    have hwy2 : wy = (wc, wr) := by have := hwe.out; rw [hwy] at this; exact this
    subst hwy2
    have hq := hres.out
    unfold Pf.wasL at hq
    rw [hwy] at hq
    simp only at hq
    have HQ := Lib.hid hq
    clear hq hres hwe hoke hwy
    by_cases hc : wc = p.count
    · subst hc
      obtain ⟨b, hb⟩ : ∃ b, Hid (Pf.checkL wr p = b) := ⟨_, rfl⟩
      have HQ2 : Hid ((if b = true then (0 : Int) else 21) = r) := by unfold Hid; rw [← HQ.out, hb.out]; simp
      go_enter Tryz.func26, Tryz.ntmps26
      go_wp2_with fail
      refine (CK.out wr b _ hb hb2.out).mono ?_
      rintro e w3 ⟨rfl, c3⟩
      have b3 := Lib.hid (below_next hb2.out c3)
      clear c3
      cases b
      · go_wp2_with fail
        go_ret
        exact ⟨by rw [← HQ2.out]; rfl, b3.out⟩
      · go_wp2_with fail
        go_ret
        exact ⟨by rw [← HQ2.out]; rfl, b3.out⟩
    · have hv : Hid (r = 21) := by unfold Hid; rw [← HQ.out]; simp [hc]
      go_enter Tryz.func26, Tryz.ntmps26
      go_wp2_with fail
      go_ret
      exact ⟨by rw [hv.out]; rfl, hb2.out⟩
end Go.Proofs.YteoclpjbeadkpaaGreatDoor
/- WALK: the iterator over a reader's days (proof.all). -/
namespace Go.Proofs.YteoclpjbeadkpaaGreatDoor
open Go.RowKit Go.Shelf Go.Maps

theorem keyOf_int_any {P : Program} {k : TypeId} (hk : P.underlying k = some (.int .i64)) {key : Value} {kl : Lit} (h : keyOf P k key = some kl) : ∃ x : Int, key = .int .i64 x ∧ kl = .int .i64 x := by
  cases key <;> simp [keyOf, hk, mapKey] at h
  rename_i q x
  obtain ⟨⟨rfl, h2⟩, rfl⟩ := h
  exact ⟨x, rfl, rfl⟩

/-- The days that have come: no day twice; a day has come just where the map has it and it is no longer to come. -/
def ColI (D0 : DataW Value) (left : Lit → Bool) (xs : List Int) : Prop := xs.Nodup ∧ ∀ x, x ∈ xs ↔ (has D0 (.int .i64 x) = true ∧ left (.int .i64 x) = false)
theorem ColI.start (D0 : DataW Value) : ColI D0 (has D0) [] := ⟨List.nodup_nil, fun x => by cases has D0 (.int .i64 x) <;> simp⟩
theorem ColI.step {D0 : DataW Value} {left : Lit → Bool} {xs : List Int} (h : ColI D0 left xs) {x : Int} {y : DataW Value} (hlk : left (.int .i64 x) = true) (hat : ∀ zd, D0.atKey (.int .i64 x) zd = y) : ColI D0 (fun z => left z && !z.sameKey (.int .i64 x)) (xs ++ [x]) := by
  have hhas : has D0 (.int .i64 x) = true := has_true_of_atKey hat
  have hx : x ∉ xs := fun hx => by have := ((h.2 x).1 hx).2; rw [hlk] at this; cases this
  refine ⟨List.nodup_append.mpr ⟨h.1, by simp, fun a ha b hb e => ?_⟩, fun z => ?_⟩
  · simp at hb; subst hb; subst e; exact hx ha
  · rw [List.mem_append, h.2 z]
    by_cases e : z = x
    · subst e; simp [hhas, Lit.sameKey]
    · have : (Lit.int .i64 z).sameKey (.int .i64 x) = false := sameKey_ne (fun h => e (by injection h))
      simp [this, e]

attribute [local go_sem] Oper.semAt_some

/-- All the days. -/
def AllDays (es : Pf.Rd) (xs : List Int) : Prop := xs.Nodup ∧ ∀ x, x ∈ xs ↔ x ∈ es.map (·.1)

set_option maxRecDepth 100000 in
set_option maxHeartbeats 2000000 in
theorem all1_in (n : Nat) (hn : 1 ≤ n) (l Bs rb m nn : Nat) (key : List UInt8) (es : Pf.Rd) (J Jx : List Int → World → Prop)
    (hY : ∀ pre x W, J pre W → pre.length < nn → YieldAt Fence.wide (n - 1) Tryz.prog l #[.int .i64 x] W fun e W' =>
      (e = .returned (.bool true) ∧ J (pre ++ [x]) W' ∧ KeepsWalks W W') ∨ (e = .returned (.bool false) ∧ Jx (pre ++ [x]) W'))
    (W : World) (hJ : AbidesFrom W.heap.size J) (hBs : W.cell? ⟨Bs, 0, none⟩ = some (.pointer (some ⟨rb, 0, none⟩))) (hr : ReaderAt W rb m nn key es) (h0 : J [] W) :
    CallsIn Fence.wide n Tryz.prog 107 #[.func (.yield l) #[] #[], .pointer (some ⟨Bs, 0, none⟩)] W fun e W' => (∃ v, e = .returned v) ∧
      ((∃ xs, (AllDays es xs ∧ xs.length ≤ nn) ∧ J xs W') ∨ (∃ pre, True ∧ Jx pre W')) := by
  have hmc : W.cell? ⟨rb, 1, none⟩ = some (.map (some m)) := cell_of_heap hr.1
  obtain ⟨D0, hown, hD⟩ := hr.2.1
  have hsz := hown.size_le
  clear hr
  refine callsIn_of_wp Tryz.func107 rfl trivial ?_ rfl
  simp only [Tryz.ntmps107, List.size_toArray, List.length_cons, List.length_nil, Nat.reduceAdd, Nat.reduceSub, Array.replicate_succ, Array.replicate_zero, List.push_toArray, List.append_toArray, List.nil_append, List.cons_append]
  gi_wp2_with (first
    | (gi_at_range; refine wpListIn_range_own _ rfl _ 86 rfl 3 94 (int_keyed Tryz.underlying3) Tryz.underlying86 _ m nn _ rfl hown ?_; intro w0 hrg0 hg0 hs0)
    | gi_in)
  go_frame
  gi_loopw [3] (fun _ wr => ∃ (left : Lit → Bool) (cnt : Nat) (ps : List Int), wr.ranges Tryz.prog 3 heldR m W.heap.size nn D0 left cnt ∧ ps.length + cnt ≤ Maps.size D0 ∧ ColI D0 left ps ∧ J ps wr)
    (fun _ wr => wr.rangeLeft m W.heap.size)
  case atStart =>
    exact ⟨_, _, [], hrg0, by simp, ColI.start D0, hJ [] W w0 none h0 hg0 (fun r e => by cases e)⟩
  case round =>
    obtain ⟨left, cnt, ps, hrg, hcs, hC, hJs⟩ := hrel
    gi_wp2_with (first
      | (gi_at_next; refine wpListIn_next_ranges _ rfl _ rfl 3 (int_keyed Tryz.underlying3) heldR (Value.int .i64) id (fun key kl hk => by obtain ⟨x, hx, _⟩ := keyOf_int_any Tryz.underlying3 hk; exact ⟨x, hx⟩) (fun v y hv => ⟨v, rfl⟩) m W.heap.size nn _ _ _ rfl hrg ?_ ?_)
      | gi_in)
    · intro hc0 hl0
      gi_wp2
      go_end0
      refine ⟨⟨_, rfl⟩, .inl ⟨ps, ⟨⟨hC.1, fun x => ?_⟩, by omega⟩, hJs⟩⟩
      rw [hC.2 x, hl0, (hD x).1, Pf.findL_mem]
      simp
    · intro x c kl yd yp w2 cnt2 hkey hlk hv hat hrg2 hlt hg2 hs2 hen
      obtain ⟨x', ex, rfl⟩ := keyOf_int_any Tryz.underlying3 hkey
      obtain rfl : x = x' := by injection ex
      have hJ2 : J ps w2 := hJ ps wr w2 (some W.heap.size) hJs hg2 (fun r e => by cases e; exact ⟨Nat.le_refl _, hrg.iter_walk⟩)
      obtain ⟨fn, tmps, assign, body, hy, hR⟩ := hY ps x w2 hJ2 (by omega)
      clear hs2
      gi_wp2
      refine hR.mono ?_
      have hC2 := hC.step hlk hat
      rintro e W3 (⟨rfl, hJ3, hk3⟩ | ⟨rfl, hJx3⟩)
      · gi_wp2
        have hrg3 := hrg2.of_walks hk3
        go_roundw
        case rel => exact ⟨_, cnt2, ps ++ [x], hrg3, by simp; omega, hC2, hJ3⟩
        case measure => rw [hrg3.left_eq, hrg.left_eq]; exact hlt
      · gi_wp2
        refine bodyPost_ret (results_none rfl _ _ _) rfl ?_
        exact ⟨⟨_, rfl⟩, .inr ⟨ps ++ [x], trivial, hJx3⟩⟩

theorem all_stops (n : Nat) (hn : 1 ≤ n) (Bs rb m nn : Nat) (key : List UInt8) (es : Pf.Rd) (w : World) (hBs : Bs < w.heap.size) (hc : w.cell? ⟨Bs, 0, none⟩ = some (.pointer (some ⟨rb, 0, none⟩))) (hr : ReaderAt w rb m nn key es) :
    SeqStopsK Fence.wide n Tryz.prog 107 #[.pointer (some ⟨Bs, 0, none⟩)] (fun x : Int => #[Value.int .i64 x]) KeepsWalks (fun xs => AllDays es xs ∧ xs.length ≤ nn) (fun _ => True) nn w := fun l J Jx W hW hJ _ hY h0 =>
  all1_in n hn l Bs rb m nn key es J Jx hY W hJ ((hW.cell (p := ⟨Bs, 0, none⟩) hBs).trans hc) (hr.below hW) h0

set_option maxRecDepth 100000 in
theorem all_any (rb : Nat) (w : World) : Calls Tryz.prog 61 #[.pointer (some ⟨rb, 0, none⟩)] w fun e w' => e = .returned (.func (.func 107) #[] #[.pointer (some ⟨w.heap.size, 0, none⟩)]) ∧ w' = w.alloc (.cells #[.pointer (some ⟨rb, 0, none⟩)] 47) := by
  go_enter Tryz.func61, Tryz.ntmps61
  go_wp2_with fail
  go_ret
  exact ⟨rfl, rfl⟩
end Go.Proofs.YteoclpjbeadkpaaGreatDoor
/- WALK: proof.Days. -/
namespace Go.Proofs.YteoclpjbeadkpaaGreatDoor
open Go.RowKit Go.Shelf Go.Maps

attribute [local go_sem] Oper.semAt_some

def OwnI (B : Nat) (w : World) (v : Value) (xs : List Int) : Prop := w.ownsRow B 3 1 v xs.length (xs.map (Value.int .i64))
theorem OwnI.nil (B : Nat) (w : World) : OwnI B w (.slice none 0 0) [] := ⟨rfl, Or.inl ⟨rfl, rfl⟩⟩
theorem OwnI.below {B : Nat} {w w' : World} {v : Value} {xs : List Int} (h : OwnI B w v xs) (hb : Below w.heap.size w w') : OwnI B w' v xs := own_below h hb
theorem OwnI.shape {B : Nat} {w : World} {v : Value} {xs : List Int} (h : OwnI B w v xs) : ∃ a c, v = .slice a xs.length c := by
  rcases h.2 with ⟨rfl, h0⟩ | ⟨g, cap, cur, rfl, _⟩
  · exact ⟨_, _, by rw [h0]⟩
  · exact ⟨_, _, rfl⟩
def BoxI (n₀ B : Nat) (W : World) (xs : List Int) : Prop := ∃ v, Boxed W B 54 v ∧ OwnI n₀ W v xs
theorem BoxI.own (n₀ B : Nat) : Own (fun xs W => BoxI n₀ B W xs) := by
  intro s X Y row ⟨v, hv, hr⟩ hg hrow
  obtain ⟨u, h1, h2, _⟩ := holdsRow_own n₀ B 54 3 1 (fun s => s.length) (fun s => s.map (Value.int .i64)) (fun _ _ => True) s X Y row ⟨v, hv, show X.ownsRow n₀ 3 1 v s.length (s.map (Value.int .i64)) from hr, trivial⟩ hg hrow
  exact ⟨u, h1, h2⟩
theorem info_int : (Tryz.prog.info? 3).map (fun i => (i.zero, i.size, i.bytes)) = some (some (.int .i64 0), 1, 8) := by kernel_rfl
theorem walks_of_others {W W' : World} (h : KeepsOthers W W') : KeepsWalks W W' := ⟨h.size, fun k o hk ho => h.same k o hk (Obj.not_cells_of_walk ho)⟩

/-- Permutations sort to one list. -/
theorem days_perm {es : Pf.Rd} (hd : (es.map (·.1)).Nodup) {xs : List Int} (h : AllDays es xs) : xs.mergeSort (fun x y => decide (x ≤ y)) = Pf.daysL es := by
  have hp : xs.Perm (es.map (·.1)) := (List.perm_ext_iff_of_nodup h.1 hd).2 h.2
  have tr : ∀ a b c : Int, decide (a ≤ b) = true → decide (b ≤ c) = true → decide (a ≤ c) = true := fun a b c h1 h2 => by simp only [decide_eq_true_eq] at *; omega
  have to : ∀ a b : Int, (decide (a ≤ b) || decide (b ≤ a)) = true := fun a b => by simp only [Bool.or_eq_true, decide_eq_true_eq]; omega
  unfold Pf.daysL
  refine List.Perm.eq_of_pairwise (le := fun a b => decide (a ≤ b) = true) (fun a b _ _ h1 h2 => ?_) (List.pairwise_mergeSort tr to xs) (List.pairwise_mergeSort tr to _) (((List.mergeSort_perm xs _).trans hp).trans (List.mergeSort_perm _ _).symm)
  simp only [decide_eq_true_eq] at h1 h2
  omega

open Go.Sort in
theorem sortI_any (xs : List Int) (v : Value) (B : Nat) (w : World) (h : OwnI B w v xs) (hl : xs.length ≤ 1000000) (a : Option Addr) (c : Nat) (hv : v = .slice a xs.length c) :
    Calls Tryz.prog 62 #[.slice a xs.length c] w fun e w' => e = .returned (.tuple #[]) ∧ OwnI B w' v (xs.mergeSort fun x y => decide (x ≤ y)) ∧ w.grownBy w' v.ownBlock := by
  subst hv
  by_cases h0 : xs.length = 0
  · obtain rfl : xs = [] := List.length_eq_zero_iff.mp h0
    refine (Tryz.slices_Sort_int_none a c w).mono ?_
    rintro e w' ⟨rfl, rfl⟩
    exact ⟨rfl, by simpa using h, ⟨rfl, rfl, rfl, Nat.le_refl _, fun _ _ _ => rfl⟩⟩
  · rcases h.2 with ⟨e, h1⟩ | ⟨g, cap, cur, e, hB, hg, hnc, hcm, hcur, htake⟩
    · exact absurd h1 h0
    · cases e
      have hH := holds_of_blockI (ss := xs) hg (by rw [Nat.mul_one] at htake; exact htake)
      have hgl : g < w.heap.size := (Array.getElem?_eq_some_iff.1 hg).1
      refine (Tryz.slices_Sort_int g 0 c xs w hH hgl (by omega)).mono ?_
      rintro e w' ⟨rfl, n, os, rfl⟩
      refine ⟨rfl, ?_, grownBy_sortedI _⟩
      have hs := ownsRow_sortedI (w := w) (base := B) (g := g) (cap := c) (n := n) (os := os) (ss := xs) (ts := xs.mergeSort fun x y => decide (x ≤ y)) (List.length_mergeSort _) hB hg hnc hcm hcur
      unfold OwnI
      rw [List.length_mergeSort]
      exact hs

/-- The append to a list of numbers, under a name that the walk does not open. -/
def AppI (args : Array Value) := Builtin.append_ #[54, 54] 54 args
theorem app_runI {n₀ B : Nat} {W : World} {v : Value} {xs : List Int} (y : Int) (hv : Boxed W B 54 v) (hown : OwnI n₀ W v xs) (hn₀ : n₀ ≤ W.heap.size) (hB : n₀ ≤ B) (hn : xs.length ≤ 8796093022206) :
    ∃ g cap w2, (AppI #[v, .slice (some ⟨W.heap.size, 0, none⟩) 1 1]).run Tryz.prog (W.alloc (.cells #[.int .i64 y] 3)) = .ok (.slice (some ⟨g, 0, none⟩) (xs.length + 1) cap) w2 ∧
      w2.cell? ⟨B, 0, none⟩ = some v ∧ w2.frozen? ⟨B, 0, none⟩ = false ∧ BoxI n₀ B (w2.setCell ⟨B, 0, none⟩ (.slice (some ⟨g, 0, none⟩) (xs.length + 1) cap)) (xs ++ [y]) ∧
      KeepsOthers W (w2.setCell ⟨B, 0, none⟩ (.slice (some ⟨g, 0, none⟩) (xs.length + 1) cap)) ∧ Below n₀ W (w2.setCell ⟨B, 0, none⟩ (.slice (some ⟨g, 0, none⟩) (xs.length + 1) cap)) ∧ Below n₀ W w2 := by
  obtain ⟨i0, hi, hz0, hz1, hz2⟩ := info_parts info_int
  obtain ⟨v', w', hrun, hown', hgrow, hnil⟩ := run_append_own (P := Tryz.prog) (W.alloc (.cells #[.int .i64 y] 3)) n₀ 54 54 3 i0 (.int .i64 0) 1 8 Tryz.underlying54 hi hz0 hz1 hz2 rfl (by decide) v xs.length _ (World.ownsRow.alloc hown _) ⟨W.heap.size, 0, none⟩ 1 1 [.int .i64 y] rfl (by
      intro j u hj
      match j, hj with
      | 0, hj => simp at hj; subst hj; simp [Addr.add]) (by intro u hu; simp at hu; subst hu; rfl) (by unfold maxLen; omega) (by omega) (by simp; omega)
  obtain ⟨g, cap, rfl⟩ := ownsRow_succ hown'
  obtain ⟨h1, h2, h3, h4, h5⟩ := hv.appended (by decide) hown hn₀ hB hown' hgrow
  have h6 : Below n₀ W w' := ((Below.refl n₀ W).alloc hn₀ _).grown hgrow (by simp; omega) (fun k e => by
    rcases hown.2 with ⟨rfl, _⟩ | ⟨g0, _, _, rfl, hg0, _⟩
    · cases e
    · cases e; exact hg0)
  refine ⟨g, cap, w', hrun, h1.cell, h1.frozen, ⟨_, h2, ?_⟩, h4, h5, h6⟩
  unfold OwnI
  rw [List.map_append, List.length_append]
  exact h3

theorem wpListIn_appI {F : Fence} {n : Nat} {w w2 : World} {ops : Array Oper} {rest : List Oper} {o : Oper} {a : Act} {Q : Exit → Act → World → Prop} (hg : o.guard = none) {s x : Operand} {v u r : Value}
    (hop : o.op = .call { callee := .builtin .append, args := #[s, x], argTypes := #[54, 54] }) (hty : o.type = 54) (hs : a.eval s = v) (hx : a.eval x = u)
    (hrun : (AppI #[v, u]).run Tryz.prog w = .ok r w2) (hK : wpListIn F n Tryz.prog ops Q rest (a.put o.dst r) w2) : wpListIn F n Tryz.prog ops Q (o :: rest) a w := by
  unfold AppI at hrun
  refine wpListIn_plain hg fun K hK' => ?_
  unfold Oper.wpIn
  refine ⟨?_, ?_⟩
  · simp [Oper.about, hop, resolve, Target.leads, Sem.run_pure]
  · rw [Oper.semAt_plain F _ _ (by rw [hop]; intro c hc'; cases hc')]
    simp [execOp, hop, resolve, invoke, builtin, hs, hx, hty, hrun, Result.andThen]
    exact hK' _ _ hK

set_option maxRecDepth 100000 in
theorem days_nil (w : World) : Calls Tryz.prog 29 #[.pointer none] w fun e w' => e = .returned (.slice none 0 0) ∧ Below w.heap.size w w' := by
  go_enter Tryz.func29, Tryz.ntmps29
  go_wp2_with fail
  go_ret
  exact ⟨rfl, Below.refl _ w⟩

set_option maxHeartbeats 8000000 in
set_option maxRecDepth 100000 in
theorem days_any (key : List UInt8) (rb m n : Nat) (es : Pf.Rd) (w : World) (hr : ReaderAt w rb m n key es) (hn : n ≤ 1000000) :
    Calls Tryz.prog 29 #[.pointer (some ⟨rb, 0, none⟩)] w fun e w' => ∃ v, e = .returned v ∧ OwnI w.heap.size w' v (Pf.daysL es) ∧ Below w.heap.size w w' := by
  refine (callsIn_wide (n := 5)).1 ?_
  refine callsIn_of_wp_marks Tryz.func29 rfl trivial ?_ rfl
  simp only [Tryz.ntmps29, List.size_toArray, List.length_cons, List.length_nil, Nat.reduceAdd, Nat.reduceSub, Array.replicate_succ, Array.replicate_zero, List.push_toArray, List.append_toArray, List.nil_append, List.cons_append]
  refine wpIn_wide.2 ?_
  go_wp2_with (go_at_call 61; refine (all_any rb _).mono ?_; rintro e w' ⟨rfl, rfl⟩)
  obtain ⟨X, hX⟩ : ∃ X, (w.alloc (.cells #[.slice none 0 0] 54)).alloc (.cells #[.pointer (some ⟨rb, 0, none⟩)] 47) = X := ⟨_, rfl⟩
  have hBX : BoxI w.heap.size w.heap.size X [] := by
    rw [← hX]
    exact ⟨_, (Boxed.new w _ _).alloc _, OwnI.nil _ _⟩
  have hXs : X.heap.size = w.heap.size + 1 + 1 := by rw [← hX]; simp
  have hcB : X.cell? ⟨w.heap.size + 1, 0, none⟩ = some (.pointer (some ⟨rb, 0, none⟩)) := by
    rw [← hX]
    have e := heap_alloc_at (w.alloc (.cells #[.slice none 0 0] 54)) (.cells #[.pointer (some ⟨rb, 0, none⟩)] 47)
    rw [World.size_alloc] at e
    exact cell_of_heap e
  have hXb : Below w.heap.size w X := by rw [← hX]; exact ((Below.refl _ w).alloc (Nat.le_refl _) _).alloc (by simp) _
  have hrX : ReaderAt X rb m n key es := hr.below hXb
  rw [hX]
  clear hX
  refine (wpIn_wide (n := 5)).1 ?_
  refine wpIn_rangeFunc_ownG (α := Int) rfl (by omega) (gf := 107) (lb := #[.pointer (some ⟨w.heap.size + 1, 0, none⟩)]) rfl trivial (enters_of Tryz.func107 (by kernel_rfl) rfl)
    (all_stops (5 - 1) (by omega) (w.heap.size + 1) rb m n key es X (by omega) hcB hrX) (fun h k => walksK_t h k) walksK_b (Below.refl _ _) (fun _ => rfl)
    (fun pre W => BoxI w.heap.size w.heap.size W pre ∧ Below w.heap.size w W)
    (fun _ _ _ => False)
    (OwnFrom.and (Own.from (BoxI.own _ _) _) (ownFrom_below (Nat.le_refl _) (by omega)))
    (fun _ _ _ _ _ hs _ _ => hs)
    ⟨hBX, hXb⟩
    (fun x => { tmps := #[.pointer (some ⟨rb, 0, none⟩), undef, .slice none 0 0, .pointer (some ⟨w.heap.size, 0, none⟩), .int .i64 x, .pointer (some ⟨rb, 0, none⟩), .bool false, .pointer (some ⟨rb, 0, none⟩), .func (.func 107) #[] #[.pointer (some ⟨w.heap.size + 1, 0, none⟩)], .int .i64 x, undef, undef, undef, undef, undef, undef, undef], defers := [] }) ?assign ?body ?done ?stop
  case assign =>
    intro l x W K hK
    clear hBX hXs hcB hXb hrX
    gi_wp2
    exact hK
  case body =>
    rintro l pre x W ⟨hbx, hB⟩ hlt
    obtain ⟨v, hv, hown⟩ := hbx
    obtain ⟨g, cp, w2, hrun, hc2, hf2, hbx2, hk2, hb2, hb3⟩ := app_runI x hv hown hB.size (Nat.le_refl _) (by omega)
    obtain ⟨oa, oc, rfl⟩ := hown.shape
    have hcv : W.cell? ⟨w.heap.size, 0, none⟩ = some (.slice oa pre.length oc) := hv.cell
    have HX := Lib.hid hbx2
    have HK := Lib.hid hk2
    have HB := Lib.hid (hB.trans hb2)
    clear hbx2 hk2 hb2 hb3 hown hv hB hBX hXs hcB hXb hrX
    gi_wp2_with (first
      | (gi_at_builtin; refine wpListIn_appI rfl (s := .tmp 10) (x := .tmp 12) rfl rfl rfl rfl hrun ?_; go_frame)
      | gi_in)
    exact ⟨HK.out.from _, walks_of_others HK.out, HX.out, HB.out⟩
  case done =>
    rintro D xs W hDw ⟨hall, hxl⟩ ⟨hbx, hB⟩ hK
    obtain ⟨v, hv, hown⟩ := hbx
    obtain ⟨oa, oc, hve⟩ := hown.shape
    have hcv : W.cell? ⟨w.heap.size, 0, none⟩ = some (.slice oa xs.length oc) := by rw [← hve]; exact hv.cell
    have CS := Lib.hid (sortI_any xs v w.heap.size W hown (by omega) oa oc hve)
    have hp := days_perm hr.2.2.1 hall
    rw [hp] at CS
    have hne : some w.heap.size ≠ v.ownBlock := hv.not_row (by decide) hown
    have hneD : some D ≠ v.ownBlock := by
      rcases hown.2 with ⟨rfl, _⟩ | ⟨g, cap, cur, rfl, _, hgb, _⟩
      · simp [Value.ownBlock]
      · intro e
        obtain rfl : D = g := by simpa [Value.ownBlock] using e
        rw [hgb] at hK; cases hK
    have hrowB : ∀ k, v.ownBlock = some k → w.heap.size ≤ k := fun k e => by
      rcases hown.2 with ⟨rfl, _⟩ | ⟨g0, _, _, rfl, hg0, _⟩
      · cases e
      · cases e; exact hg0
    have HV := Lib.hid hv
    have HB := Lib.hid hB
    have HK := Lib.hid hK
    have HVE := Lib.hid hve
    have hDl : D < W.heap.size := (Array.getElem?_eq_some_iff.1 hK).1
    have hvl : w.heap.size < W.heap.size := hv.lt
    clear hv hB hK hve hown hall hp hBX hcB hXb hrX
    go_wp2_with (go_at_call 62; refine CS.out.mono ?_; rintro e w6 ⟨rfl, hs6, hg6⟩; have hc6 : w6.cell? ⟨w.heap.size, 0, none⟩ = some (.slice oa xs.length oc) := by rw [← HVE.out]; exact (HV.out.kept hg6 hne).cell)
    have hK6 : w6.heap[D]? = some (.deferred (some [])) := (hg6.block D hDl hneD).trans HK.out
    have b6 : Below w.heap.size w w6 := HB.out.grown hg6 (by omega) hrowB
    have HS := Lib.hid hs6
    have HB6 := Lib.hid b6
    clear hg6 hs6 b6
    refine ⟨by simp, .inl ⟨_, _, rfl, run_takeDeferred hK6, ?_⟩⟩
    exact ⟨_, results_tmp rfl _ _ _, v, by rw [HVE.out]; rfl, ownsRow_putObj HS.out _ hK6 rfl, HB6.out.trans (belowK_b (w := w) (Nat.le_refl _) w6 D _ _ (by omega) hK6 rfl rfl)⟩
  case stop =>
    rintro D c pre W _ _ h _
    exact h.elim
end Go.Proofs.YteoclpjbeadkpaaGreatDoor
/- WALK: signed (the laws of layer 44). -/
namespace Go.Proofs.YteoclpjbeadkpaaGreatDoor
open Go.RowKit Go.Shelf Go.Maps

def officeL : List UInt8 := [111, 102, 102, 105, 99, 101]
def otherL : List UInt8 := [111, 116, 104, 101, 114]
def secL (wrong : Bool) : List UInt8 := if wrong then otherL else officeL
theorem sigOk (secret msg : List UInt8) : SigOk (Se.sigL secret msg) :=
  ⟨by unfold Se.sigL; simp, Se.sigL_isL secret msg, fun s hs => by
    have h := Se.sigL_isL secret msg
    rw [List.all_eq_true] at h
    have h2 := h s hs
    unfold Dg.isL at h2
    simp only [Bool.and_eq_true, beq_iff_eq] at h2
    omega⟩

theorem set3 {w : World} {b : Nat} {a0 a1 a2 v0 v1 v2 : Value} {t : TypeId} (h : w.heap[b]? = some (.cells #[a0, a1, a2] t (0, 0))) :
    (((w.setCell ⟨b, 0, none⟩ v0).setCell ⟨b, 1, none⟩ v1).setCell ⟨b, 2, none⟩ v2).heap[b]? = some (.cells #[v0, v1, v2] t (0, 0)) := by
  simp [World.setCell, Array.getElem?_modify, h]

theorem SealAt.set3 {W : World} {sv : Value} {sig : List (List UInt8)} {B : Nat} (h : SealAt W sv sig) (hl : sig.length = 18) {a1 a2 : Option Addr} {n1 n2 c1 c2 : Nat} {z : Int} {t : TypeId}
    (hB : W.heap[B]? = some (.cells #[.int .i64 z, .slice a1 n1 c1, .slice a2 n2 c2] t (0, 0))) (v0 v1 v2 : Value) :
    SealAt (((W.setCell ⟨B, 0, none⟩ v0).setCell ⟨B, 1, none⟩ v1).setCell ⟨B, 2, none⟩ v2) sv sig := by
  obtain ⟨a, c, pa, pc, e, hs, h2⟩ := h
  refine ⟨a, c, pa, pc, e, ?_, h2⟩
  rcases hs with ⟨rfl, _⟩ | ⟨h0, b, off, c', hv, hb, hc⟩
  · cases hl
  · refine Or.inr ⟨h0, b, off, c', hv, by simpa using hb, fun j hj => ?_⟩
    have hne : b ≠ B := by
      rintro rfl
      have h1 := hc 0 h0
      rw [Nat.add_zero] at h1
      simp only [World.cell?, hB] at h1
      match off, h1 with
      | 0, h1 => simp at h1
      | 1, h1 => simp at h1
      | 2, h1 => simp at h1
      | (n + 3), h1 => simp at h1
    rw [← hc j hj]
    have st : ∀ (A : World) (i : Nat) (v : Value), (A.setCell ⟨B, i, none⟩ v).heap[b]? = A.heap[b]? := fun A i v => Below.heap_setCell A ⟨B, i, none⟩ v b hne
    exact World.cell?_of_block ((st _ _ _).trans ((st _ _ _).trans (st _ _ _)))

set_option maxHeartbeats 8000000 in
set_option maxRecDepth 100000 in
theorem signed_any (day cnt : Int) (root : List UInt8) (wrong : Bool) (w : World) (ht : Tab w) (hd0 : -9223372036854775808 ≤ day) (hd1 : day ≤ 9223372036854775807) (hc0 : -9223372036854775808 ≤ cnt) (hc1 : cnt ≤ 9223372036854775807) (hrl : root.length ≤ 35184372088832)
    (k : List UInt8) (hk : Hid (Se.pubL officeL = k)) (sig : List (List UInt8)) (hsig : Hid (Se.sigL (secL wrong) (Pf.msgL day cnt root) = sig)) :
    Calls Tryz.prog 21 #[.agg #[.int .i64 day, .int .i64 cnt, .string ⟨root.toArray⟩, .bool wrong]] w fun e w' => ∃ sv, e = .returned (.tuple #[.string ⟨k.toArray⟩, sv]) ∧ SealAt w' sv sig ∧ Below w.heap.size w w' := by
  obtain ⟨x, hx⟩ : ∃ x, Hid (Pf.msgL day cnt root = x) := ⟨_, rfl⟩
  have hxl : x.length ≤ 35184372088832 := by rw [← hx.out]; unfold Pf.msgL Dg.listL; rw [Dg.sumL_length]; decide
  have HL : Hid (sig.length = 18) := by unfold Hid; rw [← hsig.out]; exact (sigOk _ _).1
  rw [hx.out] at hsig
  have CP : Hid (∀ A, Below w.heap.size w A → Calls Tryz.prog 56 #[.string ⟨#[111, 102, 102, 105, 99, 101]⟩, .int .i64 0] A fun e w' => e = .returned (.tuple #[.string ⟨k.toArray⟩, .int .i64 0]) ∧ Below A.heap.size A w') := fun A hA => public_any officeL k A (ht.below hA (Nat.le_refl _)) (by decide) hk
  have CM : Hid (∀ A, Below w.heap.size w A → Calls Tryz.prog 19 #[.int .i64 day, .int .i64 cnt, .string ⟨root.toArray⟩] A fun e w' => e = .returned (.string ⟨x.toArray⟩) ∧ Below A.heap.size A w') := fun A hA => message_any day cnt root x A (ht.below hA (Nat.le_refl _)) hd0 hd1 hc0 hc1 hrl hx
  have CS : Hid (∀ A, Below w.heap.size w A → Calls Tryz.prog 57 #[.string ⟨(secL wrong).toArray⟩, .int .i64 0, .int .i64 0, .string ⟨x.toArray⟩] A fun e w' => ∃ a c pa pc, e = .returned (.tuple #[.agg #[.int .i64 0, .slice a 18 c, .slice pa 0 pc], .int .i64 0]) ∧ HasStrsC w' (.slice a 18 c) sig ∧ Below A.heap.size A w') := fun A hA => by
    rw [← hsig.out]; exact sign_any (secL wrong) x A (ht.below hA (Nat.le_refl _)) (by cases wrong <;> decide) hxl
  obtain ⟨W0, hW0⟩ : ∃ W0, (w.alloc (.cells #[.int .i64 day, .int .i64 cnt, .string ⟨root.toArray⟩, .bool wrong] 46)).alloc (.cells #[.int .i64 0, .slice none 0 0, .slice none 0 0] 42) = W0 := ⟨_, rfl⟩
  have h0 : W0.heap[w.heap.size]? = some (.cells #[.int .i64 day, .int .i64 cnt, .string ⟨root.toArray⟩, .bool wrong] 46 (0, 0)) := by
    rw [← hW0]; exact (heap_alloc_lt _ _ _ (by simp)).trans (heap_alloc_at w _)
  have h1 : W0.heap[w.heap.size + 1]? = some (.cells #[.int .i64 0, .slice none 0 0, .slice none 0 0] 42 (0, 0)) := by
    rw [← hW0]
    have e := heap_alloc_at (w.alloc (.cells #[.int .i64 day, .int .i64 cnt, .string ⟨root.toArray⟩, .bool wrong] 46)) (.cells #[.int .i64 0, .slice none 0 0, .slice none 0 0] 42)
    rw [World.size_alloc] at e
    exact e
  have b0 : Below w.heap.size w W0 := by rw [← hW0]; exact ((Below.refl _ w).alloc (Nat.le_refl _) _).alloc (by simp) _
  have hs0 : W0.heap.size = w.heap.size + 2 := by rw [← hW0]; simp
  go_enter Tryz.func21, Tryz.ntmps21
  go_wp2_with fail
  clear hW0
  refine (CP.out _ b0).mono ?_
  rintro e w1 ⟨rfl, c1⟩
  have b1 := Lib.hid (below_next b0 c1)
  have g0 := (c1.block w.heap.size (by omega)).trans h0
  have g1 := (c1.block (w.heap.size + 1) (by omega)).trans h1
  have hs1 := c1.size
  have k0 := cell_of_heap (i := 0) g0; have k1 := cell_of_heap (i := 1) g0; have k2 := cell_of_heap (i := 2) g0; have k3 := cell_of_heap (i := 3) g0
  have G1 := Lib.hid g1
  have HS : Hid (w.heap.size + 1 < w1.heap.size) := by unfold Hid; omega
  clear c1 b0 h0 h1 hs0 g0 g1 hs1
  cases wrong
  · have CS2 : Hid (∀ A, Below w.heap.size w A → Calls Tryz.prog 57 #[.string ⟨#[111, 102, 102, 105, 99, 101]⟩, .int .i64 0, .int .i64 0, .string ⟨x.toArray⟩] A fun e w' => ∃ a c pa pc, e = .returned (.tuple #[.agg #[.int .i64 0, .slice a 18 c, .slice pa 0 pc], .int .i64 0]) ∧ HasStrsC w' (.slice a 18 c) sig ∧ Below A.heap.size A w') := CS
    clear CS
    go_wp2_with (first
      | (go_at_call 19; (with_reducible refine (CM.out _ b1.out).mono ?_); rintro e w2 ⟨rfl, c2⟩; have HC2 := Lib.hid c2)
      | (go_at_call 57; (with_reducible refine (CS2.out _ (below_next b1.out HC2.out)).mono ?_); rintro e w3 ⟨sa, sc, pa, pc, rfl, hs3, c3⟩; have HC3 := Lib.hid c3))
    have h2 := HS.out
    have h3 := HC2.out.size
    have h4 := HC3.out.size
    have e1 : (w3.alloc (.cells #[.int .i64 0, .slice sa 18 sc, .slice pa 0 pc] 42)).drew.heap[w.heap.size + 1]? = some (.cells #[.int .i64 0, .slice none 0 0, .slice none 0 0] 42 (0, 0)) := (heap_alloc_lt w3 _ _ (by omega)).trans ((HC3.out.block _ (by omega)).trans ((HC2.out.block _ (by omega)).trans G1.out))
    have e2 : (w3.alloc (.cells #[.int .i64 0, .slice sa 18 sc, .slice pa 0 pc] 42)).drew.heap[w3.heap.size]? = some (.cells #[.int .i64 0, .slice sa 18 sc, .slice pa 0 pc] 42 (0, 0)) := heap_alloc_at w3 _
    have b4 : Below w.heap.size w (w3.alloc (.cells #[.int .i64 0, .slice sa 18 sc, .slice pa 0 pc] 42)).drew := ((below_next (below_next b1.out HC2.out) HC3.out).alloc (by omega) _).drew
    have hs4 : SealAt (w3.alloc (.cells #[.int .i64 0, .slice sa 18 sc, .slice pa 0 pc] 42)).drew (.agg #[.int .i64 0, .slice sa 18 sc, .slice pa 0 pc]) sig := ⟨sa, sc, pa, pc, rfl, hs3.below (((Below.refl _ w3).alloc (Nat.le_refl _) _).drew) (Nat.le_refl _)⟩
    have E1 := Lib.hid e1
    have B4 := Lib.hid b4
    have S4 := Lib.hid hs4
    have q0 := cell_of_heap (i := 0) e1; have q1 := cell_of_heap (i := 1) e1; have q2 := cell_of_heap (i := 2) e1
    have p0 := cell_of_heap (i := 0) e2; have p1 := cell_of_heap (i := 1) e2; have p2 := cell_of_heap (i := 2) e2
    have q0f := free_of_heap (i := 0) e1; have q1f := free_of_heap (i := 1) e1; have q2f := free_of_heap (i := 2) e1
    have e1' : (w3.alloc (.cells #[.int .i64 0, .slice sa 18 sc, .slice pa 0 pc] 42)).heap[w.heap.size + 1]? = some (.cells #[.int .i64 0, .slice none 0 0, .slice none 0 0] 42 (0, 0)) := e1
    have r0 := cell_of_heap (i := 0) e1'; have r1 := cell_of_heap (i := 1) e1'; have r2 := cell_of_heap (i := 2) e1'
    have r0f := free_of_heap (i := 0) e1'; have r1f := free_of_heap (i := 1) e1'; have r2f := free_of_heap (i := 2) e1'
    clear e1' e1 e2 b4 hs4 h2 h3 h4 hs3 c2 c3
    go_region
    all_goals
      have z := set3 (b := w.heap.size + 1) (v0 := .int .i64 0) (v1 := .slice sa 18 sc) (v2 := .slice pa 0 pc) E1.out
      have zb : Below w.heap.size w _ := ((B4.out.setCell (p := ⟨w.heap.size + 1, 0, none⟩) (by show w.heap.size ≤ w.heap.size + 1; omega) (.int .i64 0)).setCell (p := ⟨w.heap.size + 1, 1, none⟩) (by show w.heap.size ≤ w.heap.size + 1; omega) (.slice sa 18 sc)).setCell (p := ⟨w.heap.size + 1, 2, none⟩) (by show w.heap.size ≤ w.heap.size + 1; omega) (.slice pa 0 pc)
      have zs := S4.out.set3 HL.out E1.out (.int .i64 0) (.slice sa 18 sc) (.slice pa 0 pc)
      have z' : (((((w3.alloc (.cells #[.int .i64 0, .slice sa 18 sc, .slice pa 0 pc] 42)).setCell ⟨w.heap.size + 1, 0, none⟩ (.int .i64 0)).setCell ⟨w.heap.size + 1, 1, none⟩ (.slice sa 18 sc)).setCell ⟨w.heap.size + 1, 2, none⟩ (.slice pa 0 pc)).drew).heap[w.heap.size + 1]? = _ := z
      have zb' : Below w.heap.size w (((((w3.alloc (.cells #[.int .i64 0, .slice sa 18 sc, .slice pa 0 pc] 42)).setCell ⟨w.heap.size + 1, 0, none⟩ (.int .i64 0)).setCell ⟨w.heap.size + 1, 1, none⟩ (.slice sa 18 sc)).setCell ⟨w.heap.size + 1, 2, none⟩ (.slice pa 0 pc)).drew) := zb
      have zs' : SealAt (((((w3.alloc (.cells #[.int .i64 0, .slice sa 18 sc, .slice pa 0 pc] 42)).setCell ⟨w.heap.size + 1, 0, none⟩ (.int .i64 0)).setCell ⟨w.heap.size + 1, 1, none⟩ (.slice sa 18 sc)).setCell ⟨w.heap.size + 1, 2, none⟩ (.slice pa 0 pc)).drew) _ sig := zs
      clear q0 q1 q2 q0f q1f q2f r0 r1 r2 r0f r1f r2f p0 p1 p2 z E1 B4 S4 zb zs
      obtain ⟨Z, hZ⟩ : ∃ Z, ((((w3.alloc (.cells #[.int .i64 0, .slice sa 18 sc, .slice pa 0 pc] 42)).setCell ⟨w.heap.size + 1, 0, none⟩ (.int .i64 0)).setCell ⟨w.heap.size + 1, 1, none⟩ (.slice sa 18 sc)).setCell ⟨w.heap.size + 1, 2, none⟩ (.slice pa 0 pc)).drew = Z := ⟨_, rfl⟩
      rw [hZ] at z' zb' zs' ⊢
      clear hZ
      have y0 := cell_of_heap (i := 0) z'; have y1 := cell_of_heap (i := 1) z'; have y2 := cell_of_heap (i := 2) z'
      go_wp2_with fail
      refine bodyPost_ret (v := .tuple #[.string ⟨k.toArray⟩, .agg #[.int .i64 0, .slice sa 18 sc, .slice pa 0 pc]]) ?_ rfl ⟨_, rfl, zs', zb'⟩
      simp [results, Tryz.f21, go_sem, y0, y1, y2]
  · have CS2 : Hid (∀ A, Below w.heap.size w A → Calls Tryz.prog 57 #[.string ⟨#[111, 116, 104, 101, 114]⟩, .int .i64 0, .int .i64 0, .string ⟨x.toArray⟩] A fun e w' => ∃ a c pa pc, e = .returned (.tuple #[.agg #[.int .i64 0, .slice a 18 c, .slice pa 0 pc], .int .i64 0]) ∧ HasStrsC w' (.slice a 18 c) sig ∧ Below A.heap.size A w') := CS
    clear CS
    go_wp2_with (first
      | (go_at_call 19; (with_reducible refine (CM.out _ b1.out).mono ?_); rintro e w2 ⟨rfl, c2⟩; have HC2 := Lib.hid c2)
      | (go_at_call 57; (with_reducible refine (CS2.out _ (below_next b1.out HC2.out)).mono ?_); rintro e w3 ⟨sa, sc, pa, pc, rfl, hs3, c3⟩; have HC3 := Lib.hid c3))
    have h2 := HS.out
    have h3 := HC2.out.size
    have h4 := HC3.out.size
    have e1 : (w3.alloc (.cells #[.int .i64 0, .slice sa 18 sc, .slice pa 0 pc] 42)).drew.heap[w.heap.size + 1]? = some (.cells #[.int .i64 0, .slice none 0 0, .slice none 0 0] 42 (0, 0)) := (heap_alloc_lt w3 _ _ (by omega)).trans ((HC3.out.block _ (by omega)).trans ((HC2.out.block _ (by omega)).trans G1.out))
    have e2 : (w3.alloc (.cells #[.int .i64 0, .slice sa 18 sc, .slice pa 0 pc] 42)).drew.heap[w3.heap.size]? = some (.cells #[.int .i64 0, .slice sa 18 sc, .slice pa 0 pc] 42 (0, 0)) := heap_alloc_at w3 _
    have b4 : Below w.heap.size w (w3.alloc (.cells #[.int .i64 0, .slice sa 18 sc, .slice pa 0 pc] 42)).drew := ((below_next (below_next b1.out HC2.out) HC3.out).alloc (by omega) _).drew
    have hs4 : SealAt (w3.alloc (.cells #[.int .i64 0, .slice sa 18 sc, .slice pa 0 pc] 42)).drew (.agg #[.int .i64 0, .slice sa 18 sc, .slice pa 0 pc]) sig := ⟨sa, sc, pa, pc, rfl, hs3.below (((Below.refl _ w3).alloc (Nat.le_refl _) _).drew) (Nat.le_refl _)⟩
    have E1 := Lib.hid e1
    have B4 := Lib.hid b4
    have S4 := Lib.hid hs4
    have q0 := cell_of_heap (i := 0) e1; have q1 := cell_of_heap (i := 1) e1; have q2 := cell_of_heap (i := 2) e1
    have p0 := cell_of_heap (i := 0) e2; have p1 := cell_of_heap (i := 1) e2; have p2 := cell_of_heap (i := 2) e2
    have q0f := free_of_heap (i := 0) e1; have q1f := free_of_heap (i := 1) e1; have q2f := free_of_heap (i := 2) e1
    have e1' : (w3.alloc (.cells #[.int .i64 0, .slice sa 18 sc, .slice pa 0 pc] 42)).heap[w.heap.size + 1]? = some (.cells #[.int .i64 0, .slice none 0 0, .slice none 0 0] 42 (0, 0)) := e1
    have r0 := cell_of_heap (i := 0) e1'; have r1 := cell_of_heap (i := 1) e1'; have r2 := cell_of_heap (i := 2) e1'
    have r0f := free_of_heap (i := 0) e1'; have r1f := free_of_heap (i := 1) e1'; have r2f := free_of_heap (i := 2) e1'
    clear e1' e1 e2 b4 hs4 h2 h3 h4 hs3 c2 c3
    go_region
    all_goals
      have z := set3 (b := w.heap.size + 1) (v0 := .int .i64 0) (v1 := .slice sa 18 sc) (v2 := .slice pa 0 pc) E1.out
      have zb : Below w.heap.size w _ := ((B4.out.setCell (p := ⟨w.heap.size + 1, 0, none⟩) (by show w.heap.size ≤ w.heap.size + 1; omega) (.int .i64 0)).setCell (p := ⟨w.heap.size + 1, 1, none⟩) (by show w.heap.size ≤ w.heap.size + 1; omega) (.slice sa 18 sc)).setCell (p := ⟨w.heap.size + 1, 2, none⟩) (by show w.heap.size ≤ w.heap.size + 1; omega) (.slice pa 0 pc)
      have zs := S4.out.set3 HL.out E1.out (.int .i64 0) (.slice sa 18 sc) (.slice pa 0 pc)
      have z' : (((((w3.alloc (.cells #[.int .i64 0, .slice sa 18 sc, .slice pa 0 pc] 42)).setCell ⟨w.heap.size + 1, 0, none⟩ (.int .i64 0)).setCell ⟨w.heap.size + 1, 1, none⟩ (.slice sa 18 sc)).setCell ⟨w.heap.size + 1, 2, none⟩ (.slice pa 0 pc)).drew).heap[w.heap.size + 1]? = _ := z
      have zb' : Below w.heap.size w (((((w3.alloc (.cells #[.int .i64 0, .slice sa 18 sc, .slice pa 0 pc] 42)).setCell ⟨w.heap.size + 1, 0, none⟩ (.int .i64 0)).setCell ⟨w.heap.size + 1, 1, none⟩ (.slice sa 18 sc)).setCell ⟨w.heap.size + 1, 2, none⟩ (.slice pa 0 pc)).drew) := zb
      have zs' : SealAt (((((w3.alloc (.cells #[.int .i64 0, .slice sa 18 sc, .slice pa 0 pc] 42)).setCell ⟨w.heap.size + 1, 0, none⟩ (.int .i64 0)).setCell ⟨w.heap.size + 1, 1, none⟩ (.slice sa 18 sc)).setCell ⟨w.heap.size + 1, 2, none⟩ (.slice pa 0 pc)).drew) _ sig := zs
      clear q0 q1 q2 q0f q1f q2f r0 r1 r2 r0f r1f r2f p0 p1 p2 z E1 B4 S4 zb zs
      obtain ⟨Z, hZ⟩ : ∃ Z, ((((w3.alloc (.cells #[.int .i64 0, .slice sa 18 sc, .slice pa 0 pc] 42)).setCell ⟨w.heap.size + 1, 0, none⟩ (.int .i64 0)).setCell ⟨w.heap.size + 1, 1, none⟩ (.slice sa 18 sc)).setCell ⟨w.heap.size + 1, 2, none⟩ (.slice pa 0 pc)).drew = Z := ⟨_, rfl⟩
      rw [hZ] at z' zb' zs' ⊢
      clear hZ
      have y0 := cell_of_heap (i := 0) z'; have y1 := cell_of_heap (i := 1) z'; have y2 := cell_of_heap (i := 2) z'
      go_wp2_with fail
      refine bodyPost_ret (v := .tuple #[.string ⟨k.toArray⟩, .agg #[.int .i64 0, .slice sa 18 sc, .slice pa 0 pc]]) ?_ rfl ⟨_, rfl, zs', zb'⟩
      simp [results, Tryz.f21, go_sem, y0, y1, y2]
end Go.Proofs.YteoclpjbeadkpaaGreatDoor
