/- The texts PfLeaf PfCheck PfIndex PfMake, merged: walks and plain laws that the statements of layer 44 use. -/
import Derived.Lib.AppendStr
import Derived.Test.YteoclpjbeadkpaaGreatDoorMpE
import Derived.Test.YteoclpjbeadkpaaGreatDoorMpD
import Derived.Deep.QuietTactic
import Derived.BigQuiet
import Derived.Test.YteoclpjbeadkpaaGreatDoorMpA
set_option linter.unusedSimpArgs false
set_option linter.unusedVariables false
/- WALK: proof.leaf. -/
namespace Go.Proofs.YteoclpjbeadkpaaGreatDoor
open Go.RowKit Go.Shelf

theorem leaf_small2 (x : Co.It) (h : TxtOk x) : (Dg.joinL [Co.kindL x.kind, x.id, x.parent, x.north, x.south]).length ≤ 10000000 := by
  have := (Dg.item_length (Co.kindL x.kind)).2; have := (Dg.item_length x.id).2; have := (Dg.item_length x.parent).2; have := (Dg.item_length x.north).2; have := (Dg.item_length x.south).2
  have e : (Co.kindL x.kind).length = 1 := by unfold Co.kindL; split <;> rfl
  obtain ⟨h1, h2, h3, h4⟩ := h
  simp only [Dg.joinL, List.length_append, List.length_nil]; omega
theorem row_shape {w : World} {B : Nat} {e : TypeId} {v : Value} {n : Nat} {xs : List Value} (h : w.ownsRow B e 1 v n xs) : ∃ a c, v = .slice a n c := by
  rcases h.2 with ⟨rfl, h0⟩ | ⟨g, cap, _, rfl, _⟩
  · exact ⟨none, 0, by rw [h0]⟩
  · exact ⟨_, _, rfl⟩

set_option maxHeartbeats 4000000 in
set_option maxRecDepth 100000 in
/-- The loop of proof.leaf, from the row of its texts on. -/
theorem leafP_any (x : Co.It) (y : List UInt8) (w : World) (ht : Tab w) (hok : TxtOk x) (hy : Hid (Co.leafL x = y)) :
    Calls Tryz.prog 50 #[itV x] w fun e w' => e = .returned (.string ⟨y.toArray⟩) ∧ Below w.heap.size w w' := by
  obtain ⟨i0, hi, hz0, hz1, hz2⟩ := info_parts info_u8
  have hsm := leaf_small2 x hok
  obtain ⟨kind, id, parent, number, north, south, gone⟩ := x
  unfold itV
  unfold Co.leafL at hy
  simp only at hy hsm ⊢
  by_cases hk : kind = 1
  · have hkb : (kind == 1) = true := by rw [beq_iff_eq]; exact hk
    rw [show Co.kindL kind = [100] from if_pos hk] at hy hsm
    clear hk
    go_enter Tryz.func50, Tryz.ntmps50
    go_wp2_with fail
    obtain ⟨ss, hss⟩ : ∃ ss : List (List UInt8), [[100], id, parent, north, south] = ss := ⟨_, rfl⟩
    have hv := hasStrs_alloc (w.alloc (.cells #[.int .i64 kind, .string ⟨id.toArray⟩, .string ⟨parent.toArray⟩, .string ⟨number.toArray⟩, .string ⟨north.toArray⟩, .string ⟨south.toArray⟩, .bool gone] 26)) [[100], id, parent, north, south] 5 (by simp)
    obtain ⟨W0, hW0⟩ : ∃ W0, (w.alloc (.cells #[.int .i64 kind, .string ⟨id.toArray⟩, .string ⟨parent.toArray⟩, .string ⟨number.toArray⟩, .string ⟨north.toArray⟩, .string ⟨south.toArray⟩, .bool gone] 26)).alloc (.cells #[.string ⟨#[100]⟩, .string ⟨id.toArray⟩, .string ⟨parent.toArray⟩, .string ⟨north.toArray⟩, .string ⟨south.toArray⟩] 9) = W0 := ⟨_, rfl⟩
    have hs0 : W0.heap.size = w.heap.size + 1 + 1 := by rw [← hW0]; simp
    have b0 : Below w.heap.size w W0 := by rw [← hW0]; exact ((Below.refl _ w).alloc (Nat.le_refl _) _).alloc (by simp) _
    have hv0 : HasStrs W0 (.slice (some ⟨w.heap.size + 1, 0, none⟩) 5 5) ss := by
      rw [← hW0, ← hss]
      rw [World.size_alloc] at hv
      exact hv
    rw [hss] at hy hsm
    have hsl : ss.length = 5 := by rw [← hss]; rfl
    rw [hW0]
    have htB : TabB W0.heap.size W0 := (ht.below b0 (Nat.le_refl _)).toB
    have hw1 : w.heap.size + 1 < W0.heap.size := by omega
    have hw0 : w.heap.size ≤ W0.heap.size := by omega
    clear hW0 hv hss hkb hs0
    have hc : ∀ j, j < ss.length → W0.cell? ⟨w.heap.size + 1, 0 + j, none⟩ = some (.string ⟨(ss.getD j []).toArray⟩) := by
      rcases hv0 with ⟨e, _⟩ | ⟨_, b, off, c, e, _, hc⟩
      · rw [e] at hsl; cases hsl
      · simp only [Value.slice.injEq, Option.some.injEq, Addr.mk.injEq] at e
        obtain ⟨⟨rfl, rfl, _⟩, _⟩ := e
        exact hc
    have HC := Lib.hid hc
    have HB0 := Lib.hid b0
    clear hc hv0 b0 ht hok
    go_loopw [4, 21] (fun v i wr => ∃ (k : Nat), k ≤ 5 ∧ i = .int .i64 (k : Int) ∧ wr.ownsRow W0.heap.size 5 1 v (Dg.joinL (ss.take k)).length (Lib.byteCells (Dg.joinL (ss.take k))) ∧ Below W0.heap.size W0 wr) (fun _ i _ => 5 - (intOf i).toNat)
    case atStart => exact ⟨0, by omega, rfl, World.ownsRow_nil _ _ _ _, Below.refl _ _⟩
    case round =>
      obtain ⟨k, hk2, rfl, hown, hb⟩ := hrel
      have hsz := hb.size
      by_cases hkl : k < 5
      · have hck := (hb.cell (p := ⟨w.heap.size + 1, 0 + k, none⟩) hw1).trans (HC.out k (by omega))
        rw [Nat.zero_add] at hck
        have hj := joinL_take ss k (by omega)
        have hle := Nat.le_trans (joinL_take_le ss (k + 1)) hsm
        generalize ss.getD k [] = s at hck hj
        rw [hj, List.length_append] at hle
        have hit : (Dg.item s).length = (Dg.decN s.length).length + 1 + s.length := by unfold Dg.item; simp; omega
        have hdl := Dg.decN_length s.length
        have HJ := Lib.hid hj; clear hj
        have HIT : Hid (Dg.item s = Dg.decN s.length ++ ([58] ++ s)) := rfl
        have hita : Lib.itoa (s.length : Int) = Dg.decN s.length := by rw [Pf.itoaL_eq _ (by omega) (by omega)]; unfold Pf.itoaL; rw [if_neg (by omega)]; rfl
        generalize Dg.joinL (ss.take k) = J at *
        obtain ⟨va, vc, rfl⟩ := row_shape hown
        have CA := Lib.hid (Tryz.strconv_AppendInt_10 W0.heap.size J.length (s.length : Int) (by omega) (by omega) _ _ wr hown hsz (by omega) (htB.on hb))
        rw [hita] at CA
        generalize Dg.decN s.length = d at hdl HIT hit CA
        have HI := Lib.hid hit; clear hit hown hita
        go_wp2_with fail
        refine CA.out.mono ?_
        rintro e w2 ⟨v2, rfl, hown2, hb2', _⟩
        have hb2 := hb.trans hb2'
        have hck2 := (hb2'.cell (p := ⟨w.heap.size + 1, k, none⟩) hw1).trans hck
        have hsz2 := hb2.size
        have hvs2 : ∃ a c, v2 = Value.slice a (J.length + d.length) c ∧ ∀ g, (Value.slice a (J.length + d.length) c).ownBlock = some g → W0.heap.size ≤ g := by
          rcases hown2.2 with ⟨rfl, h0⟩ | ⟨g, cap, _, rfl, hg, _⟩
          · exact ⟨none, 0, by rw [h0], fun g e => by cases e⟩
          · exact ⟨_, _, rfl, fun g' e => by simp only [Value.ownBlock, Option.some.injEq] at e; omega⟩
        obtain ⟨va2, vc2, rfl, hg2⟩ := hvs2
        clear hb2' hck CA hb
        go_wp2_with (at_builtin; refine wpList_append_own _ rfl (.tmp 28) (.tmp 29) 125 rfl W0.heap.size 5 i0 (.int .u8 0) 1 1 Tryz.underlying125 hi hz0 hz1 hz2 rfl (by decide) _ _ _ rfl (hown2.alloc _) ⟨w2.heap.size, 0, none⟩ 1 1 [.int .u8 58] rfl rfl ?_ ?_ ?_ ?_ ?_ ?_)
        · intro j u hj
          match j, hj with
          | 0, hj => simp at hj; subst hj; simp [Addr.add]
        · intro u hu; simp at hu; subst hu; rfl
        · have := HI.out; show J.length + d.length + 1 ≤ _; unfold maxLen; omega
        · have := HI.out; show (J.length + d.length + 1) * 1 ≤ _; omega
        · simp; omega
        intro v3 w3 hown3 hgrow3 hnil3
        have hb3 := (hb2.alloc hsz2 _).grown hgrow3 (by simp; omega) (fun k e => hg2 k e)
        have hck3 := (hb3.cell (p := ⟨w.heap.size + 1, k, none⟩) hw1).trans ((hb2.cell (p := ⟨w.heap.size + 1, k, none⟩) hw1).symm.trans hck2)
        obtain ⟨g3, cap3, rfl, hg3⟩ := own_shape hown3 hnil3
        have hsz3 := hb3.size
        clear hown2 hgrow3 hnil3 hck2 hb2 hsz2 hg2
        go_wp2_with (at_builtin; refine Lib.wpList_append_own_string _ rfl (.tmp 31) (.tmp 32) 125 9 rfl W0.heap.size 5 i0 Tryz.underlying125 Tryz.underlying9 hi hz0 hz1 hz2 _ (J.length + d.length + 1) _ rfl hown3 ⟨s.toArray⟩ rfl ?_ ?_ ?_ ?_)
        · have := HI.out; show J.length + d.length + 1 + s.length ≤ _; unfold maxLen; omega
        · have := HI.out; show J.length + d.length + 1 + s.length ≤ _; omega
        · exact hsz3
        intro v4 w4 hown4 hgrow4 hnil4
        have hb4 := hb3.grown hgrow4 hsz3 (fun k e => by cases e; exact hg3)
        clear hown3 hgrow4 hnil4 hck3 hb3 hsz3
        have e1 : J.length + d.length + 1 + s.length = (J ++ Dg.item s).length := by rw [HIT.out]; simp; omega
        have e2 : Lib.byteCells J ++ Lib.byteCells d ++ [Value.int .u8 58] ++ Lib.strCells ⟨s.toArray⟩ = Lib.byteCells (J ++ Dg.item s) := by
          rw [HIT.out, strCells_mk, byteCells_append, byteCells_append, byteCells_append]; simp [Lib.byteCells]
        have hown5 : w4.ownsRow W0.heap.size 5 1 v4 (Dg.joinL (ss.take (k + 1))).length (Lib.byteCells (Dg.joinL (ss.take (k + 1)))) := by
          rw [HJ.out, ← e1, ← e2]; simpa using hown4
        have HO5 := Lib.hid hown5
        clear e1 e2 hown4 hown5
        go_wp2_with fail
        go_roundw
        case rel => exact ⟨k + 1, by omega, by go_num, HO5.out, hb4⟩
        case measure => simp [intOf]; omega
      · obtain rfl : k = 5 := by omega
        rw [List.take_of_length_le (by omega)] at hown
        have hJp : 0 < (Dg.joinL ss).length := by
          match ss, hsl with
          | a :: r, _ => rw [Dg.joinL, List.length_append]; unfold Dg.item; simp; omega
        obtain ⟨g, cap, rfl, hg⟩ := own_shape hown (fun e => by rw [e] at hown; rcases hown.2 with ⟨_, h0⟩ | ⟨_, _, _, h0, _⟩; · omega
                                                                · cases h0)
        have hcv := run_convert_bytes_arg (P := Tryz.prog) (w := wr) 125 5 Tryz.underlying125 Tryz.underlying5 g 0 (Dg.joinL ss).length cap ((Dg.joinL ss).map fun c => ((c.toNat : Nat) : Int)) (by simp) (fun i hi => by
          rw [Nat.zero_add, hown.cellAt i (by omega), byteCells_at _ _ hi])
        have HE := Lib.hid (strOfNums_bytes (Dg.joinL ss))
        clear hown
        go_wp2_with fail
        go_ret
        exact ⟨by rw [← hy.out]; exact congrArg (fun x => Ending.returned (Value.string x)) HE.out, HB0.out.trans (hb.mono hw0)⟩
  · have hkb : (kind == 1) = false := by rw [beq_eq_false_iff_ne]; exact hk
    rw [show Co.kindL kind = [97] from if_neg hk] at hy hsm
    clear hk
    go_enter Tryz.func50, Tryz.ntmps50
    go_wp2_with fail
    obtain ⟨ss, hss⟩ : ∃ ss : List (List UInt8), [[97], id, parent, north, south] = ss := ⟨_, rfl⟩
    have hv := hasStrs_alloc (w.alloc (.cells #[.int .i64 kind, .string ⟨id.toArray⟩, .string ⟨parent.toArray⟩, .string ⟨number.toArray⟩, .string ⟨north.toArray⟩, .string ⟨south.toArray⟩, .bool gone] 26)) [[97], id, parent, north, south] 5 (by simp)
    obtain ⟨W0, hW0⟩ : ∃ W0, (w.alloc (.cells #[.int .i64 kind, .string ⟨id.toArray⟩, .string ⟨parent.toArray⟩, .string ⟨number.toArray⟩, .string ⟨north.toArray⟩, .string ⟨south.toArray⟩, .bool gone] 26)).alloc (.cells #[.string ⟨#[97]⟩, .string ⟨id.toArray⟩, .string ⟨parent.toArray⟩, .string ⟨north.toArray⟩, .string ⟨south.toArray⟩] 9) = W0 := ⟨_, rfl⟩
    have hs0 : W0.heap.size = w.heap.size + 1 + 1 := by rw [← hW0]; simp
    have b0 : Below w.heap.size w W0 := by rw [← hW0]; exact ((Below.refl _ w).alloc (Nat.le_refl _) _).alloc (by simp) _
    have hv0 : HasStrs W0 (.slice (some ⟨w.heap.size + 1, 0, none⟩) 5 5) ss := by
      rw [← hW0, ← hss]
      rw [World.size_alloc] at hv
      exact hv
    rw [hss] at hy hsm
    have hsl : ss.length = 5 := by rw [← hss]; rfl
    rw [hW0]
    have htB : TabB W0.heap.size W0 := (ht.below b0 (Nat.le_refl _)).toB
    have hw1 : w.heap.size + 1 < W0.heap.size := by omega
    have hw0 : w.heap.size ≤ W0.heap.size := by omega
    clear hW0 hv hss hkb hs0
    have hc : ∀ j, j < ss.length → W0.cell? ⟨w.heap.size + 1, 0 + j, none⟩ = some (.string ⟨(ss.getD j []).toArray⟩) := by
      rcases hv0 with ⟨e, _⟩ | ⟨_, b, off, c, e, _, hc⟩
      · rw [e] at hsl; cases hsl
      · simp only [Value.slice.injEq, Option.some.injEq, Addr.mk.injEq] at e
        obtain ⟨⟨rfl, rfl, _⟩, _⟩ := e
        exact hc
    have HC := Lib.hid hc
    have HB0 := Lib.hid b0
    clear hc hv0 b0 ht hok
    go_loopw [4, 21] (fun v i wr => ∃ (k : Nat), k ≤ 5 ∧ i = .int .i64 (k : Int) ∧ wr.ownsRow W0.heap.size 5 1 v (Dg.joinL (ss.take k)).length (Lib.byteCells (Dg.joinL (ss.take k))) ∧ Below W0.heap.size W0 wr) (fun _ i _ => 5 - (intOf i).toNat)
    case atStart => exact ⟨0, by omega, rfl, World.ownsRow_nil _ _ _ _, Below.refl _ _⟩
    case round =>
      obtain ⟨k, hk2, rfl, hown, hb⟩ := hrel
      have hsz := hb.size
      by_cases hkl : k < 5
      · have hck := (hb.cell (p := ⟨w.heap.size + 1, 0 + k, none⟩) hw1).trans (HC.out k (by omega))
        rw [Nat.zero_add] at hck
        have hj := joinL_take ss k (by omega)
        have hle := Nat.le_trans (joinL_take_le ss (k + 1)) hsm
        generalize ss.getD k [] = s at hck hj
        rw [hj, List.length_append] at hle
        have hit : (Dg.item s).length = (Dg.decN s.length).length + 1 + s.length := by unfold Dg.item; simp; omega
        have hdl := Dg.decN_length s.length
        have HJ := Lib.hid hj; clear hj
        have HIT : Hid (Dg.item s = Dg.decN s.length ++ ([58] ++ s)) := rfl
        have hita : Lib.itoa (s.length : Int) = Dg.decN s.length := by rw [Pf.itoaL_eq _ (by omega) (by omega)]; unfold Pf.itoaL; rw [if_neg (by omega)]; rfl
        generalize Dg.joinL (ss.take k) = J at *
        obtain ⟨va, vc, rfl⟩ := row_shape hown
        have CA := Lib.hid (Tryz.strconv_AppendInt_10 W0.heap.size J.length (s.length : Int) (by omega) (by omega) _ _ wr hown hsz (by omega) (htB.on hb))
        rw [hita] at CA
        generalize Dg.decN s.length = d at hdl HIT hit CA
        have HI := Lib.hid hit; clear hit hown hita
        go_wp2_with fail
        refine CA.out.mono ?_
        rintro e w2 ⟨v2, rfl, hown2, hb2', _⟩
        have hb2 := hb.trans hb2'
        have hck2 := (hb2'.cell (p := ⟨w.heap.size + 1, k, none⟩) hw1).trans hck
        have hsz2 := hb2.size
        have hvs2 : ∃ a c, v2 = Value.slice a (J.length + d.length) c ∧ ∀ g, (Value.slice a (J.length + d.length) c).ownBlock = some g → W0.heap.size ≤ g := by
          rcases hown2.2 with ⟨rfl, h0⟩ | ⟨g, cap, _, rfl, hg, _⟩
          · exact ⟨none, 0, by rw [h0], fun g e => by cases e⟩
          · exact ⟨_, _, rfl, fun g' e => by simp only [Value.ownBlock, Option.some.injEq] at e; omega⟩
        obtain ⟨va2, vc2, rfl, hg2⟩ := hvs2
        clear hb2' hck CA hb
        go_wp2_with (at_builtin; refine wpList_append_own _ rfl (.tmp 28) (.tmp 29) 125 rfl W0.heap.size 5 i0 (.int .u8 0) 1 1 Tryz.underlying125 hi hz0 hz1 hz2 rfl (by decide) _ _ _ rfl (hown2.alloc _) ⟨w2.heap.size, 0, none⟩ 1 1 [.int .u8 58] rfl rfl ?_ ?_ ?_ ?_ ?_ ?_)
        · intro j u hj
          match j, hj with
          | 0, hj => simp at hj; subst hj; simp [Addr.add]
        · intro u hu; simp at hu; subst hu; rfl
        · have := HI.out; show J.length + d.length + 1 ≤ _; unfold maxLen; omega
        · have := HI.out; show (J.length + d.length + 1) * 1 ≤ _; omega
        · simp; omega
        intro v3 w3 hown3 hgrow3 hnil3
        have hb3 := (hb2.alloc hsz2 _).grown hgrow3 (by simp; omega) (fun k e => hg2 k e)
        have hck3 := (hb3.cell (p := ⟨w.heap.size + 1, k, none⟩) hw1).trans ((hb2.cell (p := ⟨w.heap.size + 1, k, none⟩) hw1).symm.trans hck2)
        obtain ⟨g3, cap3, rfl, hg3⟩ := own_shape hown3 hnil3
        have hsz3 := hb3.size
        clear hown2 hgrow3 hnil3 hck2 hb2 hsz2 hg2
        go_wp2_with (at_builtin; refine Lib.wpList_append_own_string _ rfl (.tmp 31) (.tmp 32) 125 9 rfl W0.heap.size 5 i0 Tryz.underlying125 Tryz.underlying9 hi hz0 hz1 hz2 _ (J.length + d.length + 1) _ rfl hown3 ⟨s.toArray⟩ rfl ?_ ?_ ?_ ?_)
        · have := HI.out; show J.length + d.length + 1 + s.length ≤ _; unfold maxLen; omega
        · have := HI.out; show J.length + d.length + 1 + s.length ≤ _; omega
        · exact hsz3
        intro v4 w4 hown4 hgrow4 hnil4
        have hb4 := hb3.grown hgrow4 hsz3 (fun k e => by cases e; exact hg3)
        clear hown3 hgrow4 hnil4 hck3 hb3 hsz3
        have e1 : J.length + d.length + 1 + s.length = (J ++ Dg.item s).length := by rw [HIT.out]; simp; omega
        have e2 : Lib.byteCells J ++ Lib.byteCells d ++ [Value.int .u8 58] ++ Lib.strCells ⟨s.toArray⟩ = Lib.byteCells (J ++ Dg.item s) := by
          rw [HIT.out, strCells_mk, byteCells_append, byteCells_append, byteCells_append]; simp [Lib.byteCells]
        have hown5 : w4.ownsRow W0.heap.size 5 1 v4 (Dg.joinL (ss.take (k + 1))).length (Lib.byteCells (Dg.joinL (ss.take (k + 1)))) := by
          rw [HJ.out, ← e1, ← e2]; simpa using hown4
        have HO5 := Lib.hid hown5
        clear e1 e2 hown4 hown5
        go_wp2_with fail
        go_roundw
        case rel => exact ⟨k + 1, by omega, by go_num, HO5.out, hb4⟩
        case measure => simp [intOf]; omega
      · obtain rfl : k = 5 := by omega
        rw [List.take_of_length_le (by omega)] at hown
        have hJp : 0 < (Dg.joinL ss).length := by
          match ss, hsl with
          | a :: r, _ => rw [Dg.joinL, List.length_append]; unfold Dg.item; simp; omega
        obtain ⟨g, cap, rfl, hg⟩ := own_shape hown (fun e => by rw [e] at hown; rcases hown.2 with ⟨_, h0⟩ | ⟨_, _, _, h0, _⟩; · omega
                                                                · cases h0)
        have hcv := run_convert_bytes_arg (P := Tryz.prog) (w := wr) 125 5 Tryz.underlying125 Tryz.underlying5 g 0 (Dg.joinL ss).length cap ((Dg.joinL ss).map fun c => ((c.toNat : Nat) : Int)) (by simp) (fun i hi => by
          rw [Nat.zero_add, hown.cellAt i (by omega), byteCells_at _ _ hi])
        have HE := Lib.hid (strOfNums_bytes (Dg.joinL ss))
        clear hown
        go_wp2_with fail
        go_ret
        exact ⟨by rw [← hy.out]; exact congrArg (fun x => Ending.returned (Value.string x)) HE.out, HB0.out.trans (hb.mono hw0)⟩
end Go.Proofs.YteoclpjbeadkpaaGreatDoor
/- WALK: proof.Check. -/
namespace Go.Proofs.YteoclpjbeadkpaaGreatDoor.Pf
/-- A proof, apart from where its path lies. -/
structure Pr where
  count : Int
  index : Int
  item : Co.It
  path : List (List UInt8)
def checkL (root : List UInt8) (p : Pr) : Bool := (p.item.kind == 2 || p.item.kind == 1) && p.item.number.isEmpty && !p.item.gone && Tr.checkL root p.count p.index (Co.leafL p.item) p.path
end Go.Proofs.YteoclpjbeadkpaaGreatDoor.Pf
namespace Go.Proofs.YteoclpjbeadkpaaGreatDoor
open Go.RowKit Go.Shelf

def prV (p : Pf.Pr) (pv : Value) : Value := .agg #[.int .i64 p.count, .int .i64 p.index, .int .i64 p.item.kind, .string ⟨p.item.id.toArray⟩, .string ⟨p.item.parent.toArray⟩, .string ⟨p.item.number.toArray⟩, .string ⟨p.item.north.toArray⟩, .string ⟨p.item.south.toArray⟩, .bool p.item.gone, pv]
def PrOk (p : Pf.Pr) : Prop := TxtOk p.item ∧ Mod p.path ∧ p.path.length ≤ 8796093022207 ∧ -9223372036854775808 ≤ p.count ∧ p.count ≤ 9223372036854775807 ∧ -9223372036854775808 ≤ p.index ∧ p.index ≤ 9223372036854775807

abbrev ChS (w : World) (p : Pf.Pr) (pa : Option Addr) (pc : Nat) (kd : Int) (id parent number north south : List UInt8) (gone : Bool) (Y : World) : Prop := Y.cell? ⟨w.heap.size, 0, none⟩ = some (.int .i64 p.count) ∧ Y.cell? ⟨w.heap.size, 1, none⟩ = some (.int .i64 p.index) ∧ Y.cell? ⟨w.heap.size, 9, none⟩ = some (.slice pa p.path.length pc) ∧ Y.cell? ⟨w.heap.size + 1, 0, none⟩ = some (.int .i64 kd) ∧ Y.cell? ⟨w.heap.size + 1, 1, none⟩ = some (.string ⟨id.toArray⟩) ∧ Y.cell? ⟨w.heap.size + 1, 2, none⟩ = some (.string ⟨parent.toArray⟩) ∧ Y.cell? ⟨w.heap.size + 1, 3, none⟩ = some (.string ⟨number.toArray⟩) ∧ Y.cell? ⟨w.heap.size + 1, 4, none⟩ = some (.string ⟨north.toArray⟩) ∧ Y.cell? ⟨w.heap.size + 1, 5, none⟩ = some (.string ⟨south.toArray⟩) ∧ Y.cell? ⟨w.heap.size + 1, 6, none⟩ = some (.bool gone) ∧ Below w.heap.size w Y ∧ w.heap.size + 1 < Y.heap.size
theorem ChS.next {w : World} {p : Pf.Pr} {pa : Option Addr} {pc : Nat} {kd : Int} {id parent number north south : List UInt8} {gone : Bool} {A B : World} (h : ChS w p pa pc kd id parent number north south gone A) (c : Below A.heap.size A B) : ChS w p pa pc kd id parent number north south gone B := by
  obtain ⟨h0, h1, h2, h3, h4, h5, h6, h7, h8, h9, hb, hl⟩ := h
  have l0 : w.heap.size < A.heap.size := by omega
  exact ⟨(c.cell (p := ⟨w.heap.size, 0, none⟩) l0).trans h0, (c.cell (p := ⟨w.heap.size, 1, none⟩) l0).trans h1, (c.cell (p := ⟨w.heap.size, 9, none⟩) l0).trans h2,
    (c.cell (p := ⟨w.heap.size + 1, 0, none⟩) hl).trans h3, (c.cell (p := ⟨w.heap.size + 1, 1, none⟩) hl).trans h4, (c.cell (p := ⟨w.heap.size + 1, 2, none⟩) hl).trans h5, (c.cell (p := ⟨w.heap.size + 1, 3, none⟩) hl).trans h6, (c.cell (p := ⟨w.heap.size + 1, 4, none⟩) hl).trans h7, (c.cell (p := ⟨w.heap.size + 1, 5, none⟩) hl).trans h8, (c.cell (p := ⟨w.heap.size + 1, 6, none⟩) hl).trans h9, below_next hb c, Nat.lt_of_lt_of_le hl c.size⟩

set_option maxHeartbeats 8000000 in
set_option maxRecDepth 100000 in
theorem checkP_any (root : List UInt8) (p : Pf.Pr) (pv : Value) (b : Bool) (w : World) (ht : Tab w) (hv : HasStrsC w pv p.path) (hok : PrOk p) (hb : Hid (Pf.checkL root p = b)) :
    Calls Tryz.prog 17 #[.string ⟨root.toArray⟩, prV p pv] w fun e w' => e = .returned (.bool b) ∧ Below w.heap.size w w' := by
  obtain ⟨pa, pc, rfl⟩ := hv.1.shape
  obtain ⟨y, hy⟩ : ∃ y, Hid (Co.leafL p.item = y) := ⟨_, rfl⟩
  have hyl : y.length ≤ 35184372088832 := by rw [← hy.out]; exact Nat.le_trans (leaf_small2 _ hok.1) (by decide)
  have CL : Hid (∀ A, Below w.heap.size w A → Calls Tryz.prog 50 #[itV p.item] A fun e w' => e = .returned (.string ⟨y.toArray⟩) ∧ Below A.heap.size A w') := fun A hA => leafP_any p.item y A (ht.below hA (Nat.le_refl _)) hok.1 hy
  have CT : Hid (∀ A, Below w.heap.size w A → Calls Tryz.prog 49 #[.string ⟨root.toArray⟩, .int .i64 p.count, .int .i64 p.index, .string ⟨y.toArray⟩, .slice pa p.path.length pc] A fun e w' => e = .returned (.bool (Tr.checkL root p.count p.index y p.path)) ∧ Below A.heap.size A w') :=
    fun A hA => check_any root y p.count p.index p.path _ A (ht.below hA (Nat.le_refl _)) (hv.below hA (Nat.le_refl _)) hok.2.1 hok.2.2.1 hyl hok.2.2.2.1 hok.2.2.2.2.1 hok.2.2.2.2.2.1 hok.2.2.2.2.2.2
  have HB : Hid (((p.item.kind == 2 || p.item.kind == 1) && p.item.number.isEmpty && !p.item.gone && Tr.checkL root p.count p.index y p.path) = b) := by
    unfold Hid; rw [← hb.out, ← hy.out]; rfl
  clear hyl hy hb ht hv hok
  unfold prV
  unfold itV at CL
  obtain ⟨kd, hkd⟩ : ∃ x, p.item.kind = x := ⟨_, rfl⟩
  obtain ⟨id, hid⟩ : ∃ x, p.item.id = x := ⟨_, rfl⟩
  obtain ⟨parent, hpa⟩ : ∃ x, p.item.parent = x := ⟨_, rfl⟩
  obtain ⟨number, hnu⟩ : ∃ x, p.item.number = x := ⟨_, rfl⟩
  obtain ⟨north, hno⟩ : ∃ x, p.item.north = x := ⟨_, rfl⟩
  obtain ⟨south, hso⟩ : ∃ x, p.item.south = x := ⟨_, rfl⟩
  obtain ⟨gone, hgo⟩ : ∃ x, p.item.gone = x := ⟨_, rfl⟩
  rw [hkd, hid, hpa, hnu, hno, hso, hgo] at CL ⊢
  rw [hkd, hnu, hgo] at HB
  clear hkd hid hpa hnu hno hso hgo
  have HN : Hid (∀ A, (A = (w.alloc (.cells #[.int .i64 p.count, .int .i64 p.index, .int .i64 kd, .string ⟨id.toArray⟩, .string ⟨parent.toArray⟩, .string ⟨number.toArray⟩, .string ⟨north.toArray⟩, .string ⟨south.toArray⟩, .bool gone, .slice pa p.path.length pc] 29)).alloc (.cells #[.int .i64 kd, .string ⟨id.toArray⟩, .string ⟨parent.toArray⟩, .string ⟨number.toArray⟩, .string ⟨north.toArray⟩, .string ⟨south.toArray⟩, .bool gone] 26)) → ChS w p pa pc kd id parent number north south gone A) := by
    intro A hA
    subst hA
    have h1 := (heap_alloc_lt (w.alloc (.cells #[.int .i64 p.count, .int .i64 p.index, .int .i64 kd, .string ⟨id.toArray⟩, .string ⟨parent.toArray⟩, .string ⟨number.toArray⟩, .string ⟨north.toArray⟩, .string ⟨south.toArray⟩, .bool gone, .slice pa p.path.length pc] 29)) (.cells #[.int .i64 kd, .string ⟨id.toArray⟩, .string ⟨parent.toArray⟩, .string ⟨number.toArray⟩, .string ⟨north.toArray⟩, .string ⟨south.toArray⟩, .bool gone] 26) w.heap.size (by simp)).trans (heap_alloc_at w _)
    have h2 := heap_alloc_at (w.alloc (.cells #[.int .i64 p.count, .int .i64 p.index, .int .i64 kd, .string ⟨id.toArray⟩, .string ⟨parent.toArray⟩, .string ⟨number.toArray⟩, .string ⟨north.toArray⟩, .string ⟨south.toArray⟩, .bool gone, .slice pa p.path.length pc] 29)) (.cells #[.int .i64 kd, .string ⟨id.toArray⟩, .string ⟨parent.toArray⟩, .string ⟨number.toArray⟩, .string ⟨north.toArray⟩, .string ⟨south.toArray⟩, .bool gone] 26)
    rw [World.size_alloc] at h2
    exact ⟨cell_of_heap h1, cell_of_heap h1, cell_of_heap h1, cell_of_heap h2, cell_of_heap h2, cell_of_heap h2, cell_of_heap h2, cell_of_heap h2, cell_of_heap h2, cell_of_heap h2, ((Below.refl _ w).alloc (Nat.le_refl _) _).alloc (by simp) _, by simp⟩
  by_cases hk : kd = 2 ∨ kd = 1
  · cases number with
    | nil =>
      cases gone
      · rcases hk with rfl | rfl
        · skip
          have hv : Hid (b = Tr.checkL root p.count p.index y p.path) := by unfold Hid; rw [← HB.out]; rfl
          clear HB
          go_enter Tryz.func17, Tryz.ntmps17
          go_wp2_with fail
          have hS0 := HN.out _ rfl
          have hS1 := ChS.next hS0 (Below.refl _ _).drew
          go_region_held3 (fun Y => Y.cell? ⟨w.heap.size, 0, none⟩ = some (.int .i64 p.count) ∧ Y.cell? ⟨w.heap.size, 1, none⟩ = some (.int .i64 p.index) ∧ Y.cell? ⟨w.heap.size, 9, none⟩ = some (.slice pa p.path.length pc) ∧ Y.cell? ⟨w.heap.size + 1, 0, none⟩ = some (.int .i64 2) ∧ Y.cell? ⟨w.heap.size + 1, 1, none⟩ = some (.string ⟨id.toArray⟩) ∧ Y.cell? ⟨w.heap.size + 1, 2, none⟩ = some (.string ⟨parent.toArray⟩) ∧ Y.cell? ⟨w.heap.size + 1, 3, none⟩ = some (.string ⟨#[]⟩) ∧ Y.cell? ⟨w.heap.size + 1, 4, none⟩ = some (.string ⟨north.toArray⟩) ∧ Y.cell? ⟨w.heap.size + 1, 5, none⟩ = some (.string ⟨south.toArray⟩) ∧ Y.cell? ⟨w.heap.size + 1, 6, none⟩ = some (.bool false) ∧ Below w.heap.size w Y ∧ w.heap.size + 1 < Y.heap.size) (first | exact hS0 | exact hS1 | assumption) (first | (go_at_call 50; (with_reducible refine (CL.out _ (And.left (And.right (And.right (And.right (And.right (And.right (And.right (And.right (And.right (And.right (And.right (by assumption))))))))))))).mono ?_); rintro e w1 ⟨rfl, c1⟩; have hSa := ChS.next (by assumption) c1) | (go_at_call 49; (with_reducible refine (CT.out _ (And.left (And.right (And.right (And.right (And.right (And.right (And.right (And.right (And.right (And.right (And.right (by assumption))))))))))))).mono ?_); rintro e w2 ⟨rfl, c2⟩; have hSb := ChS.next (by assumption) c2))
          go_wp2_with fail
          go_ret
          exact ⟨by rw [hv.out]; rfl, hSb.2.2.2.2.2.2.2.2.2.2.1⟩
        · skip
          have hv : Hid (b = Tr.checkL root p.count p.index y p.path) := by unfold Hid; rw [← HB.out]; rfl
          clear HB
          go_enter Tryz.func17, Tryz.ntmps17
          go_wp2_with fail
          have hS0 := HN.out _ rfl
          have hS1 := ChS.next hS0 (Below.refl _ _).drew
          go_region_held3 (fun Y => Y.cell? ⟨w.heap.size, 0, none⟩ = some (.int .i64 p.count) ∧ Y.cell? ⟨w.heap.size, 1, none⟩ = some (.int .i64 p.index) ∧ Y.cell? ⟨w.heap.size, 9, none⟩ = some (.slice pa p.path.length pc) ∧ Y.cell? ⟨w.heap.size + 1, 0, none⟩ = some (.int .i64 1) ∧ Y.cell? ⟨w.heap.size + 1, 1, none⟩ = some (.string ⟨id.toArray⟩) ∧ Y.cell? ⟨w.heap.size + 1, 2, none⟩ = some (.string ⟨parent.toArray⟩) ∧ Y.cell? ⟨w.heap.size + 1, 3, none⟩ = some (.string ⟨#[]⟩) ∧ Y.cell? ⟨w.heap.size + 1, 4, none⟩ = some (.string ⟨north.toArray⟩) ∧ Y.cell? ⟨w.heap.size + 1, 5, none⟩ = some (.string ⟨south.toArray⟩) ∧ Y.cell? ⟨w.heap.size + 1, 6, none⟩ = some (.bool false) ∧ Below w.heap.size w Y ∧ w.heap.size + 1 < Y.heap.size) (first | exact hS0 | exact hS1 | assumption) (first | (go_at_call 50; (with_reducible refine (CL.out _ (And.left (And.right (And.right (And.right (And.right (And.right (And.right (And.right (And.right (And.right (And.right (by assumption))))))))))))).mono ?_); rintro e w1 ⟨rfl, c1⟩; have hSa := ChS.next (by assumption) c1) | (go_at_call 49; (with_reducible refine (CT.out _ (And.left (And.right (And.right (And.right (And.right (And.right (And.right (And.right (And.right (And.right (And.right (by assumption))))))))))))).mono ?_); rintro e w2 ⟨rfl, c2⟩; have hSb := ChS.next (by assumption) c2))
          go_wp2_with fail
          go_ret
          exact ⟨by rw [hv.out]; rfl, hSb.2.2.2.2.2.2.2.2.2.2.1⟩
      · rcases hk with rfl | rfl
        · skip
          have hv : Hid (b = false) := by unfold Hid; rw [← HB.out]; simp
          clear HB
          go_enter Tryz.func17, Tryz.ntmps17
          go_wp2_with fail
          have hS0 := HN.out _ rfl
          go_quiet (fail)
          go_wp2_with fail
          go_ret
          exact ⟨by rw [hv.out]; rfl, hS0.2.2.2.2.2.2.2.2.2.2.1.trans ⟨rfl, rfl, rfl, Nat.le_refl _, fun _ _ => rfl⟩⟩
        · skip
          have hv : Hid (b = false) := by unfold Hid; rw [← HB.out]; simp
          clear HB
          go_enter Tryz.func17, Tryz.ntmps17
          go_wp2_with fail
          have hS0 := HN.out _ rfl
          go_quiet (fail)
          go_wp2_with fail
          go_ret
          exact ⟨by rw [hv.out]; rfl, hS0.2.2.2.2.2.2.2.2.2.2.1.trans ⟨rfl, rfl, rfl, Nat.le_refl _, fun _ _ => rfl⟩⟩
    | cons c r =>
      have hne : (c :: r).isEmpty = false := rfl
      rcases hk with rfl | rfl
      · skip
        have hv : Hid (b = false) := by unfold Hid; rw [← HB.out]; simp
        clear HB
        go_enter Tryz.func17, Tryz.ntmps17
        go_wp2_with fail
        have hS0 := HN.out _ rfl
        go_quiet (fail)
        go_wp2_with fail
        go_ret
        exact ⟨by rw [hv.out]; rfl, hS0.2.2.2.2.2.2.2.2.2.2.1.trans ⟨rfl, rfl, rfl, Nat.le_refl _, fun _ _ => rfl⟩⟩
      · skip
        have hv : Hid (b = false) := by unfold Hid; rw [← HB.out]; simp
        clear HB
        go_enter Tryz.func17, Tryz.ntmps17
        go_wp2_with fail
        have hS0 := HN.out _ rfl
        go_quiet (fail)
        go_wp2_with fail
        go_ret
        exact ⟨by rw [hv.out]; rfl, hS0.2.2.2.2.2.2.2.2.2.2.1.trans ⟨rfl, rfl, rfl, Nat.le_refl _, fun _ _ => rfl⟩⟩
  · have hk2 : (kd == 2) = false := by rw [beq_eq_false_iff_ne]; omega
    have hk1 : (kd == 1) = false := by rw [beq_eq_false_iff_ne]; omega
    have hv : Hid (b = false) := by unfold Hid; rw [← HB.out, hk2, hk1]; simp
    clear HB hk
    go_enter Tryz.func17, Tryz.ntmps17
    go_wp2_with fail
    have hS0 := HN.out _ rfl
    go_quiet (fail)
    go_wp2_with fail
    go_ret
    exact ⟨by rw [hv.out]; rfl, hS0.2.2.2.2.2.2.2.2.2.2.1.trans ⟨rfl, rfl, rfl, Nat.le_refl _, fun _ _ => rfl⟩⟩
end Go.Proofs.YteoclpjbeadkpaaGreatDoor
/- WALKS: slices.IndexFunc over items, with proof.Make's closure. -/
namespace Go.Proofs.YteoclpjbeadkpaaGreatDoor.Pf
/-- The place of the first item with a name; -1 where there is none. -/
def idxIt (l : List Co.It) (id : List UInt8) : Int := if l.findIdx (fun x => x.id == id) < l.length then (l.findIdx (fun x => x.id == id) : Int) else -1
theorem idxIt_at (l : List Co.It) (id : List UInt8) (k : Nat) (h : k < l.length) (h1 : (l.take k).all (fun x => !(x.id == id)) = true) (h2 : ((l[k]).id == id) = true) : idxIt l id = (k : Int) := by
  have e : l.findIdx (fun x => x.id == id) = k := by
    rw [List.findIdx_eq h]
    refine ⟨h2, fun j hj => ?_⟩
    have hm : l[j]'(by omega) ∈ l.take k := by
      rw [List.mem_take_iff_getElem]
      exact ⟨j, by omega, rfl⟩
    have := List.all_eq_true.mp h1 _ hm
    simpa using this
  unfold idxIt
  rw [e, if_pos h]
theorem idxIt_none (l : List Co.It) (id : List UInt8) (h1 : l.all (fun x => !(x.id == id)) = true) : idxIt l id = -1 := by
  unfold idxIt
  rw [if_neg]
  rw [List.findIdx_lt_length]
  intro ⟨x, hx, h⟩
  have := List.all_eq_true.mp h1 x hx
  rw [h] at this; cases this
end Go.Proofs.YteoclpjbeadkpaaGreatDoor.Pf
namespace Go.Proofs.YteoclpjbeadkpaaGreatDoor
open Go.RowKit Go.Shelf

set_option maxHeartbeats 1000000 in
theorem make1_any (x : Co.It) (id : List UInt8) (ib : Nat) (b : Bool) (w : World) (hc : w.cell? ⟨ib, 0, none⟩ = some (.string ⟨id.toArray⟩)) (hl : ib < w.heap.size) (hb : Hid ((x.id == id) = b)) :
    Calls Tryz.prog 43 #[itV x, .pointer (some ⟨ib, 0, none⟩)] w fun e w' => e = .returned (.bool b) ∧ Below w.heap.size w w' := by
  unfold itV
  go_enter Tryz.func43, Tryz.ntmps43
  go_wp2_with fail
  go_ret
  exact ⟨by rw [← hb.out]; rfl, (Below.refl _ _).alloc (Nat.le_refl _) _⟩

set_option maxHeartbeats 2000000 in
theorem idxIt_any (l : List Co.It) (v : Value) (id : List UInt8) (ib : Nat) (w : World) (hv : HasIts w v l) (hn : l.length ≤ 100000) (hc : w.cell? ⟨ib, 0, none⟩ = some (.string ⟨id.toArray⟩)) (hl : ib < w.heap.size) :
    Calls Tryz.prog 42 #[v, .func (.func 43) #[] #[.pointer (some ⟨ib, 0, none⟩)]] w fun e w' => e = .returned (.int .i64 (Pf.idxIt l id)) ∧ Below w.heap.size w w' := by
  obtain ⟨r, hr⟩ : ∃ r, Hid (Pf.idxIt l id = r) := ⟨_, rfl⟩
  rw [hr.out]
  rcases hv with ⟨rfl, a, c, rfl⟩ | ⟨h0, b, off, c, rfl, hlt, hit⟩
  · go_enter Tryz.func42, Tryz.ntmps42
    go_wp2_with fail
    refine wp_loop_rounds 1 ?_
    rw [rounds_succ]
    go_wp2_with fail
    go_ret
    exact ⟨by rw [← hr.out]; rfl, Below.refl _ _⟩
  · have HI := Lib.hid hit
    have HC := Lib.hid hc
    clear hit hc
    go_enter Tryz.func42, Tryz.ntmps42
    go_wp2_with fail
    go_loopw [8] (fun i wr => ∃ k : Nat, k ≤ l.length ∧ i = .int .i64 k ∧ Hid ((l.take k).all (fun x => !(x.id == id)) = true) ∧ Below w.heap.size w wr) (fun i _ => l.length - (intOf i).toNat)
    case atStart => exact ⟨0, by omega, rfl, rfl, Below.refl _ _⟩
    case round =>
      obtain ⟨k, hk, rfl, hall, hb⟩ := hrel
      by_cases hkl : k < l.length
      · have hx := (HI.out k hkl).below hb hlt
        have hstep : Hid (((l[k]).id == id) = false → (l.take (k + 1)).all (fun x => !(x.id == id)) = true) := fun h => by
          rw [List.take_succ_eq_append_getElem hkl, List.all_append, hall.out]
          simp [h]
        have hfin : Hid (((l[k]).id == id) = true → r = (k : Int)) := fun h => by rw [← hr.out]; exact Pf.idxIt_at l id k hkl hall.out h
        obtain ⟨x, hxe⟩ : ∃ x, Hid (l[k] = x) := ⟨l[k], (rfl : l[k] = l[k])⟩
        rw [hxe.out] at hx hstep hfin
        simp only [ItAt] at hx
        obtain ⟨f0, f1, f2, f3, f4, f5, f6⟩ := hx
        have hsz := hb.size
        obtain ⟨q, hq⟩ : ∃ q, Hid ((x.id == id) = q) := ⟨_, rfl⟩
        rw [hq.out] at hstep hfin
        have CM := Lib.hid (make1_any x id ib q wr ((hb.cell (p := ⟨ib, 0, none⟩) hl).trans HC.out) (by omega) hq)
        unfold itV at CM
        go_wp2_with fail
        refine CM.out.mono ?_
        rintro e w1 ⟨rfl, c1⟩
        have hb2 := hb.trans (c1.mono hsz)
        clear hb c1 f0 f1 f2 f3 f4 f5 f6 CM
        cases q
        · go_wp2_with fail
          go_roundw
          case rel => exact ⟨k + 1, by omega, by go_num, hstep.out (by first | rfl | trivial), hb2⟩
          case measure => simp [intOf]; omega
        · go_wp2_with fail
          go_ret
          exact ⟨by rw [hfin.out (by first | rfl | trivial)]; rfl, hb2⟩
      · obtain rfl : k = l.length := by omega
        have he : Hid (r = -1) := by
          have h := hall.out
          rw [List.take_length] at h
          unfold Hid; rw [← hr.out]; exact Pf.idxIt_none l id h
        clear hall
        go_wp2_with fail
        go_ret
        exact ⟨by rw [he.out]; rfl, hb⟩
end Go.Proofs.YteoclpjbeadkpaaGreatDoor
/- WALK: proof.Make. -/
namespace Go.Proofs.YteoclpjbeadkpaaGreatDoor.Pf
def zeroIt : Co.It := ⟨0, [], [], [], [], [], false⟩
def zeroPr : Pr := ⟨0, 0, zeroIt, []⟩
/-- How many of the first k items are not gone. -/
def liveN (l : List Co.It) (k : Nat) : Nat := (Co.liveL (l.take k)).length
theorem liveN_step (l : List Co.It) (k : Nat) (h : k < l.length) : liveN l (k + 1) = if (l[k]).gone then liveN l k else liveN l k + 1 := by
  unfold liveN Co.liveL
  rw [List.take_succ_eq_append_getElem h, List.filter_append, List.length_append]
  cases hg : (l[k]).gone <;> simp [hg]
theorem liveN_le (l : List Co.It) (k : Nat) : liveN l k ≤ k := by
  unfold liveN Co.liveL
  exact Nat.le_trans (List.length_filter_le _ _) (by rw [List.length_take]; omega)
theorem liveN_lt (l : List Co.It) (k : Nat) (h : k < l.length) (hg : (l[k]).gone = false) : liveN l k < (Co.liveL l).length := by
  have e := liveN_step l k h
  rw [hg] at e
  have h2 : (Co.liveL (l.take (k + 1))).length ≤ (Co.liveL l).length := ((List.take_sublist _ _).filter _).length_le
  unfold liveN at e ⊢
  simp at e
  omega
theorem pathL_le (n : Nat) : ∀ (ls : List (List UInt8)) (i : Nat), ls.length = n → (Tr.pathL ls i).length ≤ n := by
  induction n using Nat.strongRecOn with
  | ind n ih =>
    intro ls i hn
    by_cases h : n ≤ 1
    · rw [Tr.pathL_short ls i (by omega)]; simp
    · have hb := Tr.half_bounds (n := n) (by omega)
      by_cases hi : i < Tr.half ls.length
      · rw [Tr.pathL_left ls i (by omega) hi, List.length_append, hn]
        have := ih (Tr.half n) (by omega) (ls.take (Tr.half n)) i (by rw [List.length_take]; omega)
        simp only [List.length_cons, List.length_nil]; omega
      · rw [Tr.pathL_right ls i (by omega) (by omega), List.length_append, hn]
        have := ih (n - Tr.half n) (by omega) (ls.drop (Tr.half n)) (i - Tr.half n) (by rw [List.length_drop]; omega)
        simp only [List.length_cons, List.length_nil]; omega
/-- What proof.Make answers: the proof and the error. -/
def makeL (l : List Co.It) (id : List UInt8) : Pr × Int :=
  if Co.validL l = false then (zeroPr, 1)
  else match l[l.findIdx (fun x => x.id == id)]? with
    | none => (zeroPr, 11)
    | some x => if x.gone then (zeroPr, 16) else (⟨(Co.leavesL l).length, liveN l (l.findIdx (fun x => x.id == id)), { x with number := [] }, Tr.pathL (Co.leavesL l) (liveN l (l.findIdx (fun x => x.id == id)))⟩, 0)
end Go.Proofs.YteoclpjbeadkpaaGreatDoor.Pf
namespace Go.Proofs.YteoclpjbeadkpaaGreatDoor
open Go.RowKit Go.Shelf

theorem set10 {w : World} {b : Nat} {a0 a1 a2 a3 a4 a5 a6 a7 a8 a9 v0 v1 v2 v3 v4 v5 v6 v7 v8 v9 : Value} {t : TypeId} (h : w.heap[b]? = some (.cells #[a0, a1, a2, a3, a4, a5, a6, a7, a8, a9] t (0, 0))) :
    ((((((((((w.setCell ⟨b, 0, none⟩ v0).setCell ⟨b, 1, none⟩ v1).setCell ⟨b, 2, none⟩ v2).setCell ⟨b, 3, none⟩ v3).setCell ⟨b, 4, none⟩ v4).setCell ⟨b, 5, none⟩ v5).setCell ⟨b, 6, none⟩ v6).setCell ⟨b, 7, none⟩ v7).setCell ⟨b, 8, none⟩ v8).setCell ⟨b, 9, none⟩ v9).heap[b]? = some (.cells #[v0, v1, v2, v3, v4, v5, v6, v7, v8, v9] t (0, 0)) := by
  simp [World.setCell, Array.getElem?_modify, h]
theorem below10 {w z : World} {b : Nat} {v0 v1 v2 v3 v4 v5 v6 v7 v8 v9 : Value} (h : Below w.heap.size w z) (hb : w.heap.size ≤ b) :
    Below w.heap.size w ((((((((((z.setCell ⟨b, 0, none⟩ v0).setCell ⟨b, 1, none⟩ v1).setCell ⟨b, 2, none⟩ v2).setCell ⟨b, 3, none⟩ v3).setCell ⟨b, 4, none⟩ v4).setCell ⟨b, 5, none⟩ v5).setCell ⟨b, 6, none⟩ v6).setCell ⟨b, 7, none⟩ v7).setCell ⟨b, 8, none⟩ v8).setCell ⟨b, 9, none⟩ v9) :=
  (((((((((h.setCell (p := ⟨b, 0, none⟩) hb _).setCell (p := ⟨b, 1, none⟩) hb _).setCell (p := ⟨b, 2, none⟩) hb _).setCell (p := ⟨b, 3, none⟩) hb _).setCell (p := ⟨b, 4, none⟩) hb _).setCell (p := ⟨b, 5, none⟩) hb _).setCell (p := ⟨b, 6, none⟩) hb _).setCell (p := ⟨b, 7, none⟩) hb _).setCell (p := ⟨b, 8, none⟩) hb _).setCell (p := ⟨b, 9, none⟩) hb _

/-- The three blocks of proof.Make's first variables. -/
def MkS (w : World) (v : Value) (id : List UInt8) (Z : World) : Prop :=
  Z.heap[w.heap.size]? = some (.cells #[v] 24 (0, 0)) ∧ Z.heap[w.heap.size + 1]? = some (.cells #[.string ⟨id.toArray⟩] 9 (0, 0)) ∧
  Z.heap[w.heap.size + 1 + 1]? = some (.cells #[.int .i64 0, .int .i64 0, .int .i64 0, .string ⟨#[]⟩, .string ⟨#[]⟩, .string ⟨#[]⟩, .string ⟨#[]⟩, .string ⟨#[]⟩, .bool false, .slice none 0 0] 29 (0, 0)) ∧ Below w.heap.size w Z
theorem MkS.next {w A B : World} {v : Value} {id : List UInt8} (h : MkS w v id A) (c : Below A.heap.size A B) : MkS w v id B := by
  obtain ⟨h1, h2, h3, h4⟩ := h
  exact ⟨(c.block _ (Array.getElem?_eq_some_iff.1 h1).1).trans h1, (c.block _ (Array.getElem?_eq_some_iff.1 h2).1).trans h2, (c.block _ (Array.getElem?_eq_some_iff.1 h3).1).trans h3, below_next h4 c⟩

theorem set10_0 {w : World} {b : Nat} {a0 a1 a2 a3 a4 a5 a6 a7 a8 a9 v : Value} {t : TypeId} (h : w.heap[b]? = some (.cells #[a0, a1, a2, a3, a4, a5, a6, a7, a8, a9] t (0, 0))) : (w.setCell ⟨b, 0, none⟩ v).heap[b]? = some (.cells #[v, a1, a2, a3, a4, a5, a6, a7, a8, a9] t (0, 0)) := by
  simp [World.setCell, Array.getElem?_modify, h]
theorem set10_1 {w : World} {b : Nat} {a0 a1 a2 a3 a4 a5 a6 a7 a8 a9 v : Value} {t : TypeId} (h : w.heap[b]? = some (.cells #[a0, a1, a2, a3, a4, a5, a6, a7, a8, a9] t (0, 0))) : (w.setCell ⟨b, 1, none⟩ v).heap[b]? = some (.cells #[a0, v, a2, a3, a4, a5, a6, a7, a8, a9] t (0, 0)) := by
  simp [World.setCell, Array.getElem?_modify, h]
theorem set10_5 {w : World} {b : Nat} {a0 a1 a2 a3 a4 a5 a6 a7 a8 a9 v : Value} {t : TypeId} (h : w.heap[b]? = some (.cells #[a0, a1, a2, a3, a4, a5, a6, a7, a8, a9] t (0, 0))) : (w.setCell ⟨b, 5, none⟩ v).heap[b]? = some (.cells #[a0, a1, a2, a3, a4, v, a6, a7, a8, a9] t (0, 0)) := by
  simp [World.setCell, Array.getElem?_modify, h]
theorem set10_9 {w : World} {b : Nat} {a0 a1 a2 a3 a4 a5 a6 a7 a8 a9 v : Value} {t : TypeId} (h : w.heap[b]? = some (.cells #[a0, a1, a2, a3, a4, a5, a6, a7, a8, a9] t (0, 0))) : (w.setCell ⟨b, 9, none⟩ v).heap[b]? = some (.cells #[a0, a1, a2, a3, a4, a5, a6, a7, a8, v] t (0, 0)) := by
  simp [World.setCell, Array.getElem?_modify, h]
theorem slc_items (b off n c k : Nat) (h : k ≤ c) (W : World) : (Instr.slice 22 (.slice (some ⟨b, off, none⟩) n c) none (some (.int .i64 (k : Int))) none).run Tryz.prog W = .ok (.slice (some ⟨b, off, none⟩) k c) W := by
  simp [go_sem, sliced, (by omega : (0 : Int) ≤ k), (by omega : (k : Int) ≤ c)]
theorem own10 {n₀ b : Nat} {z : World} {u : Value} {ss : List (List UInt8)} {v0 v1 v2 v3 v4 v5 v6 v7 v8 v9 : Value} (h : OwnS n₀ z u ss) (hb : b < n₀) :
    OwnS n₀ ((((((((((z.setCell ⟨b, 0, none⟩ v0).setCell ⟨b, 1, none⟩ v1).setCell ⟨b, 2, none⟩ v2).setCell ⟨b, 3, none⟩ v3).setCell ⟨b, 4, none⟩ v4).setCell ⟨b, 5, none⟩ v5).setCell ⟨b, 6, none⟩ v6).setCell ⟨b, 7, none⟩ v7).setCell ⟨b, 8, none⟩ v8).setCell ⟨b, 9, none⟩ v9) u ss := by
  have st : ∀ (k : Nat) (v : Value) (z : World), OwnS n₀ z u ss → OwnS n₀ (z.setCell ⟨b, k, none⟩ v) u ss := fun k v z h => World.ownsRow.kept h (grown_set z ⟨b, k, none⟩ v) (.inr (ownS_ne hb h).symm)
  exact st _ _ _ (st _ _ _ (st _ _ _ (st _ _ _ (st _ _ _ (st _ _ _ (st _ _ _ (st _ _ _ (st _ _ _ (st _ _ _ h)))))))))
theorem MkS.set {w A : World} {v : Value} {id : List UInt8} (h : MkS w v id A) {b : Nat} (hb : w.heap.size + 1 + 1 < b) (k : Nat) (u : Value) : MkS w v id (A.setCell ⟨b, k, none⟩ u) := by
  obtain ⟨h1, h2, h3, h4⟩ := h
  exact ⟨(Below.heap_setCell A ⟨b, k, none⟩ u _ (show w.heap.size ≠ b by omega)).trans h1, (Below.heap_setCell A ⟨b, k, none⟩ u _ (show w.heap.size + 1 ≠ b by omega)).trans h2, (Below.heap_setCell A ⟨b, k, none⟩ u _ (show w.heap.size + 1 + 1 ≠ b by omega)).trans h3, h4.setCell (p := ⟨b, k, none⟩) (by show w.heap.size ≤ b; omega) _⟩

set_option maxHeartbeats 8000000 in
set_option maxRecDepth 100000 in
theorem make_any (l : List Co.It) (v : Value) (id : List UInt8) (w : World) (ht : Tab w) (hv : HasIts w v l) (hcap : ∃ a c, v = .slice a l.length c ∧ l.length ≤ c) (hok : CodeOk2 l) :
    Calls Tryz.prog 14 #[.agg #[v], .string ⟨id.toArray⟩] w fun e w' => ∃ pv, e = .returned (.tuple #[prV (Pf.makeL l id).1 pv, .int .i64 (Pf.makeL l id).2]) ∧ HasStrsC w' pv (Pf.makeL l id).1.path ∧ Below w.heap.size w w' := by
  obtain ⟨vb, hvb⟩ : ∃ vb, Hid (Co.validL l = vb) := ⟨_, rfl⟩
  obtain ⟨r, hr⟩ : ∃ r, Hid (Pf.makeL l id = r) := ⟨_, rfl⟩
  rw [hr.out]
  have hML := hr.out
  unfold Pf.makeL at hML
  rw [hvb.out] at hML
  have HR := Lib.hid hML
  clear hML hr
  have CV : Hid (∀ A, Below w.heap.size w A → Calls Tryz.prog 31 #[.agg #[v]] A fun e w' => e = .returned (.bool vb) ∧ Below A.heap.size A w') := fun A hA => valid_any l v A (hv.below hA (Nat.le_refl _)) hok.1 vb hvb
  have CI : Hid (∀ A, MkS w v id A → Calls Tryz.prog 42 #[v, .func (.func 43) #[] #[.pointer (some ⟨w.heap.size + 1, 0, none⟩)]] A fun e w' => e = .returned (.int .i64 (Pf.idxIt l id)) ∧ Below A.heap.size A w') := fun A hA => idxIt_any l v id (w.heap.size + 1) A (hv.below hA.2.2.2 (Nat.le_refl _)) hok.1.2 (cell_of_heap hA.2.1) (Array.getElem?_eq_some_iff.1 hA.2.1).1
  have CLv : Hid (∀ A, Below w.heap.size w A → Calls Tryz.prog 32 #[.agg #[v]] A fun e w' => ∃ u, e = .returned u ∧ OwnS A.heap.size w' u (Co.leavesL l) ∧ Below A.heap.size A w') := fun A hA => leaves_any l v A (ht.below hA (Nat.le_refl _)) (hv.below hA (Nat.le_refl _)) hok
  have HN : Hid (MkS w v id (((w.alloc (.cells #[v] 24)).alloc (.cells #[.string ⟨id.toArray⟩] 9)).alloc (.cells #[.int .i64 0, .int .i64 0, .int .i64 0, .string ⟨#[]⟩, .string ⟨#[]⟩, .string ⟨#[]⟩, .string ⟨#[]⟩, .string ⟨#[]⟩, .bool false, .slice none 0 0] 29))) := by
    refine ⟨(heap_alloc_lt _ _ _ (by simp; omega)).trans ((heap_alloc_lt _ _ _ (by simp)).trans (heap_alloc_at w _)), ?_, ?_, (((Below.refl _ w).alloc (Nat.le_refl _) _).alloc (by simp) _).alloc (by simp; omega) _⟩
    · have e := heap_alloc_at (w.alloc (.cells #[v] 24)) (.cells #[.string ⟨id.toArray⟩] 9)
      rw [World.size_alloc] at e
      exact (heap_alloc_lt _ _ _ (by simp)).trans e
    · have e := heap_alloc_at ((w.alloc (.cells #[v] 24)).alloc (.cells #[.string ⟨id.toArray⟩] 9)) (.cells #[.int .i64 0, .int .i64 0, .int .i64 0, .string ⟨#[]⟩, .string ⟨#[]⟩, .string ⟨#[]⟩, .string ⟨#[]⟩, .string ⟨#[]⟩, .bool false, .slice none 0 0] 29)
      rw [World.size_alloc, World.size_alloc] at e
      exact e
  obtain ⟨va, vc, hve, hcv⟩ := hcap
  have HV := Lib.hid hv
  clear hv
  subst hve
  go_enter Tryz.func14, Tryz.ntmps14
  go_wp2_with fail
  refine (CV.out _ HN.out.2.2.2).mono ?_
  rintro e w1 ⟨rfl, c1⟩
  have S1 := HN.out.next c1
  have HS1 := Lib.hid S1
  have k1 : w1.cell? ⟨w.heap.size, 0, none⟩ = some (.slice va l.length vc) := cell_of_heap S1.1
  clear c1
  cases vb
  · clear S1
    have hrv : Hid (r = (Pf.zeroPr, 1)) := by unfold Hid; rw [← HR.out]; rfl
    have zc0 := cell_of_heap (i := 0) HS1.out.2.2.1; have zc1 := cell_of_heap (i := 1) HS1.out.2.2.1; have zc2 := cell_of_heap (i := 2) HS1.out.2.2.1; have zc3 := cell_of_heap (i := 3) HS1.out.2.2.1; have zc4 := cell_of_heap (i := 4) HS1.out.2.2.1; have zc5 := cell_of_heap (i := 5) HS1.out.2.2.1; have zc6 := cell_of_heap (i := 6) HS1.out.2.2.1; have zc7 := cell_of_heap (i := 7) HS1.out.2.2.1; have zc8 := cell_of_heap (i := 8) HS1.out.2.2.1; have zc9 := cell_of_heap (i := 9) HS1.out.2.2.1
    have zf0 := free_of_heap (i := 0) HS1.out.2.2.1; have zf1 := free_of_heap (i := 1) HS1.out.2.2.1; have zf2 := free_of_heap (i := 2) HS1.out.2.2.1; have zf3 := free_of_heap (i := 3) HS1.out.2.2.1; have zf4 := free_of_heap (i := 4) HS1.out.2.2.1; have zf5 := free_of_heap (i := 5) HS1.out.2.2.1; have zf6 := free_of_heap (i := 6) HS1.out.2.2.1; have zf7 := free_of_heap (i := 7) HS1.out.2.2.1; have zf8 := free_of_heap (i := 8) HS1.out.2.2.1; have zf9 := free_of_heap (i := 9) HS1.out.2.2.1
    go_wp2_with fail
    have hz := set10 (b := w.heap.size + 1 + 1) (v0 := .int .i64 0) (v1 := .int .i64 0) (v2 := .int .i64 0) (v3 := .string ⟨#[]⟩) (v4 := .string ⟨#[]⟩) (v5 := .string ⟨#[]⟩) (v6 := .string ⟨#[]⟩) (v7 := .string ⟨#[]⟩) (v8 := .bool false) (v9 := .slice none 0 0) HS1.out.2.2.1
    have bz := below10 (b := w.heap.size + 1 + 1) (v0 := .int .i64 0) (v1 := .int .i64 0) (v2 := .int .i64 0) (v3 := .string ⟨#[]⟩) (v4 := .string ⟨#[]⟩) (v5 := .string ⟨#[]⟩) (v6 := .string ⟨#[]⟩) (v7 := .string ⟨#[]⟩) (v8 := .bool false) (v9 := .slice none 0 0) HS1.out.2.2.2 (by omega)
    obtain ⟨Z, hZ⟩ : ∃ Z, ((((((((((w1.setCell ⟨w.heap.size + 1 + 1, 0, none⟩ (.int .i64 0)).setCell ⟨w.heap.size + 1 + 1, 1, none⟩ (.int .i64 0)).setCell ⟨w.heap.size + 1 + 1, 2, none⟩ (.int .i64 0)).setCell ⟨w.heap.size + 1 + 1, 3, none⟩ (.string ⟨#[]⟩)).setCell ⟨w.heap.size + 1 + 1, 4, none⟩ (.string ⟨#[]⟩)).setCell ⟨w.heap.size + 1 + 1, 5, none⟩ (.string ⟨#[]⟩)).setCell ⟨w.heap.size + 1 + 1, 6, none⟩ (.string ⟨#[]⟩)).setCell ⟨w.heap.size + 1 + 1, 7, none⟩ (.string ⟨#[]⟩)).setCell ⟨w.heap.size + 1 + 1, 8, none⟩ (.bool false)).setCell ⟨w.heap.size + 1 + 1, 9, none⟩ (.slice none 0 0)) = Z := ⟨_, rfl⟩
    rw [hZ] at hz bz ⊢
    clear hZ zc0 zc1 zc2 zc3 zc4 zc5 zc6 zc7 zc8 zc9 zf0 zf1 zf2 zf3 zf4 zf5 zf6 zf7 zf8 zf9
    have yc0 := cell_of_heap (i := 0) hz; have yc1 := cell_of_heap (i := 1) hz; have yc2 := cell_of_heap (i := 2) hz; have yc3 := cell_of_heap (i := 3) hz; have yc4 := cell_of_heap (i := 4) hz; have yc5 := cell_of_heap (i := 5) hz; have yc6 := cell_of_heap (i := 6) hz; have yc7 := cell_of_heap (i := 7) hz; have yc8 := cell_of_heap (i := 8) hz; have yc9 := cell_of_heap (i := 9) hz
    have hZS : Z.heap.size = Z.heap.size := rfl
    have hstr : HasStrsC Z (.slice none 0 0) [] := ⟨Or.inl ⟨rfl, none, 0, rfl⟩, none, 0, rfl, Nat.le_refl _, by decide⟩
    refine bodyPost_ret (v := .tuple #[prV Pf.zeroPr (.slice none 0 0), .int .i64 1]) ?_ rfl ⟨.slice none 0 0, by rw [hrv.out], by rw [hrv.out]; exact hstr, bz⟩
    simp [results, Tryz.f14, go_sem, prV, Pf.zeroPr, Pf.zeroIt, yc0, yc1, yc2, yc3, yc4, yc5, yc6, yc7, yc8, yc9]
  · clear k1
    have k1 : w1.cell? ⟨w.heap.size, 0, none⟩ = some (.slice va l.length vc) := cell_of_heap S1.1
    go_wp2_with fail
    refine (CI.out _ S1).mono ?_
    rintro e w2 ⟨rfl, c2⟩
    have S2 := S1.next c2
    have HS2 := Lib.hid S2
    have k2 : w2.cell? ⟨w.heap.size, 0, none⟩ = some (.slice va l.length vc) := cell_of_heap S2.1
    clear S1 k1 c2
    by_cases hat : l.findIdx (fun x => x.id == id) < l.length
    · have hix : Pf.idxIt l id = (l.findIdx (fun x => x.id == id) : Int) := if_pos hat
      rw [hix]
      clear hix
      have HR2 := HR.out
      rw [if_neg (by decide), List.getElem?_eq_getElem hat] at HR2
      simp only at HR2
      obtain ⟨at_, hate⟩ : ∃ n, l.findIdx (fun x => x.id == id) = n := ⟨_, rfl⟩
      obtain ⟨x, hxe⟩ : ∃ x, l[l.findIdx (fun x => x.id == id)] = x := ⟨_, rfl⟩
      rw [hxe] at HR2
      have hx0 : ∀ h : at_ < l.length, l[at_] = x := fun h => by rw [← hxe]; congr 1; exact hate.symm
      rw [hate] at hat HR2 ⊢
      clear hxe hate
      have HX := Lib.hid hx0
      have HRX := Lib.hid HR2
      clear hx0 HR2
      rcases (HV.out.below S2.2.2.2 (Nat.le_refl _)) with ⟨e, _⟩ | ⟨_, b, off, c, e, hblt, hit⟩
      · rw [e] at hat; cases hat
      simp only [Value.slice.injEq, true_and] at e
      obtain ⟨rfl, rfl⟩ := e
      have hxi := hit at_ hat
      rw [HX.out hat] at hxi
      have HIT := Lib.hid hit
      simp only [ItAt] at hxi
      obtain ⟨f0, f1, f2, f3, f4, f5, f6⟩ := hxi
      have hin : (0 : Int) ≤ (at_ : Int) ∧ (at_ : Int) < (l.length : Int) := by omega
      clear hit S2
      cases hgn : x.gone
      · rw [hgn] at f6
        have hvd : Co.validL l = true := hvb.out
        have hlv : Co.leavesL l = (Co.liveL l).map Co.leafL := if_pos hvd
        have hiN : Pf.liveN l at_ < (Co.leavesL l).length := by
          rw [hlv, List.length_map]
          exact Pf.liveN_lt l at_ hat (by rw [HX.out hat]; exact hgn)
        have hmL : Mod (Co.leavesL l) := fun t ht2 => by
          rw [hlv] at ht2
          obtain ⟨y, hy, rfl⟩ := List.mem_map.mp ht2
          exact Nat.le_trans (leaf_small2 y (hok.2 y (List.mem_filter.mp hy).1)) (by decide)
        have hlL : (Co.leavesL l).length ≤ 100000 := by
          rw [hlv, List.length_map]
          exact Nat.le_trans (List.length_filter_le _ _) hok.1.2
        have CP : Hid (∀ u A, Below w.heap.size w A → HasStrsC A u (Co.leavesL l) → Calls Tryz.prog 44 #[u, .int .i64 (Pf.liveN l at_ : Int)] A fun e w' => ∃ u2, e = .returned (.tuple #[u2, .int .i64 0]) ∧ OwnS A.heap.size w' u2 (Tr.pathL (Co.leavesL l) (Pf.liveN l at_)) ∧ Below A.heap.size A w') :=
          fun u A hA hu => path_any (Co.leavesL l) u (Pf.liveN l at_) A (ht.below hA (Nat.le_refl _)) hu hmL hiN (by omega)
        have hsl := slc_items b off l.length vc at_ (by omega)
        have hLn : l.length ≤ 100000 := hok.1.2
        have HRV : Hid (r = (⟨(Co.leavesL l).length, Pf.liveN l at_, { x with number := [] }, Tr.pathL (Co.leavesL l) (Pf.liveN l at_)⟩, 0)) := by unfold Hid; rw [← HRX.out, hgn]; rfl
        have hp0 : (w2.alloc (.cells #[.int .i64 0, .int .i64 0, .int .i64 x.kind, .string ⟨x.id.toArray⟩, .string ⟨x.parent.toArray⟩, .string ⟨#[]⟩, .string ⟨x.north.toArray⟩, .string ⟨x.south.toArray⟩, .bool false, .slice none 0 0] 29)).heap[w2.heap.size]? = some (.cells #[.int .i64 0, .int .i64 0, .int .i64 x.kind, .string ⟨x.id.toArray⟩, .string ⟨x.parent.toArray⟩, .string ⟨#[]⟩, .string ⟨x.north.toArray⟩, .string ⟨x.south.toArray⟩, .bool false, .slice none 0 0] 29 (0, 0)) := by
          exact heap_alloc_at w2 _
        have b0 : Below w2.heap.size w2 (w2.alloc (.cells #[.int .i64 0, .int .i64 0, .int .i64 x.kind, .string ⟨x.id.toArray⟩, .string ⟨x.parent.toArray⟩, .string ⟨#[]⟩, .string ⟨x.north.toArray⟩, .string ⟨x.south.toArray⟩, .bool false, .slice none 0 0] 29)) := (Below.refl _ w2).alloc (Nat.le_refl _) _
        have hpb2 : w.heap.size + 1 + 1 < w2.heap.size := (Array.getElem?_eq_some_iff.1 HS2.out.2.2.1).1
        have kk : (w2.alloc (.cells #[.int .i64 0, .int .i64 0, .int .i64 x.kind, .string ⟨x.id.toArray⟩, .string ⟨x.parent.toArray⟩, .string ⟨#[]⟩, .string ⟨x.north.toArray⟩, .string ⟨x.south.toArray⟩, .bool false, .slice none 0 0] 29)).cell? ⟨w.heap.size, 0, none⟩ = some (.slice (some ⟨b, off, none⟩) l.length vc) := cell_of_heap (HS2.out.next ((Below.refl _ w2).alloc (Nat.le_refl _) _)).1
        have HP0 := Lib.hid (And.intro hp0 b0)
        clear hp0 b0 hmL hlv hvd CV CI
        go_wp2_with fail
        obtain ⟨W0, hW0⟩ : ∃ W0, w2.alloc (.cells #[.int .i64 0, .int .i64 0, .int .i64 x.kind, .string ⟨x.id.toArray⟩, .string ⟨x.parent.toArray⟩, .string ⟨#[]⟩, .string ⟨x.north.toArray⟩, .string ⟨x.south.toArray⟩, .bool false, .slice none 0 0] 29) = W0 := ⟨_, rfl⟩
        have HP1 := HP0.out
        rw [hW0] at HP1 ⊢
        clear hW0 HP0
        go_loopw [44] (fun i wr => ∃ (k : Nat), k ≤ at_ ∧ i = .int .i64 (k : Int) ∧ wr.heap[w2.heap.size]? = some (.cells #[.int .i64 0, .int .i64 (Pf.liveN l k : Int), .int .i64 x.kind, .string ⟨x.id.toArray⟩, .string ⟨x.parent.toArray⟩, .string ⟨#[]⟩, .string ⟨x.north.toArray⟩, .string ⟨x.south.toArray⟩, .bool false, .slice none 0 0] 29 (0, 0)) ∧ Below w2.heap.size w2 wr) (fun i _ => at_ - (intOf i).toNat)
        case atStart => exact ⟨0, by omega, rfl, HP1.1, HP1.2⟩
        case round =>
          clear HP1
          obtain ⟨k, hk, rfl, hp, hb⟩ := hrel
          have hsz := hb.size
          have hpl : w2.heap.size < wr.heap.size := (Array.getElem?_eq_some_iff.1 hp).1
          have HB := Lib.hid hb
          by_cases hkl : k < at_
          · have hy := (HIT.out k (by omega)).below hb hblt
            obtain ⟨y, hye⟩ : ∃ y, l[k] = y := ⟨_, rfl⟩
            have hln := Pf.liveN_step l k (by omega)
            rw [hye] at hy hln
            simp only [ItAt] at hy
            obtain ⟨g0, g1, g2, g3, g4, g5, g6⟩ := hy
            have hki : (0 : Int) ≤ (k : Int) ∧ (k : Int) < (at_ : Int) := by omega
            have hnl : Pf.liveN l k ≤ k := Pf.liveN_le l k
            clear hye hb
            cases hyg : y.gone
            · rw [hyg] at g6 hln
              have HLN := Lib.hid hln
              clear hln
              obtain ⟨o, ho⟩ : ∃ o, o = Obj.cells #[.int .i64 y.kind, .string ⟨y.id.toArray⟩, .string ⟨y.parent.toArray⟩, .string ⟨y.number.toArray⟩, .string ⟨y.north.toArray⟩, .string ⟨y.south.toArray⟩, .bool false] 26 := ⟨_, rfl⟩
              have q1 := cell_of_heap (i := 1) hp
              have r1 := free_of_heap (i := 1) hp
              have hpA := (heap_alloc_lt wr o w2.heap.size hpl).trans hp
              have qA := cell_of_heap (i := 1) hpA
              have rA := free_of_heap (i := 1) hpA
              have hpS : ((wr.setCell ⟨w2.heap.size, 1, none⟩ (.int .i64 ((Pf.liveN l k : Int) + 1))).alloc o).heap[w2.heap.size]? = some (.cells #[.int .i64 0, .int .i64 ((Pf.liveN l k : Int) + 1), .int .i64 x.kind, .string ⟨x.id.toArray⟩, .string ⟨x.parent.toArray⟩, .string ⟨#[]⟩, .string ⟨x.north.toArray⟩, .string ⟨x.south.toArray⟩, .bool false, .slice none 0 0] 29 (0, 0)) := by
                exact (heap_alloc_lt _ o w2.heap.size (by simpa using hpl)).trans (set10_1 hp)
              have hbS : Below w2.heap.size w2 ((wr.setCell ⟨w2.heap.size, 1, none⟩ (.int .i64 ((Pf.liveN l k : Int) + 1))).alloc o) := (HB.out.setCell (p := ⟨w2.heap.size, 1, none⟩) (Nat.le_refl _) _).alloc (by simpa using hsz) o
              rw [ho] at qA rA hpS hbS
              have HPS := Lib.hid (And.intro hpS hbS)
              clear hpA hpS hbS ho hp
              go_wp2_with fail
              go_roundw
              case rel => exact ⟨k + 1, by omega, by go_num, by rw [HLN.out, if_neg Bool.false_ne_true, Int.natCast_add]; exact HPS.out.1, HPS.out.2⟩
              case measure => simp [intOf]; omega
            · rw [hyg] at g6 hln
              have HLN := Lib.hid hln
              have HP := Lib.hid hp
              clear hln hp
              go_wp2_with fail
              go_roundw
              case rel => exact ⟨k + 1, by omega, by go_num, by rw [HLN.out]; exact (heap_alloc_lt wr _ w2.heap.size hpl).trans HP.out, HB.out.alloc hsz _⟩
              case measure => simp [intOf]; omega
          · obtain rfl : k = at_ := by omega
            have SW := HS2.out.next hb
            have kW : wr.cell? ⟨w.heap.size, 0, none⟩ = some (.slice (some ⟨b, off, none⟩) l.length vc) := cell_of_heap SW.1
            have HP := Lib.hid hp
            have HSW := Lib.hid SW
            clear hb hp SW
            go_wp2_with fail
            refine (CLv.out _ HSW.out.2.2.2).mono ?_
            rintro e w3 ⟨u, rfl, hu, c3⟩
            obtain ⟨ua, uc, rfl⟩ := hu.shape
            have hp3 := (c3.block w2.heap.size hpl).trans HP.out
            have p30 := cell_of_heap (i := 0) hp3
            have p3f := free_of_heap (i := 0) hp3
            have S3 := HSW.out.next c3
            obtain ⟨w4, hw4⟩ : ∃ w4, w3.setCell ⟨w2.heap.size, 0, none⟩ (.int .i64 ((Co.leavesL l).length : Int)) = w4 := ⟨_, rfl⟩
            have hp4 : w4.heap[w2.heap.size]? = some (.cells #[.int .i64 ((Co.leavesL l).length : Int), .int .i64 (Pf.liveN l k : Int), .int .i64 x.kind, .string ⟨x.id.toArray⟩, .string ⟨x.parent.toArray⟩, .string ⟨#[]⟩, .string ⟨x.north.toArray⟩, .string ⟨x.south.toArray⟩, .bool false, .slice none 0 0] 29 (0, 0)) := by rw [← hw4]; exact set10_0 hp3
            have hown4 := World.ownsRow.kept hu (grown_set w3 ⟨w2.heap.size, 0, none⟩ (.int .i64 ((Co.leavesL l).length : Int))) (.inr (ownS_ne hpl hu).symm)
            have hpb3 : w.heap.size + 1 + 1 < w2.heap.size := (Array.getElem?_eq_some_iff.1 HS2.out.2.2.1).1
            have S4 : MkS w (.slice (some ⟨b, off, none⟩) l.length vc) id w4 := by rw [← hw4]; exact S3.set hpb3 _ _
            rw [hw4] at hown4
            have p41 : (w3.setCell ⟨w2.heap.size, 0, none⟩ (.int .i64 ((Co.leavesL l).length : Int))).cell? ⟨w2.heap.size, 1, none⟩ = some (.int .i64 (Pf.liveN l k : Int)) := by rw [hw4]; exact cell_of_heap hp4
            have hpl4 : w2.heap.size < w4.heap.size := (Array.getElem?_eq_some_iff.1 hp4).1
            have HALL := Lib.hid (And.intro hp4 (And.intro hown4 S4))
            have HW4 := Lib.hid hw4
            clear hu c3 hp3 S3 hp4 hown4 S4 hw4 kW
            go_wp2_with fail
            rw [HW4.out]
            refine (CP.out _ _ HALL.out.2.2.2.2.2 (OwnS.has (B := wr.heap.size) HALL.out.2.1 (by omega))).mono ?_
            rintro e w5 ⟨u2, rfl, hu2, c5⟩
            obtain ⟨pa, pc, rfl⟩ := hu2.shape
            have hp5 := (c5.block w2.heap.size hpl4).trans HALL.out.1
            have S5 := HALL.out.2.2.next c5
            have p59 := cell_of_heap (i := 9) hp5
            have p5f := free_of_heap (i := 9) hp5
            obtain ⟨np, hnp⟩ : ∃ n, (Tr.pathL (Co.leavesL l) (Pf.liveN l k)).length = n := ⟨_, rfl⟩
            have hnpl : np ≤ 140737488355328 := by rw [← hnp]; exact Nat.le_trans (Pf.pathL_le _ _ _ rfl) (Nat.le_trans hlL (by decide))
            rw [hnp]
            have hown6 := World.ownsRow.kept hu2 (grown_set w5 ⟨w2.heap.size, 9, none⟩ (.slice pa np pc)) (.inr (ownS_ne hpl4 hu2).symm)
            have hp6 : (w5.setCell ⟨w2.heap.size, 9, none⟩ (.slice pa np pc)).heap[w2.heap.size]? = some (.cells #[.int .i64 ((Co.leavesL l).length : Int), .int .i64 (Pf.liveN l k : Int), .int .i64 x.kind, .string ⟨x.id.toArray⟩, .string ⟨x.parent.toArray⟩, .string ⟨#[]⟩, .string ⟨x.north.toArray⟩, .string ⟨x.south.toArray⟩, .bool false, .slice pa np pc] 29 (0, 0)) := set10_9 hp5
            have S6 : MkS w (.slice (some ⟨b, off, none⟩) l.length vc) id (w5.setCell ⟨w2.heap.size, 9, none⟩ (.slice pa np pc)) := S5.set hpb3 _ _
            have HS6 := Lib.hid S6
            have HO6 := Lib.hid hown6
            have hb6 : w.heap.size + 1 + 1 < w4.heap.size := Nat.lt_trans hpb3 hpl4
            clear hu2 c5 S5 hp5 S6 hown6 HALL HW4 p30 p3f p41
            have xc0 := cell_of_heap (i := 0) hp6; have xc1 := cell_of_heap (i := 1) hp6; have xc2 := cell_of_heap (i := 2) hp6; have xc3 := cell_of_heap (i := 3) hp6; have xc4 := cell_of_heap (i := 4) hp6; have xc5 := cell_of_heap (i := 5) hp6; have xc6 := cell_of_heap (i := 6) hp6; have xc7 := cell_of_heap (i := 7) hp6; have xc8 := cell_of_heap (i := 8) hp6; have xc9 := cell_of_heap (i := 9) hp6
            clear hp6
            have zc0 := cell_of_heap (i := 0) HS6.out.2.2.1; have zc1 := cell_of_heap (i := 1) HS6.out.2.2.1; have zc2 := cell_of_heap (i := 2) HS6.out.2.2.1; have zc3 := cell_of_heap (i := 3) HS6.out.2.2.1; have zc4 := cell_of_heap (i := 4) HS6.out.2.2.1; have zc5 := cell_of_heap (i := 5) HS6.out.2.2.1; have zc6 := cell_of_heap (i := 6) HS6.out.2.2.1; have zc7 := cell_of_heap (i := 7) HS6.out.2.2.1; have zc8 := cell_of_heap (i := 8) HS6.out.2.2.1; have zc9 := cell_of_heap (i := 9) HS6.out.2.2.1
            have zf0 := free_of_heap (i := 0) HS6.out.2.2.1; have zf1 := free_of_heap (i := 1) HS6.out.2.2.1; have zf2 := free_of_heap (i := 2) HS6.out.2.2.1; have zf3 := free_of_heap (i := 3) HS6.out.2.2.1; have zf4 := free_of_heap (i := 4) HS6.out.2.2.1; have zf5 := free_of_heap (i := 5) HS6.out.2.2.1; have zf6 := free_of_heap (i := 6) HS6.out.2.2.1; have zf7 := free_of_heap (i := 7) HS6.out.2.2.1; have zf8 := free_of_heap (i := 8) HS6.out.2.2.1; have zf9 := free_of_heap (i := 9) HS6.out.2.2.1
            go_wp2_with fail
            have hz := set10 (b := w.heap.size + 1 + 1) (v0 := .int .i64 ((Co.leavesL l).length : Int)) (v1 := .int .i64 (Pf.liveN l k : Int)) (v2 := .int .i64 x.kind) (v3 := .string ⟨x.id.toArray⟩) (v4 := .string ⟨x.parent.toArray⟩) (v5 := .string ⟨#[]⟩) (v6 := .string ⟨x.north.toArray⟩) (v7 := .string ⟨x.south.toArray⟩) (v8 := .bool false) (v9 := .slice pa np pc) HS6.out.2.2.1
            have bz := below10 (b := w.heap.size + 1 + 1) (v0 := .int .i64 ((Co.leavesL l).length : Int)) (v1 := .int .i64 (Pf.liveN l k : Int)) (v2 := .int .i64 x.kind) (v3 := .string ⟨x.id.toArray⟩) (v4 := .string ⟨x.parent.toArray⟩) (v5 := .string ⟨#[]⟩) (v6 := .string ⟨x.north.toArray⟩) (v7 := .string ⟨x.south.toArray⟩) (v8 := .bool false) (v9 := .slice pa np pc) HS6.out.2.2.2 (by omega)
            obtain ⟨Z, hZ⟩ : ∃ Z, (((((((((((w5.setCell ⟨w2.heap.size, 9, none⟩ (.slice pa np pc)).setCell ⟨w.heap.size + 1 + 1, 0, none⟩ (.int .i64 ((Co.leavesL l).length : Int))).setCell ⟨w.heap.size + 1 + 1, 1, none⟩ (.int .i64 (Pf.liveN l k : Int))).setCell ⟨w.heap.size + 1 + 1, 2, none⟩ (.int .i64 x.kind)).setCell ⟨w.heap.size + 1 + 1, 3, none⟩ (.string ⟨x.id.toArray⟩)).setCell ⟨w.heap.size + 1 + 1, 4, none⟩ (.string ⟨x.parent.toArray⟩)).setCell ⟨w.heap.size + 1 + 1, 5, none⟩ (.string ⟨#[]⟩)).setCell ⟨w.heap.size + 1 + 1, 6, none⟩ (.string ⟨x.north.toArray⟩)).setCell ⟨w.heap.size + 1 + 1, 7, none⟩ (.string ⟨x.south.toArray⟩)).setCell ⟨w.heap.size + 1 + 1, 8, none⟩ (.bool false)).setCell ⟨w.heap.size + 1 + 1, 9, none⟩ (.slice pa np pc)) = Z := ⟨_, rfl⟩
            have HZ := Lib.hid hZ
            rw [hZ] at hz bz ⊢
            clear hZ zc0 zc1 zc2 zc3 zc4 zc5 zc6 zc7 zc8 zc9 zf0 zf1 zf2 zf3 zf4 zf5 zf6 zf7 zf8 zf9
            have yc0 := cell_of_heap (i := 0) hz; have yc1 := cell_of_heap (i := 1) hz; have yc2 := cell_of_heap (i := 2) hz; have yc3 := cell_of_heap (i := 3) hz; have yc4 := cell_of_heap (i := 4) hz; have yc5 := cell_of_heap (i := 5) hz; have yc6 := cell_of_heap (i := 6) hz; have yc7 := cell_of_heap (i := 7) hz; have yc8 := cell_of_heap (i := 8) hz; have yc9 := cell_of_heap (i := 9) hz
            have hZS : Z.heap.size = Z.heap.size := rfl
            have hstr : HasStrsC Z (.slice pa np pc) (Tr.pathL (Co.leavesL l) (Pf.liveN l k)) := by
              have ho := own10 (b := w.heap.size + 1 + 1) (v0 := .int .i64 ((Co.leavesL l).length : Int)) (v1 := .int .i64 (Pf.liveN l k : Int)) (v2 := .int .i64 x.kind) (v3 := .string ⟨x.id.toArray⟩) (v4 := .string ⟨x.parent.toArray⟩) (v5 := .string ⟨#[]⟩) (v6 := .string ⟨x.north.toArray⟩) (v7 := .string ⟨x.south.toArray⟩) (v8 := .bool false) (v9 := .slice pa np pc) HO6.out hb6
              rw [HZ.out] at ho
              rw [hnp] at ho
              exact OwnS.has (B := w4.heap.size) (hnp ▸ ho) (by rw [hnp]; exact hnpl)
            refine bodyPost_ret (v := .tuple #[prV ⟨(Co.leavesL l).length, Pf.liveN l k, { x with number := [] }, Tr.pathL (Co.leavesL l) (Pf.liveN l k)⟩ (.slice pa np pc), .int .i64 0]) ?_ rfl ⟨.slice pa np pc, by rw [HRV.out], by rw [HRV.out]; exact hstr, bz⟩
            simp [results, Tryz.f14, go_sem, prV, hgn, yc0, yc1, yc2, yc3, yc4, yc5, yc6, yc7, yc8, yc9]
      · rw [hgn] at f6
        have hrv : Hid (r = (Pf.zeroPr, 16)) := by unfold Hid; rw [← HRX.out, hgn]; rfl
        have zc0 := cell_of_heap (i := 0) HS2.out.2.2.1; have zc1 := cell_of_heap (i := 1) HS2.out.2.2.1; have zc2 := cell_of_heap (i := 2) HS2.out.2.2.1; have zc3 := cell_of_heap (i := 3) HS2.out.2.2.1; have zc4 := cell_of_heap (i := 4) HS2.out.2.2.1; have zc5 := cell_of_heap (i := 5) HS2.out.2.2.1; have zc6 := cell_of_heap (i := 6) HS2.out.2.2.1; have zc7 := cell_of_heap (i := 7) HS2.out.2.2.1; have zc8 := cell_of_heap (i := 8) HS2.out.2.2.1; have zc9 := cell_of_heap (i := 9) HS2.out.2.2.1
        have zf0 := free_of_heap (i := 0) HS2.out.2.2.1; have zf1 := free_of_heap (i := 1) HS2.out.2.2.1; have zf2 := free_of_heap (i := 2) HS2.out.2.2.1; have zf3 := free_of_heap (i := 3) HS2.out.2.2.1; have zf4 := free_of_heap (i := 4) HS2.out.2.2.1; have zf5 := free_of_heap (i := 5) HS2.out.2.2.1; have zf6 := free_of_heap (i := 6) HS2.out.2.2.1; have zf7 := free_of_heap (i := 7) HS2.out.2.2.1; have zf8 := free_of_heap (i := 8) HS2.out.2.2.1; have zf9 := free_of_heap (i := 9) HS2.out.2.2.1
        go_wp2_with fail
        have hz := set10 (b := w.heap.size + 1 + 1) (v0 := .int .i64 0) (v1 := .int .i64 0) (v2 := .int .i64 0) (v3 := .string ⟨#[]⟩) (v4 := .string ⟨#[]⟩) (v5 := .string ⟨#[]⟩) (v6 := .string ⟨#[]⟩) (v7 := .string ⟨#[]⟩) (v8 := .bool false) (v9 := .slice none 0 0) HS2.out.2.2.1
        have bz := below10 (b := w.heap.size + 1 + 1) (v0 := .int .i64 0) (v1 := .int .i64 0) (v2 := .int .i64 0) (v3 := .string ⟨#[]⟩) (v4 := .string ⟨#[]⟩) (v5 := .string ⟨#[]⟩) (v6 := .string ⟨#[]⟩) (v7 := .string ⟨#[]⟩) (v8 := .bool false) (v9 := .slice none 0 0) HS2.out.2.2.2 (by omega)
        obtain ⟨Z, hZ⟩ : ∃ Z, ((((((((((w2.setCell ⟨w.heap.size + 1 + 1, 0, none⟩ (.int .i64 0)).setCell ⟨w.heap.size + 1 + 1, 1, none⟩ (.int .i64 0)).setCell ⟨w.heap.size + 1 + 1, 2, none⟩ (.int .i64 0)).setCell ⟨w.heap.size + 1 + 1, 3, none⟩ (.string ⟨#[]⟩)).setCell ⟨w.heap.size + 1 + 1, 4, none⟩ (.string ⟨#[]⟩)).setCell ⟨w.heap.size + 1 + 1, 5, none⟩ (.string ⟨#[]⟩)).setCell ⟨w.heap.size + 1 + 1, 6, none⟩ (.string ⟨#[]⟩)).setCell ⟨w.heap.size + 1 + 1, 7, none⟩ (.string ⟨#[]⟩)).setCell ⟨w.heap.size + 1 + 1, 8, none⟩ (.bool false)).setCell ⟨w.heap.size + 1 + 1, 9, none⟩ (.slice none 0 0)) = Z := ⟨_, rfl⟩
        rw [hZ] at hz bz ⊢
        clear hZ zc0 zc1 zc2 zc3 zc4 zc5 zc6 zc7 zc8 zc9 zf0 zf1 zf2 zf3 zf4 zf5 zf6 zf7 zf8 zf9
        have yc0 := cell_of_heap (i := 0) hz; have yc1 := cell_of_heap (i := 1) hz; have yc2 := cell_of_heap (i := 2) hz; have yc3 := cell_of_heap (i := 3) hz; have yc4 := cell_of_heap (i := 4) hz; have yc5 := cell_of_heap (i := 5) hz; have yc6 := cell_of_heap (i := 6) hz; have yc7 := cell_of_heap (i := 7) hz; have yc8 := cell_of_heap (i := 8) hz; have yc9 := cell_of_heap (i := 9) hz
        have hZS : Z.heap.size = Z.heap.size := rfl
        have hstr : HasStrsC Z (.slice none 0 0) [] := ⟨Or.inl ⟨rfl, none, 0, rfl⟩, none, 0, rfl, Nat.le_refl _, by decide⟩
        refine bodyPost_ret (v := .tuple #[prV Pf.zeroPr (.slice none 0 0), .int .i64 16]) ?_ rfl ⟨.slice none 0 0, by rw [hrv.out], by rw [hrv.out]; exact hstr, bz⟩
        simp [results, Tryz.f14, go_sem, prV, Pf.zeroPr, Pf.zeroIt, yc0, yc1, yc2, yc3, yc4, yc5, yc6, yc7, yc8, yc9]
    · have hix : Pf.idxIt l id = -1 := if_neg hat
      rw [hix]
      clear hix
      have hrv : Hid (r = (Pf.zeroPr, 11)) := by unfold Hid; rw [← HR.out, if_neg (by decide), List.getElem?_eq_none (Nat.le_of_not_lt hat)]
      have zc0 := cell_of_heap (i := 0) HS2.out.2.2.1; have zc1 := cell_of_heap (i := 1) HS2.out.2.2.1; have zc2 := cell_of_heap (i := 2) HS2.out.2.2.1; have zc3 := cell_of_heap (i := 3) HS2.out.2.2.1; have zc4 := cell_of_heap (i := 4) HS2.out.2.2.1; have zc5 := cell_of_heap (i := 5) HS2.out.2.2.1; have zc6 := cell_of_heap (i := 6) HS2.out.2.2.1; have zc7 := cell_of_heap (i := 7) HS2.out.2.2.1; have zc8 := cell_of_heap (i := 8) HS2.out.2.2.1; have zc9 := cell_of_heap (i := 9) HS2.out.2.2.1
      have zf0 := free_of_heap (i := 0) HS2.out.2.2.1; have zf1 := free_of_heap (i := 1) HS2.out.2.2.1; have zf2 := free_of_heap (i := 2) HS2.out.2.2.1; have zf3 := free_of_heap (i := 3) HS2.out.2.2.1; have zf4 := free_of_heap (i := 4) HS2.out.2.2.1; have zf5 := free_of_heap (i := 5) HS2.out.2.2.1; have zf6 := free_of_heap (i := 6) HS2.out.2.2.1; have zf7 := free_of_heap (i := 7) HS2.out.2.2.1; have zf8 := free_of_heap (i := 8) HS2.out.2.2.1; have zf9 := free_of_heap (i := 9) HS2.out.2.2.1
      go_wp2_with fail
      have hz := set10 (b := w.heap.size + 1 + 1) (v0 := .int .i64 0) (v1 := .int .i64 0) (v2 := .int .i64 0) (v3 := .string ⟨#[]⟩) (v4 := .string ⟨#[]⟩) (v5 := .string ⟨#[]⟩) (v6 := .string ⟨#[]⟩) (v7 := .string ⟨#[]⟩) (v8 := .bool false) (v9 := .slice none 0 0) HS2.out.2.2.1
      have bz := below10 (b := w.heap.size + 1 + 1) (v0 := .int .i64 0) (v1 := .int .i64 0) (v2 := .int .i64 0) (v3 := .string ⟨#[]⟩) (v4 := .string ⟨#[]⟩) (v5 := .string ⟨#[]⟩) (v6 := .string ⟨#[]⟩) (v7 := .string ⟨#[]⟩) (v8 := .bool false) (v9 := .slice none 0 0) HS2.out.2.2.2 (by omega)
      obtain ⟨Z, hZ⟩ : ∃ Z, ((((((((((w2.setCell ⟨w.heap.size + 1 + 1, 0, none⟩ (.int .i64 0)).setCell ⟨w.heap.size + 1 + 1, 1, none⟩ (.int .i64 0)).setCell ⟨w.heap.size + 1 + 1, 2, none⟩ (.int .i64 0)).setCell ⟨w.heap.size + 1 + 1, 3, none⟩ (.string ⟨#[]⟩)).setCell ⟨w.heap.size + 1 + 1, 4, none⟩ (.string ⟨#[]⟩)).setCell ⟨w.heap.size + 1 + 1, 5, none⟩ (.string ⟨#[]⟩)).setCell ⟨w.heap.size + 1 + 1, 6, none⟩ (.string ⟨#[]⟩)).setCell ⟨w.heap.size + 1 + 1, 7, none⟩ (.string ⟨#[]⟩)).setCell ⟨w.heap.size + 1 + 1, 8, none⟩ (.bool false)).setCell ⟨w.heap.size + 1 + 1, 9, none⟩ (.slice none 0 0)) = Z := ⟨_, rfl⟩
      rw [hZ] at hz bz ⊢
      clear hZ zc0 zc1 zc2 zc3 zc4 zc5 zc6 zc7 zc8 zc9 zf0 zf1 zf2 zf3 zf4 zf5 zf6 zf7 zf8 zf9
      have yc0 := cell_of_heap (i := 0) hz; have yc1 := cell_of_heap (i := 1) hz; have yc2 := cell_of_heap (i := 2) hz; have yc3 := cell_of_heap (i := 3) hz; have yc4 := cell_of_heap (i := 4) hz; have yc5 := cell_of_heap (i := 5) hz; have yc6 := cell_of_heap (i := 6) hz; have yc7 := cell_of_heap (i := 7) hz; have yc8 := cell_of_heap (i := 8) hz; have yc9 := cell_of_heap (i := 9) hz
      have hZS : Z.heap.size = Z.heap.size := rfl
      have hstr : HasStrsC Z (.slice none 0 0) [] := ⟨Or.inl ⟨rfl, none, 0, rfl⟩, none, 0, rfl, Nat.le_refl _, by decide⟩
      refine bodyPost_ret (v := .tuple #[prV Pf.zeroPr (.slice none 0 0), .int .i64 11]) ?_ rfl ⟨.slice none 0 0, by rw [hrv.out], by rw [hrv.out]; exact hstr, bz⟩
      simp [results, Tryz.f14, go_sem, prV, Pf.zeroPr, Pf.zeroIt, yc0, yc1, yc2, yc3, yc4, yc5, yc6, yc7, yc8, yc9]
end Go.Proofs.YteoclpjbeadkpaaGreatDoor
