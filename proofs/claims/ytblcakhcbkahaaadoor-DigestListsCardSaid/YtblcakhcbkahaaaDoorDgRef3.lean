/- WALKS: the reference functions on lists of layer 1. -/
import Derived.Test.YtblcakhcbkahaaaDoorDgRef2
import Derived.Deep.QuietTactic
import Derived.BigQuiet
import Derived.Lib.AppendStr
namespace Go.Proofs.YtblcakhcbkahaaaDoor
open Go.RowKit

/-- at most 30 texts of at most some bytes -/
def fewL (ss : List (List UInt8)) (m : Nat) : Bool := ss.all (fun s => decide (s.length ≤ m)) && decide (ss.length ≤ 30)
theorem few_snoc (ss : List (List UInt8)) (m k : Nat) (h : k < ss.length) : (ss.take (k + 1)).all (fun s => decide (s.length ≤ m)) = ((ss.take k).all (fun s => decide (s.length ≤ m)) && decide ((ss.getD k []).length ≤ m)) := by
  rw [List.take_succ_eq_append_getElem h, List.all_append]
  simp [List.getD, List.getElem?_eq_getElem h]
theorem few_false (ss : List (List UInt8)) (m k : Nat) (h : k < ss.length) (h2 : m < (ss.getD k []).length) : fewL ss m = false := by
  unfold fewL
  have : ss.all (fun s => decide (s.length ≤ m)) = false := by
    rw [← List.take_append_drop (k + 1) ss, List.all_append, few_snoc ss m k h]
    have : decide ((ss.getD k []).length ≤ m) = false := by simpa using h2
    rw [this]; simp
  rw [this]; rfl

set_option maxHeartbeats 400000 in
theorem rfew_any (ss : List (List UInt8)) (m : Nat) (v : Value) (w : World) (hv : HasStrs w v ss) (hn : ss.length ≤ 140737488355328) (hs : ∀ j, j < ss.length → (ss.getD j []).length ≤ 9223372036854775807) :
    Calls Tryd.prog 11 #[v, .int .i64 (m : Int)] w fun e w' => e = .returned (.bool (fewL ss m)) ∧ w = w' := by
  rcases hv with ⟨rfl, a, c, rfl⟩ | ⟨h0, b, off, c, rfl, hlt, hc⟩
  · go_enter Tryd.func11, Tryd.ntmps11
    go_wp2_with fail
    refine wp_loop_rounds 1 ?_
    rw [rounds_succ]
    go_wp2_with fail
    go_ret
    exact ⟨rfl, rfl⟩
  · go_enter Tryd.func11, Tryd.ntmps11
    go_wp2_with fail
    go_loop [5] (fun i => ∃ k : Nat, k ≤ ss.length ∧ i = .int .i64 (k : Int) ∧ (ss.take k).all (fun s => decide (s.length ≤ m)) = true) (fun i => ss.length - (intOf i).toNat)
    case atStart => exact ⟨0, by omega, rfl, by simp⟩
    case round =>
      obtain ⟨k, hk, rfl, ha⟩ := hrel
      by_cases hkl : k < ss.length
      · have hck := hc k hkl
        have hsk := hs k hkl
        have hst := few_snoc ss m k hkl
        have hf := few_false ss m k hkl
        generalize ss.getD k [] = s at *
        rw [ha, Bool.true_and] at hst
        have HA := Lib.hid ha; clear ha hc hs
        by_cases hm2 : s.length ≤ m
        · have HS := Lib.hid hst; clear hst hf
          go_wp2_with fail
          go_round
          case rel => exact ⟨k + 1, by omega, by go_num, by rw [HS.out]; simpa using hm2⟩
          case measure => simp [intOf]; omega
        · have HF := Lib.hid (hf (by omega)); clear hst hf
          go_wp2_with fail
          go_ret
          exact ⟨by rw [HF.out]; rfl, rfl⟩
      · obtain rfl : k = ss.length := by omega
        rw [List.take_length] at ha
        have HL : Hid (fewL ss m = decide ((ss.length : Int) ≤ 30)) := by
          unfold Hid fewL; rw [ha, Bool.true_and]
          simp only [decide_eq_decide]; omega
        clear ha hc hs
        go_wp2_with fail
        go_ret
        exact ⟨by rw [HL.out]; rfl, rfl⟩

theorem HasStrs.shape {w : World} {v : Value} {ss : List (List UInt8)} (h : HasStrs w v ss) : ∃ a c, v = .slice a ss.length c := by
  rcases h with ⟨rfl, a, c, rfl⟩ | ⟨_, b, off, c, rfl, _⟩
  · exact ⟨a, c, rfl⟩
  · exact ⟨_, c, rfl⟩
theorem take_same {ss tt : List (List UInt8)} {k : Nat} {s : List UInt8} (h : ss.take k = tt.take k) (hl : ss.length = tt.length) (hk : k < ss.length) (h1 : ss.getD k [] = s) (h2 : tt.getD k [] = s) : ss.take (k + 1) = tt.take (k + 1) := by
  rw [List.take_succ_eq_append_getElem hk, List.take_succ_eq_append_getElem (by omega), h]
  simp only [List.getD, List.getElem?_eq_getElem hk, List.getElem?_eq_getElem (show k < tt.length by omega), Option.getD_some] at h1 h2
  rw [h1, h2]

set_option maxHeartbeats 400000 in
theorem rsame_any (ss tt : List (List UInt8)) (v u : Value) (w : World) (hv : HasStrs w v ss) (hu : HasStrs w u tt) (hn : ss.length ≤ 140737488355328) (hn2 : tt.length ≤ 140737488355328) :
    Calls Tryd.prog 21 #[v, u] w fun e w' => e = .returned (.bool (ss == tt)) ∧ ∃ q, w' = w.drewN q := by
  by_cases hl : ss.length = tt.length
  · rcases hv with ⟨rfl, a, c, rfl⟩ | ⟨h0, b, off, c, rfl, hlt, hc⟩
    · obtain ⟨a2, c2, rfl⟩ := hu.shape
      have htt : tt = [] := List.eq_nil_of_length_eq_zero (by rw [← hl]; rfl)
      subst htt
      clear hu hl hn hn2
      go_enter Tryd.func21, Tryd.ntmps21
      go_wp2_with fail
      refine wp_loop_rounds 1 ?_
      rw [rounds_succ]
      go_wp2_with fail
      go_ret
      exact ⟨rfl, 0, rfl⟩
    · rcases hu with ⟨rfl, a, c, rfl⟩ | ⟨h02, b2, off2, c2, rfl, hlt2, hc2⟩
      · rw [List.length_nil] at hl; omega
      · rw [← hl] at hc2 ⊢
        clear h02 hn2
        have HL := Lib.hid hl; clear hl
        go_enter Tryd.func21, Tryd.ntmps21
        go_wp2_with fail
        go_loopw [5] (fun i wr => ∃ k q : Nat, k ≤ ss.length ∧ i = .int .i64 (k : Int) ∧ wr = w.drewN q ∧ ss.take k = tt.take k) (fun i _ => ss.length - (intOf i).toNat)
        case atStart => exact ⟨0, 0, by omega, rfl, rfl, by simp⟩
        case round =>
          obtain ⟨k, q, hk, rfl, rfl, ha⟩ := hrel
          have HA := Lib.hid ha; clear ha
          by_cases hkl : k < ss.length
          · have hck := hc k hkl
            have hck2 := hc2 k hkl
            generalize hs : ss.getD k [] = s at *
            generalize ht : tt.getD k [] = t at *
            have HS := Lib.hid hs; have HT := Lib.hid ht; clear hs ht hc hc2
            go_wp2_with fail
            go_quiet (fail)
            by_cases hst : s = t
            · subst hst
              have hb : (!(s == s)) = false := by simp
              rw [hb]; clear hb
              go_wp2
              go_roundw
              case rel => exact ⟨k + 1, q + nq, by omega, by go_num, rfl, take_same HA.out HL.out hkl HS.out HT.out⟩
              case measure => simp [intOf]; omega
            · have hb : (!(s == t)) = true := by simpa using hst
              rw [hb]; clear hb
              have HF : Hid ((ss == tt) = false) := by
                unfold Hid
                rw [beq_eq_false_iff_ne]
                intro e
                rw [e, HT.out] at HS
                exact hst HS.out.symm
              go_wp2
              go_ret
              exact ⟨by rw [HF.out]; rfl, q + nq, World.drewN_drewN _ _ _⟩
          · obtain rfl : k = ss.length := by omega
            have HF : Hid ((ss == tt) = true) := by
              unfold Hid
              have h1 := HA.out
              rw [List.take_length, HL.out, List.take_length] at h1
              rw [h1, beq_self_eq_true]
            clear hc hc2
            go_wp2_with fail
            go_ret
            exact ⟨by rw [HF.out]; rfl, q, rfl⟩
  · have hb : ((ss.length : Int) != (tt.length : Int)) = true := by rw [bne_iff_ne]; omega
    have HF : Hid ((ss == tt) = false) := by
      unfold Hid
      rw [beq_eq_false_iff_ne]
      intro e; rw [e] at hl; exact hl rfl
    obtain ⟨a, c, rfl⟩ := hv.shape
    obtain ⟨a2, c2, rfl⟩ := hu.shape
    clear hv hu hl
    go_enter Tryd.func21, Tryd.ntmps21
    go_wp2_with fail
    go_ret
    exact ⟨by rw [HF.out]; rfl, 0, rfl⟩

def capL : List (List UInt8) → Nat
  | [] => 0
  | s :: r => s.length + 21 + capL r
theorem capL_snoc (ss : List (List UInt8)) (s : List UInt8) : capL (ss ++ [s]) = capL ss + (s.length + 21) := by
  induction ss with
  | nil => simp [capL]
  | cons x r ih => rw [List.cons_append, capL, ih, capL]; omega
theorem capL_take (ss : List (List UInt8)) (k : Nat) (h : k < ss.length) : capL (ss.take (k + 1)) = capL (ss.take k) + ((ss.getD k []).length + 21) := by
  rw [List.take_succ_eq_append_getElem h, capL_snoc]; simp [List.getD, List.getElem?_eq_getElem h]
theorem capL_take_le (ss : List (List UInt8)) (k : Nat) : capL (ss.take k) ≤ capL ss := by
  induction ss generalizing k with
  | nil => simp [capL]
  | cons x r ih =>
    cases k with
    | zero => simp [capL]
    | succ k => have := ih k; rw [List.take_succ_cons, capL, capL]; omega
theorem joinL_cap (ss : List (List UInt8)) : (Dg.joinL ss).length ≤ capL ss := by
  induction ss with
  | nil => simp [Dg.joinL, capL]
  | cons s r ih => have := Dg.item_length s; rw [Dg.joinL, List.length_append, capL]; omega
theorem capL_count (ss : List (List UInt8)) : ss.length ≤ capL ss := by
  induction ss with
  | nil => simp
  | cons s r ih => rw [capL, List.length_cons]; omega

theorem own_shape {w : World} {B : Nat} {e : TypeId} {v : Value} {n : Nat} {xs : List Value} (h : w.ownsRow B e 1 v n xs) (hv : v ≠ .slice none 0 0) : ∃ g cap, v = .slice (some ⟨g, 0, none⟩) n cap ∧ B ≤ g := by
  rcases h.2 with ⟨h', _⟩ | ⟨g, cap, cur, rfl, hg, _⟩
  · exact absurd h' hv
  · exact ⟨g, cap, rfl, hg⟩
theorem byteCells_at (l : List UInt8) (i : Nat) (h : i < l.length) : (Lib.byteCells l)[i]? = some (.int .u8 ((l.map fun c => ((c.toNat : Nat) : Int)).getD i 0)) := by
  simp [Lib.byteCells, h]

theorem info_u8 : (Tryd.prog.info? 5).map (fun i => (i.zero, i.size, i.bytes)) = some (some (.int .u8 0), 1, 1) := by kernel_rfl

set_option maxHeartbeats 1000000 in
set_option maxRecDepth 100000 in
theorem rjoined_any (ss : List (List UInt8)) (v : Value) (w : World) (hv : HasStrs w v ss) (hJ : capL ss ≤ 140737488355328) :
    Calls Tryd.prog 20 #[v] w fun e w' => e = .returned (.string ⟨(Dg.joinL ss).toArray⟩) ∧ Below w.heap.size w w' := by
  obtain ⟨i0, hi, hz0, hz1, hz2⟩ := info_parts info_u8
  have hn := Nat.le_trans (capL_count ss) hJ
  rcases hv with ⟨rfl, a, c, rfl⟩ | ⟨h0, b, off, c, rfl, hlt, hc⟩
  · go_enter Tryd.func20, Tryd.ntmps20
    go_wp2_with fail
    refine wp_loop_rounds 1 ?_
    rw [rounds_succ]
    go_wp2_with (at_make; refine wpList_make_own _ rfl _ _ 39 rfl w.heap.size 5 i0 (.int .u8 0) 1 Tryd.underlying39 hi hz0 hz1 .i64 .i64 0 0 rfl rfl rfl (by rw [hz2]; omega) (by unfold maxLen; omega) (Nat.le_refl _) ?_)
    intro w1 hown hgrow
    have hb := (Below.refl w.heap.size w).grown hgrow (Nat.le_refl _) (fun k h => by cases h)
    clear hgrow
    go_wp2_with fail
    refine wp_loop_rounds 1 ?_
    rw [rounds_succ]
    have hcv := run_convert_bytes_arg (P := Tryd.prog) (w := w1) 39 5 Tryd.underlying39 Tryd.underlying5 w.heap.size 0 0 0 [] rfl (fun i hi => by omega)
    go_wp2_with fail
    go_ret
    exact ⟨rfl, hb⟩
  · go_enter Tryd.func20, Tryd.ntmps20
    go_wp2_with fail
    go_loop [3, 4] (fun n i => ∃ k : Nat, k ≤ ss.length ∧ i = .int .i64 (k : Int) ∧ n = .int .i64 ((capL (ss.take k) : Nat) : Int)) (fun _ i => ss.length - (intOf i).toNat)
    case atStart => exact ⟨0, by omega, rfl, rfl⟩
    case round =>
      obtain ⟨k, hk, rfl, rfl⟩ := hrel
      by_cases hkl : k < ss.length
      · have hck := hc k hkl
        have hct := capL_take ss k hkl
        have hcl := capL_take_le ss (k + 1)
        rw [hct] at hcl
        generalize ss.getD k [] = s at *
        generalize capL (ss.take k) = m at *
        have HC := Lib.hid hct; clear hct hc
        clear hi hz0 hz1 hz2
        go_wp2_with fail
        go_round
        case rel => exact ⟨k + 1, by omega, by go_num, by rw [HC.out]; go_num⟩
        case measure => simp [intOf]; omega
      · obtain rfl : k = ss.length := by omega
        rw [List.take_length]
        go_wp2_with (at_make; refine wpList_make_own _ rfl _ _ 39 rfl w.heap.size 5 i0 (.int .u8 0) 1 Tryd.underlying39 hi hz0 hz1 .i64 .i64 (capL ss) (capL ss) rfl rfl rfl (by rw [hz2]; omega) (by unfold maxLen; omega) (Nat.le_refl _) ?_)
        intro w1 hown hgrow
        have hb := (Below.refl w.heap.size w).grown hgrow (Nat.le_refl _) (fun k h => by cases h)
        clear hgrow
        go_wp2_with fail
        go_loopw [5, 6] (fun v i wr => ∃ (k : Nat) (g cap : Nat), k ≤ ss.length ∧ i = .int .i64 (k : Int) ∧ v = .slice (some ⟨g, 0, none⟩) (Dg.joinL (ss.take k)).length cap ∧ w.heap.size ≤ g ∧ wr.ownsRow w.heap.size 5 1 v (Dg.joinL (ss.take k)).length (Lib.byteCells (Dg.joinL (ss.take k))) ∧ Below w.heap.size w wr) (fun _ i _ => ss.length - (intOf i).toNat)
        case atStart => exact ⟨0, w.heap.size, capL ss, by omega, rfl, rfl, Nat.le_refl _, hown, hb⟩
        case round =>
          obtain ⟨k, g, cap, hk2, rfl, rfl, hg, hown, hb⟩ := hrel
          clear hk hkl
          by_cases hkl : k < ss.length
          · have hck := (hb.cell (p := ⟨b, off + k, none⟩) hlt).trans (hc k hkl)
            have hj := joinL_take ss k hkl
            have hle := Nat.le_trans (joinL_take_le ss (k + 1)) (Nat.le_trans (joinL_cap ss) hJ)
            generalize ss.getD k [] = s at hck hj
            rw [hj, List.length_append] at hle
            have hil := Dg.item_length s
            have hit : (Dg.item s).length = (Dg.decN s.length).length + 1 + s.length := by unfold Dg.item; simp; omega
            have HJ := Lib.hid hj; clear hj hc
            generalize Dg.joinL (ss.take k) = J at *
            have hsz := hb.size
            go_wp2_with fail
            refine (rdecimal_any s.length (by omega) _).mono ?_
            rintro e w2 ⟨rfl, rfl⟩
            have hdl := Dg.decN_length s.length
            have HIT : Hid (Dg.item s = Dg.decN s.length ++ ([58] ++ s)) := rfl
            generalize Dg.decN s.length = d at hdl HIT hit ⊢
            have HI := Lib.hid hit; clear hit
            go_wp2_with (at_builtin; refine Lib.wpList_append_own_string _ rfl (.tmp 29) (.tmp 35) 39 9 rfl w.heap.size 5 i0 Tryd.underlying39 Tryd.underlying9 hi hz0 hz1 hz2 _ J.length _ rfl hown ⟨d.toArray⟩ rfl ?_ ?_ ?_ ?_)
            · have := HI.out; show J.length + d.length ≤ _; unfold maxLen; omega
            · have := HI.out; show J.length + d.length ≤ _; omega
            · exact hsz
            intro v2 w2 hown2 hgrow2 hnil2
            have hb2 := hb.grown hgrow2 hsz (fun k e => by cases e; exact hg)
            obtain ⟨g2, cap2, rfl, hg2⟩ := own_shape hown2 hnil2
            have hck2 := (hb2.cell (p := ⟨b, off + k, none⟩) hlt).trans ((hb.cell (p := ⟨b, off + k, none⟩) hlt).symm.trans hck)
            have hsz2 := hb2.size
            clear hown hgrow2 hnil2 hck hb hsz
            go_wp2_with (at_builtin; refine wpList_append_own _ rfl (.tmp 37) (.tmp 38) 39 rfl w.heap.size 5 i0 (.int .u8 0) 1 1 Tryd.underlying39 hi hz0 hz1 hz2 rfl (by decide) _ _ _ rfl (hown2.alloc _) ⟨w2.heap.size, 0, none⟩ 1 1 [.int .u8 58] rfl rfl ?_ ?_ ?_ ?_ ?_ ?_)
            · intro j u hj
              match j, hj with
              | 0, hj => simp at hj; subst hj; simp [Addr.add]
            · intro u hu; simp at hu; subst hu; rfl
            · have := HI.out; show J.length + d.length + 1 ≤ _; unfold maxLen; omega
            · have := HI.out; show (J.length + d.length + 1) * 1 ≤ _; omega
            · simp; omega
            intro v3 w3 hown3 hgrow3 hnil3
            have hb3 := (hb2.alloc hsz2 _).grown hgrow3 (by simp; omega) (fun k e => by cases e; exact hg2)
            obtain ⟨g3, cap3, rfl, hg3⟩ := own_shape hown3 hnil3
            have hck3 := (hb3.cell (p := ⟨b, off + k, none⟩) hlt).trans ((hb2.cell (p := ⟨b, off + k, none⟩) hlt).symm.trans hck2)
            have hsz3 := hb3.size
            clear hown2 hgrow3 hnil3 hck2 hb2 hsz2
            go_wp2_with (at_builtin; refine Lib.wpList_append_own_string _ rfl (.tmp 40) (.tmp 44) 39 9 rfl w.heap.size 5 i0 Tryd.underlying39 Tryd.underlying9 hi hz0 hz1 hz2 _ (J.length + d.length + 1) _ rfl hown3 ⟨s.toArray⟩ rfl ?_ ?_ ?_ ?_)
            · have := HI.out; show J.length + d.length + 1 + s.length ≤ _; unfold maxLen; omega
            · have := HI.out; show J.length + d.length + 1 + s.length ≤ _; omega
            · exact hsz3
            intro v4 w4 hown4 hgrow4 hnil4
            have hb4 := hb3.grown hgrow4 hsz3 (fun k e => by cases e; exact hg3)
            obtain ⟨g4, cap4, rfl, hg4⟩ := own_shape hown4 hnil4
            clear hown3 hgrow4 hnil4 hck3 hb3 hsz3
            have e1 : J.length + d.length + 1 + s.length = (J ++ Dg.item s).length := by rw [HIT.out]; simp; omega
            have e2 : Lib.byteCells J ++ Lib.strCells ⟨d.toArray⟩ ++ [Value.int .u8 58] ++ Lib.strCells ⟨s.toArray⟩ = Lib.byteCells (J ++ Dg.item s) := by
              rw [HIT.out, strCells_mk, strCells_mk, byteCells_append, byteCells_append, byteCells_append]; simp [Lib.byteCells]
            have hown5 : w4.ownsRow w.heap.size 5 1 (.slice (some ⟨g4, 0, none⟩) (Dg.joinL (ss.take (k + 1))).length cap4) (Dg.joinL (ss.take (k + 1))).length (Lib.byteCells (Dg.joinL (ss.take (k + 1)))) := by
              rw [HJ.out, ← e1, ← e2]; simpa using hown4
            have e3 : J.length + d.length + 1 + s.length = (Dg.joinL (ss.take (k + 1))).length := by rw [HJ.out, e1]
            have E3 := Lib.hid e3; clear e1 e2 e3 hown4
            go_wp2_with fail
            go_roundw
            case rel => exact ⟨k + 1, g4, cap4, by omega, by go_num, congrArg (fun n => Value.slice (some ⟨g4, 0, none⟩) n cap4) E3.out, hg4, by rw [E3.out]; exact hown5, hb4⟩
            case measure => simp [intOf]; omega
          · obtain rfl : k = ss.length := by omega
            rw [List.take_length] at hown ⊢
            have hcv := run_convert_bytes_arg (P := Tryd.prog) (w := wr) 39 5 Tryd.underlying39 Tryd.underlying5 g 0 (Dg.joinL ss).length cap ((Dg.joinL ss).map fun c => ((c.toNat : Nat) : Int)) (by simp) (fun i hi => by
              rw [Nat.zero_add, hown.cellAt i (by omega), byteCells_at _ _ hi])
            have HE := Lib.hid (strOfNums_bytes (Dg.joinL ss))
            clear hown
            go_wp2_with fail
            go_ret
            exact ⟨congrArg (fun x => Ending.returned (Value.string x)) HE.out, hb⟩

set_option maxHeartbeats 400000 in
theorem rlist_any (ss : List (List UInt8)) (v : Value) (w : World) (hv : HasStrs w v ss) (hJ : capL ss ≤ 140737488355328) :
    Calls Tryd.prog 15 #[v] w fun e w' => e = .returned (.string ⟨(Dg.listL ss).toArray⟩) ∧ Below w.heap.size w w' := by
  have hj := rjoined_any ss v w hv hJ
  have hjl := Nat.le_trans (joinL_cap ss) hJ
  obtain ⟨a, c, rfl⟩ := hv.shape
  have HJ := Lib.hid hj; clear hj hv
  go_enter Tryd.func15, Tryd.ntmps15
  go_wp2_with fail
  refine HJ.out.mono ?_
  rintro e w1 ⟨rfl, hb⟩
  go_wp2_with fail
  refine (rsum_any (Dg.joinL ss) _ hjl).mono ?_
  rintro e w2 ⟨rfl, rfl⟩
  go_wp2_with fail
  go_ret
  exact ⟨rfl, hb⟩

set_option maxHeartbeats 400000 in
theorem rchain_any (l : List UInt8) (n : Int) (w : World) (hl : l.length ≤ 140737488355328) (h0 : -9223372036854775808 ≤ n) (h1 : n ≤ 9223372036854775807) :
    Calls Tryd.prog 17 #[.string ⟨l.toArray⟩, .int .i64 n] w fun e w' => e = .returned (.string ⟨(Dg.chainL (max 0 (min n 1000)).toNat l).toArray⟩) ∧ w = w' := by
  obtain ⟨m, hm, hm2⟩ : ∃ m : Nat, (max 0 (min n 1000)).toNat = m ∧ m ≤ 1000 := ⟨(max 0 (min n 1000)).toNat, rfl, by omega⟩
  rw [hm]
  go_enter Tryd.func17, Tryd.ntmps17
  go_wp2_with fail
  go_loop [0, 5] (fun t c => ∃ k : Nat, k ≤ m ∧ c = .int .i64 k ∧ t = .string ⟨(Dg.chainL k l).toArray⟩) (fun _ c => m - (intOf c).toNat)
  case atStart => exact ⟨0, by omega, rfl, rfl⟩
  case round =>
    obtain ⟨k, hk, rfl, rfl⟩ := hrel
    have hsz : (Dg.chainL k l).length ≤ 140737488355328 := by
      rcases Nat.eq_zero_or_pos k with e | e
      · subst e; exact hl
      · obtain ⟨j, rfl⟩ : ∃ j, k = j + 1 := ⟨k - 1, by omega⟩
        rw [Dg.chainL_succ, Dg.sumL_length]; omega
    by_cases hkm : k < m
    · have hq : (k : Int) < min n 1000 := by omega
      have HS := Lib.hid (Dg.chainL_succ k l)
      generalize Dg.chainL k l = p at hsz HS ⊢
      clear hm
      go_wp2_with fail
      refine (rsum_any p _ hsz).mono ?_
      rintro e w1 ⟨rfl, rfl⟩
      go_wp2_with fail
      go_round
      case rel => exact ⟨k + 1, by omega, by go_num, by rw [HS.out]⟩
      case measure => simp [intOf]; omega
    · obtain rfl : k = m := by omega
      have hq : min n 1000 ≤ (k : Int) := by omega
      clear hm
      go_wp2_with fail
      go_ret
      exact ⟨rfl, rfl⟩
end Go.Proofs.YtblcakhcbkahaaaDoor
