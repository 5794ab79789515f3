/- THE STATEMENT ProofSigned: for every input within the form's reach, the five listed tables of Go's library holding what their initialisers lay, the call returns true and leaves the arguments as they were. -/
import Derived.Test.YteoclpjbeadkpaaGreatDoorMpH
/- WALK: pandectref03.Few at the seals of layer 44. -/
namespace Go.Proofs.YteoclpjbeadkpaaGreatDoor
open Go.RowKit Go.Shelf Go.Maps

set_option maxHeartbeats 1000000 in
set_option maxRecDepth 100000 in
theorem few3_any (sig : List (List UInt8)) (sv : Value) (w : World) (hs : SealAt w sv sig) (hok : SigOk sig) :
    Calls Tryz.prog 39 #[sv] w fun e w' => e = .returned (.bool true) ∧ Below w.heap.size w w' := by
  obtain ⟨a, c, pa, pc, rfl, h, _⟩ := hs
  have hl := hok.1
  rcases h with ⟨rfl, _⟩ | ⟨h0, b, off, c', hv, hlt, hc⟩
  · cases hl
  rw [hl] at hv
  simp only [Value.slice.injEq, true_and] at hv
  obtain ⟨rfl, rfl⟩ := hv
  have hlen : ∀ k, k < 18 → (sig.getD k []).length ≤ 100 := by
    intro k hk
    have h2 := hok.2.1
    rw [List.all_eq_true] at h2
    have h3 : sig.getD k [] ∈ sig := by
      simp only [List.getD, List.getElem?_eq_getElem (show k < sig.length by omega), Option.getD_some]
      exact List.getElem_mem _
    rw [isL_len (h2 _ h3)]; decide
  rw [hl] at hc
  have hb : Hid (Below w.heap.size w (w.alloc (.cells #[.int .i64 0, .slice (some ⟨b, off, none⟩) 18 c, .slice pa 0 pc] 42))) := (Below.refl _ w).alloc (Nat.le_refl _) _
  have hA : Hid (∀ j, j < 18 → (w.alloc (.cells #[.int .i64 0, .slice (some ⟨b, off, none⟩) 18 c, .slice pa 0 pc] 42)).cell? ⟨b, off + j, none⟩ = some (.string ⟨(sig.getD j []).toArray⟩)) := fun j hj => (hb.out.cell (p := ⟨b, off + j, none⟩) hlt).trans (hc j hj)
  clear hc h0 hl hok
  go_enter Tryz.func39, Tryz.ntmps39
  go_wp2_with fail
  go_loop [3] (fun i => ∃ k : Nat, k ≤ 18 ∧ i = .int .i64 (k : Int)) (fun i => 18 - (intOf i).toNat)
  case atStart => exact ⟨0, by omega, rfl⟩
  case round =>
    obtain ⟨k, hk, rfl⟩ := hrel
    by_cases hkl : k < 18
    · have hck := hA.out k hkl
      have hlk := hlen k hkl
      generalize sig.getD k [] = s at hck hlk
      go_wp2_with fail
      go_round
      case rel => exact ⟨k + 1, by omega, by go_num⟩
      case measure => simp [intOf]; omega
    · obtain rfl : k = 18 := by omega
      go_wp2_with fail
      refine wp_loop_rounds 1 ?_
      rw [rounds_succ]
      go_wp2_with fail
      go_ret
      exact ⟨rfl, hb.out⟩
end Go.Proofs.YteoclpjbeadkpaaGreatDoor
/- WALK: ProofSigned. -/
namespace Go.Proofs.YteoclpjbeadkpaaGreatDoor
open Go.RowKit Go.Shelf Go.Maps

theorem hasTds_one {W : World} {b c : Nat} {day cnt : Int} {root : List UInt8} {wrong : Bool} (h : W.heap[b]? = some (.cells #[.int .i64 day, .int .i64 cnt, .string ⟨root.toArray⟩, .bool wrong] 46 (0, 0))) : HasTds W (.slice (some ⟨b, 0, none⟩) 1 c) [⟨day, cnt, root, wrong⟩] := by
  refine Or.inr ⟨by simp, b, 0, c, rfl, (Array.getElem?_eq_some_iff.1 h).1, fun j hj => ?_⟩
  match j, hj with
  | 0, _ => exact ⟨cell_of_heap h, cell_of_heap h, cell_of_heap h, cell_of_heap h⟩
  | (n + 1), h => exact absurd h (by show ¬ (n + 1 < 1); omega)
theorem short_one {day cnt : Int} {root : List UInt8} {wrong : Bool} (h : shortL [⟨day, cnt, root, wrong⟩] 1 = true) : root.length ≤ 100 := by
  simpa [shortL] using h
theorem sigOk' {wrong : Bool} {day cnt : Int} {root : List UInt8} {sig : List (List UInt8)} (h : Hid (sgL wrong day cnt root = sig)) : SigOk sig := by rw [← h.out]; exact sigOk _ _
theorem ver_own' (d c : Int) (r : List UInt8) : Se.verL offKey (Pf.msgL d c r) (Se.sigL (secL false) (Pf.msgL d c r)) = true := Se.ver_sig officeL _
theorem sgn_any (day cnt : Int) (root : List UInt8) (wrong : Bool) (W : World) (ht : Tab W) (hd0 : -9223372036854775808 ≤ day) (hd1 : day ≤ 9223372036854775807) (hc0 : -9223372036854775808 ≤ cnt) (hc1 : cnt ≤ 9223372036854775807) (hr : root.length ≤ 100)
    (sig : List (List UInt8)) (hsig : Hid (sgL wrong day cnt root = sig)) :
    Calls Tryz.prog 21 #[.agg #[.int .i64 day, .int .i64 cnt, .string ⟨root.toArray⟩, .bool wrong]] W fun e w' => ∃ a c pa pc, e = .returned (.tuple #[.string ⟨offKey.toArray⟩, .agg #[.int .i64 0, .slice a 18 c, .slice pa 0 pc]]) ∧ HasStrsC w' (.slice a 18 c) sig ∧ Below W.heap.size W w' := by
  refine (signed_any day cnt root wrong W ht hd0 hd1 hc0 hc1 (Nat.le_trans hr (by decide)) offKey rfl sig hsig).mono ?_
  rintro e w' ⟨sv, rfl, ⟨a, c, pa, pc, rfl, h⟩, b⟩
  exact ⟨a, c, pa, pc, rfl, h, b⟩
theorem learn_cases {key : List UInt8} {day cnt : Int} {root : List UInt8} {sig : List (List UInt8)} {es : Pf.Rd} {er : Int} (h : Pf.learnL key [] day cnt root sig = (es, er)) :
    (es = [] ∧ er = 1) ∨ ((0 ≤ day ∧ day ≤ 1000000 ∧ 0 ≤ cnt ∧ cnt ≤ 2000 ∧ Dg.isL root = true) ∧ Se.verL key (Pf.msgL day cnt root) sig = true ∧ es = [(day, cnt, root)] ∧ er = 0) ∨
    ((0 ≤ day ∧ day ≤ 1000000 ∧ 0 ≤ cnt ∧ cnt ≤ 2000 ∧ Dg.isL root = true) ∧ Se.verL key (Pf.msgL day cnt root) sig = false ∧ es = [] ∧ er = 19) := by
  unfold Pf.learnL at h
  by_cases hb : day < 0 ∨ 1000000 < day ∨ cnt < 0 ∨ 2000 < cnt ∨ Dg.isL root = false
  · rw [if_pos hb] at h
    cases h; exact .inl ⟨rfl, rfl⟩
  · rw [if_neg hb] at h
    have hg : 0 ≤ day ∧ day ≤ 1000000 ∧ 0 ≤ cnt ∧ cnt ≤ 2000 ∧ Dg.isL root = true := by
      simp only [not_or, Bool.not_eq_false] at hb
      exact ⟨by omega, by omega, by omega, by omega, hb.2.2.2.2⟩
    by_cases hv : Se.verL key (Pf.msgL day cnt root) sig = false
    · rw [if_pos hv] at h
      cases h; exact .inr (.inr ⟨hg, hv, rfl, rfl⟩)
    · rw [if_neg hv] at h
      cases h; exact .inr (.inl ⟨hg, by simpa using hv, rfl, rfl⟩)
theorem days_len (es : Pf.Rd) : (Pf.daysL es).length = es.length := by unfold Pf.daysL; rw [List.length_mergeSort, List.length_map]

set_option maxHeartbeats 16000000 in
set_option maxRecDepth 100000 in
theorem signedLaw_any (day cnt : Int) (root : List UInt8) (wrong : Bool) (w : World) (ht : Tab w) (hd0 : -9223372036854775808 ≤ day) (hd1 : day ≤ 9223372036854775807) (hc0 : -9223372036854775808 ≤ cnt) (hc1 : cnt ≤ 9223372036854775807) (hrl : root.length ≤ 140737488355328) :
    Calls Tryz.prog 7 #[.agg #[.int .i64 day, .int .i64 cnt, .string ⟨root.toArray⟩, .bool wrong]] w fun e w' => e = .returned (.bool true) ∧ Below w.heap.size w w' := by
  have hmm := @run_makeMap Tryz.prog
  obtain ⟨sb, hsb⟩ : ∃ sb, Hid (shortL [⟨day, cnt, root, wrong⟩] 1 = sb) := ⟨_, rfl⟩
  obtain ⟨sig, hsig⟩ : ∃ sig, Hid (sgL wrong day cnt root = sig) := ⟨_, rfl⟩
  obtain ⟨⟨es, er⟩, hlr⟩ : ∃ r, Hid (Pf.learnL offKey [] day cnt root sig = r) := ⟨_, rfl⟩
  go_enter Tryz.func7, Tryz.ntmps7
  have bel := Below.refl w.heap.size w
  have Hbel := Lib.hid bel
  clear bel
  go_wp2_with fail
  have bel := Hbel.out
  clear Hbel
  obtain ⟨w1, hw⟩ : ∃ z, w.alloc (.cells #[.int .i64 day, .int .i64 cnt, .string ⟨root.toArray⟩, .bool wrong] 46) = z := ⟨_, rfl⟩
  have c : Below w.heap.size w w1 := by rw [← hw]; exact (Below.refl _ _).alloc (Nat.le_refl _) _
  have mt : w1.heap[w.heap.size]? = some (.cells #[.int .i64 day, .int .i64 cnt, .string ⟨root.toArray⟩, .bool wrong] 46 (0, 0)) := by rw [← hw]; exact heap_alloc_at _ _
  rw [hw]
  clear hw
  replace bel := below_next bel c
  clear c
  obtain ⟨bt, hb⟩ : ∃ b, w.heap.size = b := ⟨_, rfl⟩
  rw [hb] at mt ⊢
  clear hb
  refine (head44_any _ (ht.below bel (Nat.le_refl _))).mono ?_
  rintro e w2 ⟨rfl, c⟩
  replace bel := below_next bel c
  replace mt := (c.block _ (Array.getElem?_eq_some_iff.1 mt).1).trans mt
  clear c
  have q_mt_0 := cell_of_heap (i := 0) mt
  have q_mt_1 := cell_of_heap (i := 1) mt
  have q_mt_2 := cell_of_heap (i := 2) mt
  have q_mt_3 := cell_of_heap (i := 3) mt
  have Hbel := Lib.hid bel
  have Hmt := Lib.hid mt
  clear bel mt
  go_wp2_with fail
  have bel := Hbel.out
  have mt := Hmt.out
  clear Hbel Hmt
  clear q_mt_0 q_mt_1 q_mt_2 q_mt_3
  obtain ⟨w3, hw⟩ : ∃ z, w2.alloc (.cells #[.int .i64 day, .int .i64 cnt, .string ⟨root.toArray⟩, .bool wrong] 46) = z := ⟨_, rfl⟩
  have c : Below w2.heap.size w2 w3 := by rw [← hw]; exact (Below.refl _ _).alloc (Nat.le_refl _) _
  have mx : w3.heap[w2.heap.size]? = some (.cells #[.int .i64 day, .int .i64 cnt, .string ⟨root.toArray⟩, .bool wrong] 46 (0, 0)) := by rw [← hw]; exact heap_alloc_at _ _
  rw [hw]
  clear hw
  replace bel := below_next bel c
  replace mt := (c.block _ (Array.getElem?_eq_some_iff.1 mt).1).trans mt
  clear c
  obtain ⟨bx, hb⟩ : ∃ b, w2.heap.size = b := ⟨_, rfl⟩
  rw [hb] at mx ⊢
  clear hb
  have htd : HasTds w3 (.slice (some ⟨bx, 0, none⟩) 1 1) [⟨day, cnt, root, wrong⟩] := hasTds_one mx
  clear mx
  refine (short_any [⟨day, cnt, root, wrong⟩] 1 _ _ htd (by simp) (by decide) (by simpa using hrl) sb hsb).mono ?_
  rintro e w4 ⟨rfl, c⟩
  clear htd
  replace bel := below_next bel c
  replace mt := (c.block _ (Array.getElem?_eq_some_iff.1 mt).1).trans mt
  clear c
  cases sb
  · skip
    have Hbel := Lib.hid bel
    have Hmt := Lib.hid mt
    clear bel mt
    go_wp2_with fail
    have bel := Hbel.out
    have mt := Hmt.out
    clear Hbel Hmt
    go_ret
    exact ⟨rfl, bel⟩
  · skip
    have hr100 : root.length ≤ 100 := short_one hsb.out
    have q_mt_0 := cell_of_heap (i := 0) mt
    have q_mt_1 := cell_of_heap (i := 1) mt
    have q_mt_2 := cell_of_heap (i := 2) mt
    have q_mt_3 := cell_of_heap (i := 3) mt
    have Hbel := Lib.hid bel
    have Hmt := Lib.hid mt
    clear bel mt
    go_wp2_with fail
    have bel := Hbel.out
    have mt := Hmt.out
    clear Hbel Hmt
    clear q_mt_0 q_mt_1 q_mt_2 q_mt_3
    refine (sgn_any day cnt root wrong _ (ht.below bel (Nat.le_refl _)) hd0 hd1 hc0 hc1 hr100 sig hsig).mono ?_
    rintro e w5 ⟨sa, sc, sp, sq, rfl, sg, c⟩
    replace bel := below_next bel c
    replace mt := (c.block _ (Array.getElem?_eq_some_iff.1 mt).1).trans mt
    clear c
    have Hbel := Lib.hid bel
    have Hmt := Lib.hid mt
    have Hsg := Lib.hid sg
    clear bel mt sg
    go_wp2_with fail
    have bel := Hbel.out
    have mt := Hmt.out
    have sg := Hsg.out
    clear Hbel Hmt Hsg
    obtain ⟨w6, hw⟩ : ∃ z, w5.alloc (.cells #[.int .i64 0, .slice sa 18 sc, .slice sp 0 sq] 42) = z := ⟨_, rfl⟩
    have c : Below w5.heap.size w5 w6 := by rw [← hw]; exact (Below.refl _ _).alloc (Nat.le_refl _) _
    have ms : w6.heap[w5.heap.size]? = some (.cells #[.int .i64 0, .slice sa 18 sc, .slice sp 0 sq] 42 (0, 0)) := by rw [← hw]; exact heap_alloc_at _ _
    rw [hw]
    clear hw
    replace bel := below_next bel c
    replace mt := (c.block _ (Array.getElem?_eq_some_iff.1 mt).1).trans mt
    replace sg := sg.below c (Nat.le_refl _)
    clear c
    obtain ⟨bs, hb⟩ : ∃ b, w5.heap.size = b := ⟨_, rfl⟩
    rw [hb] at ms ⊢
    clear hb
    refine (newR_any offKey _).mono ?_
    rintro e w7 ⟨rfl, rd, c⟩
    obtain ⟨rb, hrb⟩ : ∃ r, w6.heap.size + 1 = r := ⟨_, rfl⟩
    obtain ⟨rm, hrm⟩ : ∃ r, w6.heap.size = r := ⟨_, rfl⟩
    have hrw : w.heap.size ≤ rm := by rw [← hrm]; exact bel.size
    rw [hrb, hrm] at rd
    rw [hrb]
    clear hrb hrm
    replace bel := below_next bel c
    replace mt := (c.block _ (Array.getElem?_eq_some_iff.1 mt).1).trans mt
    replace sg := sg.below c (Nat.le_refl _)
    replace ms := (c.block _ (Array.getElem?_eq_some_iff.1 ms).1).trans ms
    clear c
    have q_mt_0 := cell_of_heap (i := 0) mt
    have q_mt_1 := cell_of_heap (i := 1) mt
    have q_mt_2 := cell_of_heap (i := 2) mt
    have q_ms_0 := cell_of_heap (i := 0) ms
    have q_ms_1 := cell_of_heap (i := 1) ms
    have q_ms_2 := cell_of_heap (i := 2) ms
    have Hbel := Lib.hid bel
    have Hmt := Lib.hid mt
    have Hsg := Lib.hid sg
    have Hms := Lib.hid ms
    have Hrd := Lib.hid rd
    clear bel mt sg ms rd
    go_wp2_with fail
    have bel := Hbel.out
    have mt := Hmt.out
    have sg := Hsg.out
    have ms := Hms.out
    have rd := Hrd.out
    clear Hbel Hmt Hsg Hms Hrd
    clear q_mt_0 q_mt_1 q_mt_2 q_ms_0 q_ms_1 q_ms_2
    have mm := rd.2.1
    refine (learn_any offKey root day cnt sig _ rb rm 0 [] _ (ht.below bel (Nat.le_refl _)) rd ⟨sa, sc, sp, sq, rfl, sg⟩ (by rw [← hsig.out]; exact sigOk _ _) hd0 hd1 hc0 hc1 (by omega) (by decide) (es, er) hlr).mono ?_
    rintro e w8 ⟨rfl, rd2, g⟩
    replace bel := bel.grown g bel.size (fun k e => by injection e with e; omega)
    replace mt := map_heap mm g mt
    replace sg := sg.grown mm g
    replace ms := map_heap mm g ms
    clear g mm
    clear rd
    have rd := rd2
    clear rd2
    rcases learn_cases hlr.out with ⟨rfl, rfl⟩ | ⟨⟨k1, k2, k3, k4, k5⟩, hver, rfl, rfl⟩ | ⟨⟨k1, k2, k3, k4, k5⟩, hver, rfl, rfl⟩
    · skip
      by_cases hk0 : 0 ≤ day
      · skip
        by_cases hk1 : day ≤ 1000000
        · skip
          by_cases hk2 : 0 ≤ cnt
          · skip
            by_cases hk3 : cnt ≤ 2000
            · skip
              have q_mt_0 := cell_of_heap (i := 0) mt
              have q_mt_1 := cell_of_heap (i := 1) mt
              have q_mt_2 := cell_of_heap (i := 2) mt
              have q_mt_3 := cell_of_heap (i := 3) mt
              have Hbel := Lib.hid bel
              have Hmt := Lib.hid mt
              have Hsg := Lib.hid sg
              have Hms := Lib.hid ms
              have Hrd := Lib.hid rd
              clear bel mt sg ms rd
              go_wp2_with fail
              have bel := Hbel.out
              have mt := Hmt.out
              have sg := Hsg.out
              have ms := Hms.out
              have rd := Hrd.out
              clear Hbel Hmt Hsg Hms Hrd
              clear q_mt_0 q_mt_1 q_mt_2 q_mt_3
              refine (days_any offKey rb rm 1 [] _ rd (by decide)).mono ?_
              rintro e w9 ⟨dv, rfl, hdv, c⟩
              replace bel := below_next bel c
              replace mt := (c.block _ (Array.getElem?_eq_some_iff.1 mt).1).trans mt
              replace sg := sg.below c (Nat.le_refl _)
              replace ms := (c.block _ (Array.getElem?_eq_some_iff.1 ms).1).trans ms
              replace rd := rd.below c
              clear c
              obtain ⟨da, dc, rfl⟩ := hdv.shape
              clear hdv
              rw [days_len]
              have Hbel := Lib.hid bel
              have Hmt := Lib.hid mt
              have Hsg := Lib.hid sg
              have Hms := Lib.hid ms
              have Hrd := Lib.hid rd
              clear bel mt sg ms rd
              go_wp2_with fail
              have bel := Hbel.out
              have mt := Hmt.out
              have sg := Hsg.out
              have ms := Hms.out
              have rd := Hrd.out
              clear Hbel Hmt Hsg Hms Hrd
              go_ret
              exact ⟨rfl, bel⟩
            · skip
              have q_mt_0 := cell_of_heap (i := 0) mt
              have q_mt_1 := cell_of_heap (i := 1) mt
              have q_mt_2 := cell_of_heap (i := 2) mt
              have q_mt_3 := cell_of_heap (i := 3) mt
              have Hbel := Lib.hid bel
              have Hmt := Lib.hid mt
              have Hsg := Lib.hid sg
              have Hms := Lib.hid ms
              have Hrd := Lib.hid rd
              clear bel mt sg ms rd
              go_wp2_with fail
              have bel := Hbel.out
              have mt := Hmt.out
              have sg := Hsg.out
              have ms := Hms.out
              have rd := Hrd.out
              clear Hbel Hmt Hsg Hms Hrd
              clear q_mt_0 q_mt_1 q_mt_2 q_mt_3
              refine (days_any offKey rb rm 1 [] _ rd (by decide)).mono ?_
              rintro e w9 ⟨dv, rfl, hdv, c⟩
              replace bel := below_next bel c
              replace mt := (c.block _ (Array.getElem?_eq_some_iff.1 mt).1).trans mt
              replace sg := sg.below c (Nat.le_refl _)
              replace ms := (c.block _ (Array.getElem?_eq_some_iff.1 ms).1).trans ms
              replace rd := rd.below c
              clear c
              obtain ⟨da, dc, rfl⟩ := hdv.shape
              clear hdv
              rw [days_len]
              have Hbel := Lib.hid bel
              have Hmt := Lib.hid mt
              have Hsg := Lib.hid sg
              have Hms := Lib.hid ms
              have Hrd := Lib.hid rd
              clear bel mt sg ms rd
              go_wp2_with fail
              have bel := Hbel.out
              have mt := Hmt.out
              have sg := Hsg.out
              have ms := Hms.out
              have rd := Hrd.out
              clear Hbel Hmt Hsg Hms Hrd
              go_ret
              exact ⟨rfl, bel⟩
          · skip
            have q_mt_0 := cell_of_heap (i := 0) mt
            have q_mt_1 := cell_of_heap (i := 1) mt
            have q_mt_2 := cell_of_heap (i := 2) mt
            have q_mt_3 := cell_of_heap (i := 3) mt
            have Hbel := Lib.hid bel
            have Hmt := Lib.hid mt
            have Hsg := Lib.hid sg
            have Hms := Lib.hid ms
            have Hrd := Lib.hid rd
            clear bel mt sg ms rd
            go_wp2_with fail
            have bel := Hbel.out
            have mt := Hmt.out
            have sg := Hsg.out
            have ms := Hms.out
            have rd := Hrd.out
            clear Hbel Hmt Hsg Hms Hrd
            clear q_mt_0 q_mt_1 q_mt_2 q_mt_3
            refine (days_any offKey rb rm 1 [] _ rd (by decide)).mono ?_
            rintro e w9 ⟨dv, rfl, hdv, c⟩
            replace bel := below_next bel c
            replace mt := (c.block _ (Array.getElem?_eq_some_iff.1 mt).1).trans mt
            replace sg := sg.below c (Nat.le_refl _)
            replace ms := (c.block _ (Array.getElem?_eq_some_iff.1 ms).1).trans ms
            replace rd := rd.below c
            clear c
            obtain ⟨da, dc, rfl⟩ := hdv.shape
            clear hdv
            rw [days_len]
            have Hbel := Lib.hid bel
            have Hmt := Lib.hid mt
            have Hsg := Lib.hid sg
            have Hms := Lib.hid ms
            have Hrd := Lib.hid rd
            clear bel mt sg ms rd
            go_wp2_with fail
            have bel := Hbel.out
            have mt := Hmt.out
            have sg := Hsg.out
            have ms := Hms.out
            have rd := Hrd.out
            clear Hbel Hmt Hsg Hms Hrd
            go_ret
            exact ⟨rfl, bel⟩
        · skip
          have q_mt_0 := cell_of_heap (i := 0) mt
          have q_mt_1 := cell_of_heap (i := 1) mt
          have q_mt_2 := cell_of_heap (i := 2) mt
          have q_mt_3 := cell_of_heap (i := 3) mt
          have Hbel := Lib.hid bel
          have Hmt := Lib.hid mt
          have Hsg := Lib.hid sg
          have Hms := Lib.hid ms
          have Hrd := Lib.hid rd
          clear bel mt sg ms rd
          go_wp2_with fail
          have bel := Hbel.out
          have mt := Hmt.out
          have sg := Hsg.out
          have ms := Hms.out
          have rd := Hrd.out
          clear Hbel Hmt Hsg Hms Hrd
          clear q_mt_0 q_mt_1 q_mt_2 q_mt_3
          refine (days_any offKey rb rm 1 [] _ rd (by decide)).mono ?_
          rintro e w9 ⟨dv, rfl, hdv, c⟩
          replace bel := below_next bel c
          replace mt := (c.block _ (Array.getElem?_eq_some_iff.1 mt).1).trans mt
          replace sg := sg.below c (Nat.le_refl _)
          replace ms := (c.block _ (Array.getElem?_eq_some_iff.1 ms).1).trans ms
          replace rd := rd.below c
          clear c
          obtain ⟨da, dc, rfl⟩ := hdv.shape
          clear hdv
          rw [days_len]
          have Hbel := Lib.hid bel
          have Hmt := Lib.hid mt
          have Hsg := Lib.hid sg
          have Hms := Lib.hid ms
          have Hrd := Lib.hid rd
          clear bel mt sg ms rd
          go_wp2_with fail
          have bel := Hbel.out
          have mt := Hmt.out
          have sg := Hsg.out
          have ms := Hms.out
          have rd := Hrd.out
          clear Hbel Hmt Hsg Hms Hrd
          go_ret
          exact ⟨rfl, bel⟩
      · skip
        have q_mt_0 := cell_of_heap (i := 0) mt
        have q_mt_1 := cell_of_heap (i := 1) mt
        have q_mt_2 := cell_of_heap (i := 2) mt
        have q_mt_3 := cell_of_heap (i := 3) mt
        have Hbel := Lib.hid bel
        have Hmt := Lib.hid mt
        have Hsg := Lib.hid sg
        have Hms := Lib.hid ms
        have Hrd := Lib.hid rd
        clear bel mt sg ms rd
        go_wp2_with fail
        have bel := Hbel.out
        have mt := Hmt.out
        have sg := Hsg.out
        have ms := Hms.out
        have rd := Hrd.out
        clear Hbel Hmt Hsg Hms Hrd
        clear q_mt_0 q_mt_1 q_mt_2 q_mt_3
        refine (days_any offKey rb rm 1 [] _ rd (by decide)).mono ?_
        rintro e w9 ⟨dv, rfl, hdv, c⟩
        replace bel := below_next bel c
        replace mt := (c.block _ (Array.getElem?_eq_some_iff.1 mt).1).trans mt
        replace sg := sg.below c (Nat.le_refl _)
        replace ms := (c.block _ (Array.getElem?_eq_some_iff.1 ms).1).trans ms
        replace rd := rd.below c
        clear c
        obtain ⟨da, dc, rfl⟩ := hdv.shape
        clear hdv
        rw [days_len]
        have Hbel := Lib.hid bel
        have Hmt := Lib.hid mt
        have Hsg := Lib.hid sg
        have Hms := Lib.hid ms
        have Hrd := Lib.hid rd
        clear bel mt sg ms rd
        go_wp2_with fail
        have bel := Hbel.out
        have mt := Hmt.out
        have sg := Hsg.out
        have ms := Hms.out
        have rd := Hrd.out
        clear Hbel Hmt Hsg Hms Hrd
        go_ret
        exact ⟨rfl, bel⟩
    · cases wrong
      · skip
        have hL16 : root.length = 16 := isL_len k5
        have q_mt_0 := cell_of_heap (i := 0) mt
        have q_mt_1 := cell_of_heap (i := 1) mt
        have q_mt_2 := cell_of_heap (i := 2) mt
        have q_mt_3 := cell_of_heap (i := 3) mt
        have Hbel := Lib.hid bel
        have Hmt := Lib.hid mt
        have Hsg := Lib.hid sg
        have Hms := Lib.hid ms
        have Hrd := Lib.hid rd
        clear bel mt sg ms rd
        go_wp2_with fail
        have bel := Hbel.out
        have mt := Hmt.out
        have sg := Hsg.out
        have ms := Hms.out
        have rd := Hrd.out
        clear Hbel Hmt Hsg Hms Hrd
        clear q_mt_0 q_mt_1 q_mt_2 q_mt_3
        clear hL16
        obtain ⟨x, hx⟩ : ∃ x, Hid (Pf.msgL day cnt root = x) := ⟨_, rfl⟩
        have hxl : x.length ≤ 35184372088832 := by rw [← hx.out]; unfold Pf.msgL Dg.listL; rw [Dg.sumL_length]; decide
        rw [hx.out] at hver
        have hv2 : HasStrsC w8 (.slice sa 18 sc) sig := sg
        have CM : Hid (∀ A, Below w8.heap.size w8 A → Calls Tryz.prog 19 #[.int .i64 day, .int .i64 cnt, .string ⟨root.toArray⟩] A fun e w' => e = .returned (.string ⟨x.toArray⟩) ∧ Below A.heap.size A w') := fun A hA => message_any day cnt root x A (ht.below (below_next bel hA) (Nat.le_refl _)) hd0 hd1 hc0 hc1 (by omega) hx
        have CV : Hid (∀ A, Below w8.heap.size w8 A → Calls Tryz.prog 38 #[.string ⟨offKey.toArray⟩, .string ⟨x.toArray⟩, .agg #[.int .i64 0, .slice sa 18 sc, .slice sp 0 sq]] A fun e w' => e = .returned (.bool true) ∧ Below A.heap.size A w') := fun A hA => by rw [← hver]; exact verify_any offKey x sig sa sc sp sq A (ht.below (below_next bel hA) (Nat.le_refl _)) (hv2.below hA (Nat.le_refl _)) (sigOk' hsig).1 (sigOk' hsig).2.1 (sigOk' hsig).2.2 hxl
        have SN : Hid (∀ A B, (fun Y => Y.cell? ⟨bt, 0, none⟩ = some (.int .i64 day) ∧ Y.cell? ⟨bt, 1, none⟩ = some (.int .i64 cnt) ∧ Y.cell? ⟨bt, 2, none⟩ = some (.string ⟨root.toArray⟩) ∧ Y.cell? ⟨bt, 3, none⟩ = some (.bool false) ∧ Y.cell? ⟨bs, 0, none⟩ = some (.int .i64 0) ∧ Y.cell? ⟨bs, 1, none⟩ = some (.slice sa 18 sc) ∧ Y.cell? ⟨bs, 2, none⟩ = some (.slice sp 0 sq) ∧ Below w8.heap.size w8 Y) A → Below A.heap.size A B → (fun Y => Y.cell? ⟨bt, 0, none⟩ = some (.int .i64 day) ∧ Y.cell? ⟨bt, 1, none⟩ = some (.int .i64 cnt) ∧ Y.cell? ⟨bt, 2, none⟩ = some (.string ⟨root.toArray⟩) ∧ Y.cell? ⟨bt, 3, none⟩ = some (.bool false) ∧ Y.cell? ⟨bs, 0, none⟩ = some (.int .i64 0) ∧ Y.cell? ⟨bs, 1, none⟩ = some (.slice sa 18 sc) ∧ Y.cell? ⟨bs, 2, none⟩ = some (.slice sp 0 sq) ∧ Below w8.heap.size w8 Y) B) := by
          intro A B h c
          obtain ⟨h0, h1, h2, h3, h4, h5, h6, hb⟩ := h
          have lt := Nat.lt_of_lt_of_le (Array.getElem?_eq_some_iff.1 mt).1 hb.size
          have ls := Nat.lt_of_lt_of_le (Array.getElem?_eq_some_iff.1 ms).1 hb.size
          exact ⟨(c.cell (p := ⟨bt, 0, none⟩) lt).trans h0, (c.cell (p := ⟨bt, 1, none⟩) lt).trans h1, (c.cell (p := ⟨bt, 2, none⟩) lt).trans h2, (c.cell (p := ⟨bt, 3, none⟩) lt).trans h3, (c.cell (p := ⟨bs, 0, none⟩) ls).trans h4, (c.cell (p := ⟨bs, 1, none⟩) ls).trans h5, (c.cell (p := ⟨bs, 2, none⟩) ls).trans h6, below_next hb c⟩
        have hS0 : (fun Y => Y.cell? ⟨bt, 0, none⟩ = some (.int .i64 day) ∧ Y.cell? ⟨bt, 1, none⟩ = some (.int .i64 cnt) ∧ Y.cell? ⟨bt, 2, none⟩ = some (.string ⟨root.toArray⟩) ∧ Y.cell? ⟨bt, 3, none⟩ = some (.bool false) ∧ Y.cell? ⟨bs, 0, none⟩ = some (.int .i64 0) ∧ Y.cell? ⟨bs, 1, none⟩ = some (.slice sa 18 sc) ∧ Y.cell? ⟨bs, 2, none⟩ = some (.slice sp 0 sq) ∧ Below w8.heap.size w8 Y) w8 := ⟨cell_of_heap mt, cell_of_heap mt, cell_of_heap mt, cell_of_heap mt, cell_of_heap ms, cell_of_heap ms, cell_of_heap ms, Below.refl _ _⟩
        have hS1 := SN.out _ _ hS0 (Below.refl _ _).drew
        try simp only at hS0 hS1
        have Hbel := Lib.hid bel
        have Hmt := Lib.hid mt
        have Hsg := Lib.hid sg
        have Hms := Lib.hid ms
        have Hrd := Lib.hid rd
        clear bel mt sg ms rd
        go_region_held3 (fun Y => Y.cell? ⟨bt, 0, none⟩ = some (.int .i64 day) ∧ Y.cell? ⟨bt, 1, none⟩ = some (.int .i64 cnt) ∧ Y.cell? ⟨bt, 2, none⟩ = some (.string ⟨root.toArray⟩) ∧ Y.cell? ⟨bt, 3, none⟩ = some (.bool false) ∧ Y.cell? ⟨bs, 0, none⟩ = some (.int .i64 0) ∧ Y.cell? ⟨bs, 1, none⟩ = some (.slice sa 18 sc) ∧ Y.cell? ⟨bs, 2, none⟩ = some (.slice sp 0 sq) ∧ Below w8.heap.size w8 Y) (first | exact hS0 | exact hS1 | assumption) (first | (go_at_call 19; (with_reducible refine (CM.out _ (And.right (And.right (And.right (And.right (And.right (And.right (And.right (by assumption))))))))).mono ?_); rintro e z1 ⟨rfl, c1⟩; have hSa := SN.out _ _ (by assumption) c1; try simp only at hSa) | (go_at_call 38; (with_reducible refine (CV.out _ (And.right (And.right (And.right (And.right (And.right (And.right (And.right (by assumption))))))))).mono ?_); rintro e z2 ⟨rfl, c2⟩; have hSb := SN.out _ _ (by assumption) c2; try simp only at hSb))
        have bel := Hbel.out
        have mt := Hmt.out
        have sg := Hsg.out
        have ms := Hms.out
        have rd := Hrd.out
        clear Hbel Hmt Hsg Hms Hrd
        obtain ⟨_, _, _, _, _, _, _, c⟩ := hSb
        replace bel := below_next bel c
        replace mt := (c.block _ (Array.getElem?_eq_some_iff.1 mt).1).trans mt
        replace sg := sg.below c (Nat.le_refl _)
        replace ms := (c.block _ (Array.getElem?_eq_some_iff.1 ms).1).trans ms
        replace rd := rd.below c
        clear c
        clear hS0 hS1
        have q_mt_0 := cell_of_heap (i := 0) mt
        have q_mt_1 := cell_of_heap (i := 1) mt
        have q_mt_2 := cell_of_heap (i := 2) mt
        have q_mt_3 := cell_of_heap (i := 3) mt
        have q_ms_0 := cell_of_heap (i := 0) ms
        have q_ms_1 := cell_of_heap (i := 1) ms
        have q_ms_2 := cell_of_heap (i := 2) ms
        have Hbel := Lib.hid bel
        have Hmt := Lib.hid mt
        have Hsg := Lib.hid sg
        have Hms := Lib.hid ms
        have Hrd := Lib.hid rd
        clear bel mt sg ms rd
        go_wp2_with fail
        have bel := Hbel.out
        have mt := Hmt.out
        have sg := Hsg.out
        have ms := Hms.out
        have rd := Hrd.out
        clear Hbel Hmt Hsg Hms Hrd
        clear q_mt_0 q_mt_1 q_mt_2 q_mt_3 q_ms_0 q_ms_1 q_ms_2
        refine (few3_any sig _ _ ⟨sa, sc, sp, sq, rfl, sg⟩ (sigOk' hsig)).mono ?_
        rintro e w9 ⟨rfl, c⟩
        replace bel := below_next bel c
        replace mt := (c.block _ (Array.getElem?_eq_some_iff.1 mt).1).trans mt
        replace sg := sg.below c (Nat.le_refl _)
        replace ms := (c.block _ (Array.getElem?_eq_some_iff.1 ms).1).trans ms
        replace rd := rd.below c
        clear c
        have Hbel := Lib.hid bel
        have Hmt := Lib.hid mt
        have Hsg := Lib.hid sg
        have Hms := Lib.hid ms
        have Hrd := Lib.hid rd
        clear bel mt sg ms rd
        go_wp2_with fail
        have bel := Hbel.out
        have mt := Hmt.out
        have sg := Hsg.out
        have ms := Hms.out
        have rd := Hrd.out
        clear Hbel Hmt Hsg Hms Hrd
        refine (days_any offKey rb rm 1 [(day, cnt, root)] _ rd (by decide)).mono ?_
        rintro e w10 ⟨dv, rfl, hdv, c⟩
        replace bel := below_next bel c
        replace mt := (c.block _ (Array.getElem?_eq_some_iff.1 mt).1).trans mt
        replace sg := sg.below c (Nat.le_refl _)
        replace ms := (c.block _ (Array.getElem?_eq_some_iff.1 ms).1).trans ms
        replace rd := rd.below c
        clear c
        obtain ⟨da, dc, rfl⟩ := hdv.shape
        clear hdv
        rw [days_len]
        have Hbel := Lib.hid bel
        have Hmt := Lib.hid mt
        have Hsg := Lib.hid sg
        have Hms := Lib.hid ms
        have Hrd := Lib.hid rd
        clear bel mt sg ms rd
        go_wp2_with fail
        have bel := Hbel.out
        have mt := Hmt.out
        have sg := Hsg.out
        have ms := Hms.out
        have rd := Hrd.out
        clear Hbel Hmt Hsg Hms Hrd
        go_ret
        exact ⟨rfl, bel⟩
      · skip
        have hL16 : root.length = 16 := isL_len k5
        have q_mt_0 := cell_of_heap (i := 0) mt
        have q_mt_1 := cell_of_heap (i := 1) mt
        have q_mt_2 := cell_of_heap (i := 2) mt
        have q_mt_3 := cell_of_heap (i := 3) mt
        have Hbel := Lib.hid bel
        have Hmt := Lib.hid mt
        have Hsg := Lib.hid sg
        have Hms := Lib.hid ms
        have Hrd := Lib.hid rd
        clear bel mt sg ms rd
        go_wp2_with fail
        have bel := Hbel.out
        have mt := Hmt.out
        have sg := Hsg.out
        have ms := Hms.out
        have rd := Hrd.out
        clear Hbel Hmt Hsg Hms Hrd
        clear q_mt_0 q_mt_1 q_mt_2 q_mt_3
        clear hL16
        obtain ⟨x, hx⟩ : ∃ x, Hid (Pf.msgL day cnt root = x) := ⟨_, rfl⟩
        have hxl : x.length ≤ 35184372088832 := by rw [← hx.out]; unfold Pf.msgL Dg.listL; rw [Dg.sumL_length]; decide
        rw [hx.out] at hver
        have hv2 : HasStrsC w8 (.slice sa 18 sc) sig := sg
        have CM : Hid (∀ A, Below w8.heap.size w8 A → Calls Tryz.prog 19 #[.int .i64 day, .int .i64 cnt, .string ⟨root.toArray⟩] A fun e w' => e = .returned (.string ⟨x.toArray⟩) ∧ Below A.heap.size A w') := fun A hA => message_any day cnt root x A (ht.below (below_next bel hA) (Nat.le_refl _)) hd0 hd1 hc0 hc1 (by omega) hx
        have CV : Hid (∀ A, Below w8.heap.size w8 A → Calls Tryz.prog 38 #[.string ⟨offKey.toArray⟩, .string ⟨x.toArray⟩, .agg #[.int .i64 0, .slice sa 18 sc, .slice sp 0 sq]] A fun e w' => e = .returned (.bool true) ∧ Below A.heap.size A w') := fun A hA => by rw [← hver]; exact verify_any offKey x sig sa sc sp sq A (ht.below (below_next bel hA) (Nat.le_refl _)) (hv2.below hA (Nat.le_refl _)) (sigOk' hsig).1 (sigOk' hsig).2.1 (sigOk' hsig).2.2 hxl
        have SN : Hid (∀ A B, (fun Y => Y.cell? ⟨bt, 0, none⟩ = some (.int .i64 day) ∧ Y.cell? ⟨bt, 1, none⟩ = some (.int .i64 cnt) ∧ Y.cell? ⟨bt, 2, none⟩ = some (.string ⟨root.toArray⟩) ∧ Y.cell? ⟨bt, 3, none⟩ = some (.bool true) ∧ Y.cell? ⟨bs, 0, none⟩ = some (.int .i64 0) ∧ Y.cell? ⟨bs, 1, none⟩ = some (.slice sa 18 sc) ∧ Y.cell? ⟨bs, 2, none⟩ = some (.slice sp 0 sq) ∧ Below w8.heap.size w8 Y) A → Below A.heap.size A B → (fun Y => Y.cell? ⟨bt, 0, none⟩ = some (.int .i64 day) ∧ Y.cell? ⟨bt, 1, none⟩ = some (.int .i64 cnt) ∧ Y.cell? ⟨bt, 2, none⟩ = some (.string ⟨root.toArray⟩) ∧ Y.cell? ⟨bt, 3, none⟩ = some (.bool true) ∧ Y.cell? ⟨bs, 0, none⟩ = some (.int .i64 0) ∧ Y.cell? ⟨bs, 1, none⟩ = some (.slice sa 18 sc) ∧ Y.cell? ⟨bs, 2, none⟩ = some (.slice sp 0 sq) ∧ Below w8.heap.size w8 Y) B) := by
          intro A B h c
          obtain ⟨h0, h1, h2, h3, h4, h5, h6, hb⟩ := h
          have lt := Nat.lt_of_lt_of_le (Array.getElem?_eq_some_iff.1 mt).1 hb.size
          have ls := Nat.lt_of_lt_of_le (Array.getElem?_eq_some_iff.1 ms).1 hb.size
          exact ⟨(c.cell (p := ⟨bt, 0, none⟩) lt).trans h0, (c.cell (p := ⟨bt, 1, none⟩) lt).trans h1, (c.cell (p := ⟨bt, 2, none⟩) lt).trans h2, (c.cell (p := ⟨bt, 3, none⟩) lt).trans h3, (c.cell (p := ⟨bs, 0, none⟩) ls).trans h4, (c.cell (p := ⟨bs, 1, none⟩) ls).trans h5, (c.cell (p := ⟨bs, 2, none⟩) ls).trans h6, below_next hb c⟩
        have hS0 : (fun Y => Y.cell? ⟨bt, 0, none⟩ = some (.int .i64 day) ∧ Y.cell? ⟨bt, 1, none⟩ = some (.int .i64 cnt) ∧ Y.cell? ⟨bt, 2, none⟩ = some (.string ⟨root.toArray⟩) ∧ Y.cell? ⟨bt, 3, none⟩ = some (.bool true) ∧ Y.cell? ⟨bs, 0, none⟩ = some (.int .i64 0) ∧ Y.cell? ⟨bs, 1, none⟩ = some (.slice sa 18 sc) ∧ Y.cell? ⟨bs, 2, none⟩ = some (.slice sp 0 sq) ∧ Below w8.heap.size w8 Y) w8 := ⟨cell_of_heap mt, cell_of_heap mt, cell_of_heap mt, cell_of_heap mt, cell_of_heap ms, cell_of_heap ms, cell_of_heap ms, Below.refl _ _⟩
        have hS1 := SN.out _ _ hS0 (Below.refl _ _).drew
        try simp only at hS0 hS1
        have Hbel := Lib.hid bel
        have Hmt := Lib.hid mt
        have Hsg := Lib.hid sg
        have Hms := Lib.hid ms
        have Hrd := Lib.hid rd
        clear bel mt sg ms rd
        go_region_held3 (fun Y => Y.cell? ⟨bt, 0, none⟩ = some (.int .i64 day) ∧ Y.cell? ⟨bt, 1, none⟩ = some (.int .i64 cnt) ∧ Y.cell? ⟨bt, 2, none⟩ = some (.string ⟨root.toArray⟩) ∧ Y.cell? ⟨bt, 3, none⟩ = some (.bool true) ∧ Y.cell? ⟨bs, 0, none⟩ = some (.int .i64 0) ∧ Y.cell? ⟨bs, 1, none⟩ = some (.slice sa 18 sc) ∧ Y.cell? ⟨bs, 2, none⟩ = some (.slice sp 0 sq) ∧ Below w8.heap.size w8 Y) (first | exact hS0 | exact hS1 | assumption) (first | (go_at_call 19; (with_reducible refine (CM.out _ (And.right (And.right (And.right (And.right (And.right (And.right (And.right (by assumption))))))))).mono ?_); rintro e z1 ⟨rfl, c1⟩; have hSa := SN.out _ _ (by assumption) c1; try simp only at hSa) | (go_at_call 38; (with_reducible refine (CV.out _ (And.right (And.right (And.right (And.right (And.right (And.right (And.right (by assumption))))))))).mono ?_); rintro e z2 ⟨rfl, c2⟩; have hSb := SN.out _ _ (by assumption) c2; try simp only at hSb))
        have bel := Hbel.out
        have mt := Hmt.out
        have sg := Hsg.out
        have ms := Hms.out
        have rd := Hrd.out
        clear Hbel Hmt Hsg Hms Hrd
        obtain ⟨_, _, _, _, _, _, _, c⟩ := hSb
        replace bel := below_next bel c
        replace mt := (c.block _ (Array.getElem?_eq_some_iff.1 mt).1).trans mt
        replace sg := sg.below c (Nat.le_refl _)
        replace ms := (c.block _ (Array.getElem?_eq_some_iff.1 ms).1).trans ms
        replace rd := rd.below c
        clear c
        clear hS0 hS1
        have q_mt_0 := cell_of_heap (i := 0) mt
        have q_mt_1 := cell_of_heap (i := 1) mt
        have q_mt_2 := cell_of_heap (i := 2) mt
        have q_mt_3 := cell_of_heap (i := 3) mt
        have q_ms_0 := cell_of_heap (i := 0) ms
        have q_ms_1 := cell_of_heap (i := 1) ms
        have q_ms_2 := cell_of_heap (i := 2) ms
        have Hbel := Lib.hid bel
        have Hmt := Lib.hid mt
        have Hsg := Lib.hid sg
        have Hms := Lib.hid ms
        have Hrd := Lib.hid rd
        clear bel mt sg ms rd
        go_wp2_with fail
        have bel := Hbel.out
        have mt := Hmt.out
        have sg := Hsg.out
        have ms := Hms.out
        have rd := Hrd.out
        clear Hbel Hmt Hsg Hms Hrd
        clear q_mt_0 q_mt_1 q_mt_2 q_mt_3 q_ms_0 q_ms_1 q_ms_2
        refine (few3_any sig _ _ ⟨sa, sc, sp, sq, rfl, sg⟩ (sigOk' hsig)).mono ?_
        rintro e w9 ⟨rfl, c⟩
        replace bel := below_next bel c
        replace mt := (c.block _ (Array.getElem?_eq_some_iff.1 mt).1).trans mt
        replace sg := sg.below c (Nat.le_refl _)
        replace ms := (c.block _ (Array.getElem?_eq_some_iff.1 ms).1).trans ms
        replace rd := rd.below c
        clear c
        have Hbel := Lib.hid bel
        have Hmt := Lib.hid mt
        have Hsg := Lib.hid sg
        have Hms := Lib.hid ms
        have Hrd := Lib.hid rd
        clear bel mt sg ms rd
        go_wp2_with fail
        have bel := Hbel.out
        have mt := Hmt.out
        have sg := Hsg.out
        have ms := Hms.out
        have rd := Hrd.out
        clear Hbel Hmt Hsg Hms Hrd
        refine (days_any offKey rb rm 1 [(day, cnt, root)] _ rd (by decide)).mono ?_
        rintro e w10 ⟨dv, rfl, hdv, c⟩
        replace bel := below_next bel c
        replace mt := (c.block _ (Array.getElem?_eq_some_iff.1 mt).1).trans mt
        replace sg := sg.below c (Nat.le_refl _)
        replace ms := (c.block _ (Array.getElem?_eq_some_iff.1 ms).1).trans ms
        replace rd := rd.below c
        clear c
        obtain ⟨da, dc, rfl⟩ := hdv.shape
        clear hdv
        rw [days_len]
        have Hbel := Lib.hid bel
        have Hmt := Lib.hid mt
        have Hsg := Lib.hid sg
        have Hms := Lib.hid ms
        have Hrd := Lib.hid rd
        clear bel mt sg ms rd
        go_wp2_with fail
        have bel := Hbel.out
        have mt := Hmt.out
        have sg := Hsg.out
        have ms := Hms.out
        have rd := Hrd.out
        clear Hbel Hmt Hsg Hms Hrd
        go_ret
        exact ⟨rfl, bel⟩
    · cases wrong
      · exact absurd hver (by rw [← hsig.out]; unfold sgL; rw [ver_own']; decide)
      · skip
        have hL16 : root.length = 16 := isL_len k5
        have q_mt_0 := cell_of_heap (i := 0) mt
        have q_mt_1 := cell_of_heap (i := 1) mt
        have q_mt_2 := cell_of_heap (i := 2) mt
        have q_mt_3 := cell_of_heap (i := 3) mt
        have Hbel := Lib.hid bel
        have Hmt := Lib.hid mt
        have Hsg := Lib.hid sg
        have Hms := Lib.hid ms
        have Hrd := Lib.hid rd
        clear bel mt sg ms rd
        go_wp2_with fail
        have bel := Hbel.out
        have mt := Hmt.out
        have sg := Hsg.out
        have ms := Hms.out
        have rd := Hrd.out
        clear Hbel Hmt Hsg Hms Hrd
        clear q_mt_0 q_mt_1 q_mt_2 q_mt_3
        clear hL16
        obtain ⟨x, hx⟩ : ∃ x, Hid (Pf.msgL day cnt root = x) := ⟨_, rfl⟩
        have hxl : x.length ≤ 35184372088832 := by rw [← hx.out]; unfold Pf.msgL Dg.listL; rw [Dg.sumL_length]; decide
        rw [hx.out] at hver
        have hv2 : HasStrsC w8 (.slice sa 18 sc) sig := sg
        have CM : Hid (∀ A, Below w8.heap.size w8 A → Calls Tryz.prog 19 #[.int .i64 day, .int .i64 cnt, .string ⟨root.toArray⟩] A fun e w' => e = .returned (.string ⟨x.toArray⟩) ∧ Below A.heap.size A w') := fun A hA => message_any day cnt root x A (ht.below (below_next bel hA) (Nat.le_refl _)) hd0 hd1 hc0 hc1 (by omega) hx
        have CV : Hid (∀ A, Below w8.heap.size w8 A → Calls Tryz.prog 38 #[.string ⟨offKey.toArray⟩, .string ⟨x.toArray⟩, .agg #[.int .i64 0, .slice sa 18 sc, .slice sp 0 sq]] A fun e w' => e = .returned (.bool false) ∧ Below A.heap.size A w') := fun A hA => by rw [← hver]; exact verify_any offKey x sig sa sc sp sq A (ht.below (below_next bel hA) (Nat.le_refl _)) (hv2.below hA (Nat.le_refl _)) (sigOk' hsig).1 (sigOk' hsig).2.1 (sigOk' hsig).2.2 hxl
        have SN : Hid (∀ A B, (fun Y => Y.cell? ⟨bt, 0, none⟩ = some (.int .i64 day) ∧ Y.cell? ⟨bt, 1, none⟩ = some (.int .i64 cnt) ∧ Y.cell? ⟨bt, 2, none⟩ = some (.string ⟨root.toArray⟩) ∧ Y.cell? ⟨bt, 3, none⟩ = some (.bool true) ∧ Y.cell? ⟨bs, 0, none⟩ = some (.int .i64 0) ∧ Y.cell? ⟨bs, 1, none⟩ = some (.slice sa 18 sc) ∧ Y.cell? ⟨bs, 2, none⟩ = some (.slice sp 0 sq) ∧ Below w8.heap.size w8 Y) A → Below A.heap.size A B → (fun Y => Y.cell? ⟨bt, 0, none⟩ = some (.int .i64 day) ∧ Y.cell? ⟨bt, 1, none⟩ = some (.int .i64 cnt) ∧ Y.cell? ⟨bt, 2, none⟩ = some (.string ⟨root.toArray⟩) ∧ Y.cell? ⟨bt, 3, none⟩ = some (.bool true) ∧ Y.cell? ⟨bs, 0, none⟩ = some (.int .i64 0) ∧ Y.cell? ⟨bs, 1, none⟩ = some (.slice sa 18 sc) ∧ Y.cell? ⟨bs, 2, none⟩ = some (.slice sp 0 sq) ∧ Below w8.heap.size w8 Y) B) := by
          intro A B h c
          obtain ⟨h0, h1, h2, h3, h4, h5, h6, hb⟩ := h
          have lt := Nat.lt_of_lt_of_le (Array.getElem?_eq_some_iff.1 mt).1 hb.size
          have ls := Nat.lt_of_lt_of_le (Array.getElem?_eq_some_iff.1 ms).1 hb.size
          exact ⟨(c.cell (p := ⟨bt, 0, none⟩) lt).trans h0, (c.cell (p := ⟨bt, 1, none⟩) lt).trans h1, (c.cell (p := ⟨bt, 2, none⟩) lt).trans h2, (c.cell (p := ⟨bt, 3, none⟩) lt).trans h3, (c.cell (p := ⟨bs, 0, none⟩) ls).trans h4, (c.cell (p := ⟨bs, 1, none⟩) ls).trans h5, (c.cell (p := ⟨bs, 2, none⟩) ls).trans h6, below_next hb c⟩
        have hS0 : (fun Y => Y.cell? ⟨bt, 0, none⟩ = some (.int .i64 day) ∧ Y.cell? ⟨bt, 1, none⟩ = some (.int .i64 cnt) ∧ Y.cell? ⟨bt, 2, none⟩ = some (.string ⟨root.toArray⟩) ∧ Y.cell? ⟨bt, 3, none⟩ = some (.bool true) ∧ Y.cell? ⟨bs, 0, none⟩ = some (.int .i64 0) ∧ Y.cell? ⟨bs, 1, none⟩ = some (.slice sa 18 sc) ∧ Y.cell? ⟨bs, 2, none⟩ = some (.slice sp 0 sq) ∧ Below w8.heap.size w8 Y) w8 := ⟨cell_of_heap mt, cell_of_heap mt, cell_of_heap mt, cell_of_heap mt, cell_of_heap ms, cell_of_heap ms, cell_of_heap ms, Below.refl _ _⟩
        have hS1 := SN.out _ _ hS0 (Below.refl _ _).drew
        try simp only at hS0 hS1
        have Hbel := Lib.hid bel
        have Hmt := Lib.hid mt
        have Hsg := Lib.hid sg
        have Hms := Lib.hid ms
        have Hrd := Lib.hid rd
        clear bel mt sg ms rd
        go_region_held3 (fun Y => Y.cell? ⟨bt, 0, none⟩ = some (.int .i64 day) ∧ Y.cell? ⟨bt, 1, none⟩ = some (.int .i64 cnt) ∧ Y.cell? ⟨bt, 2, none⟩ = some (.string ⟨root.toArray⟩) ∧ Y.cell? ⟨bt, 3, none⟩ = some (.bool true) ∧ Y.cell? ⟨bs, 0, none⟩ = some (.int .i64 0) ∧ Y.cell? ⟨bs, 1, none⟩ = some (.slice sa 18 sc) ∧ Y.cell? ⟨bs, 2, none⟩ = some (.slice sp 0 sq) ∧ Below w8.heap.size w8 Y) (first | exact hS0 | exact hS1 | assumption) (first | (go_at_call 19; (with_reducible refine (CM.out _ (And.right (And.right (And.right (And.right (And.right (And.right (And.right (by assumption))))))))).mono ?_); rintro e z1 ⟨rfl, c1⟩; have hSa := SN.out _ _ (by assumption) c1; try simp only at hSa) | (go_at_call 38; (with_reducible refine (CV.out _ (And.right (And.right (And.right (And.right (And.right (And.right (And.right (by assumption))))))))).mono ?_); rintro e z2 ⟨rfl, c2⟩; have hSb := SN.out _ _ (by assumption) c2; try simp only at hSb))
        have bel := Hbel.out
        have mt := Hmt.out
        have sg := Hsg.out
        have ms := Hms.out
        have rd := Hrd.out
        clear Hbel Hmt Hsg Hms Hrd
        obtain ⟨_, _, _, _, _, _, _, c⟩ := hSb
        replace bel := below_next bel c
        replace mt := (c.block _ (Array.getElem?_eq_some_iff.1 mt).1).trans mt
        replace sg := sg.below c (Nat.le_refl _)
        replace ms := (c.block _ (Array.getElem?_eq_some_iff.1 ms).1).trans ms
        replace rd := rd.below c
        clear c
        clear hS0 hS1
        have q_mt_0 := cell_of_heap (i := 0) mt
        have q_mt_1 := cell_of_heap (i := 1) mt
        have q_mt_2 := cell_of_heap (i := 2) mt
        have q_mt_3 := cell_of_heap (i := 3) mt
        have q_ms_0 := cell_of_heap (i := 0) ms
        have q_ms_1 := cell_of_heap (i := 1) ms
        have q_ms_2 := cell_of_heap (i := 2) ms
        have Hbel := Lib.hid bel
        have Hmt := Lib.hid mt
        have Hsg := Lib.hid sg
        have Hms := Lib.hid ms
        have Hrd := Lib.hid rd
        clear bel mt sg ms rd
        go_wp2_with fail
        have bel := Hbel.out
        have mt := Hmt.out
        have sg := Hsg.out
        have ms := Hms.out
        have rd := Hrd.out
        clear Hbel Hmt Hsg Hms Hrd
        clear q_mt_0 q_mt_1 q_mt_2 q_mt_3 q_ms_0 q_ms_1 q_ms_2
        refine (few3_any sig _ _ ⟨sa, sc, sp, sq, rfl, sg⟩ (sigOk' hsig)).mono ?_
        rintro e w9 ⟨rfl, c⟩
        replace bel := below_next bel c
        replace mt := (c.block _ (Array.getElem?_eq_some_iff.1 mt).1).trans mt
        replace sg := sg.below c (Nat.le_refl _)
        replace ms := (c.block _ (Array.getElem?_eq_some_iff.1 ms).1).trans ms
        replace rd := rd.below c
        clear c
        have Hbel := Lib.hid bel
        have Hmt := Lib.hid mt
        have Hsg := Lib.hid sg
        have Hms := Lib.hid ms
        have Hrd := Lib.hid rd
        clear bel mt sg ms rd
        go_wp2_with fail
        have bel := Hbel.out
        have mt := Hmt.out
        have sg := Hsg.out
        have ms := Hms.out
        have rd := Hrd.out
        clear Hbel Hmt Hsg Hms Hrd
        refine (days_any offKey rb rm 1 [] _ rd (by decide)).mono ?_
        rintro e w10 ⟨dv, rfl, hdv, c⟩
        replace bel := below_next bel c
        replace mt := (c.block _ (Array.getElem?_eq_some_iff.1 mt).1).trans mt
        replace sg := sg.below c (Nat.le_refl _)
        replace ms := (c.block _ (Array.getElem?_eq_some_iff.1 ms).1).trans ms
        replace rd := rd.below c
        clear c
        obtain ⟨da, dc, rfl⟩ := hdv.shape
        clear hdv
        rw [days_len]
        have Hbel := Lib.hid bel
        have Hmt := Lib.hid mt
        have Hsg := Lib.hid sg
        have Hms := Lib.hid ms
        have Hrd := Lib.hid rd
        clear bel mt sg ms rd
        go_wp2_with fail
        have bel := Hbel.out
        have mt := Hmt.out
        have sg := Hsg.out
        have ms := Hms.out
        have rd := Hrd.out
        clear Hbel Hmt Hsg Hms Hrd
        go_ret
        exact ⟨rfl, bel⟩
end Go.Proofs.YteoclpjbeadkpaaGreatDoor
/- THE STATEMENT ProofSigned: for every input within the form's reach, the five listed tables of Go's library holding what their initialisers lay, the call returns true and leaves the arguments as they were. -/
namespace Go.Proofs.YteoclpjbeadkpaaGreatDoor.rowProofSigned
open Go.ChangeShapes Go.WideShapes Go.ChangeAt Go.RowKit
open Go.ChangeMaps (open_string)

theorem noHandles : (Rows.proofSignedRow.laid.filter fun x => x.2.handleName?.isSome) = [] := by kernel_rfl
theorem table {W : World} (h : laidMetH Tryz.prog Rows.proofSignedRow.laid W) : Tab W := by
  unfold laidMetH at h
  rw [noHandles] at h
  exact tab_of h (by simp [Rows.proofSignedRow])

set_option maxRecDepth 100000 in
theorem contract (H : Type) (enc : TypeId × Value → H) (W : World) (base : Nat) (args : Array Value) (ds gs : List (DataW H)) (before : List MemPlace)
    (hval : ∀ (j : Nat) t v, Tryz.f7.params[j]? = some t → args[j]? = some v → Value.okWide Tryz.prog W .any base t v)
    (hW : DataW.Whole enc Tryz.prog Tryz.f7.params.toList Rows.proofSignedSpec.vars false W args.toList ds gs before)
    (hsz0 : (DataW.weightsEach Tryz.prog (Tryz.f7.params.toList ++ Rows.proofSignedSpec.plain.varTypes Tryz.prog) (ds ++ gs)).all (· ≤ reachBytes) = true) (hL : laidMetH Tryz.prog Rows.proofSignedRow.laid W) :
    Calls Tryz.prog 7 args W fun e W' => ∃ v, e = .returned v ∧ Rows.proofSignedSpec.post enc Tryz.prog Tryz.f7 false true false false W args v W' := by
  have hW' := hW
  obtain ⟨p, q, hA0, hV, rfl, hfz, hnd⟩ := hW
  have hA : DataW.TrodAll enc Tryz.prog W 0 (fun _ => true) true Tryz.f7.params.toList args.toList ds p := hA0
  have hsz : (DataW.weightsEach Tryz.prog (Tryz.f7.params.toList ++ Rows.proofSignedSpec.plain.varTypes Tryz.prog) (ds ++ gs)).all (· ≤ reachBytes) = true := hsz0
  rw [Tryz.params7] at hA hval hsz
  obtain ⟨v0, vs0, d0, ds0, p0, q0, hargs, rfl, rfl, h0, r0⟩ := trodAll_cons hA
  obtain ⟨rfl, rfl, rfl⟩ := trodAll_nil r0
  obtain rfl : args = #[v0] := by cases args; simp_all
  obtain ⟨rfl, rfl⟩ := trodVars_none hV
  have k0 := h0
  have lt0 : ∀ x ∈ p0, x.block < W.heap.size := by obtain ⟨m, hm⟩ := k0; exact DataW.trod_lt m _ _ _ hm
  have wt0 := wt_arg hsz (j := 0) (t := 46) (d := d0) rfl rfl
  obtain ⟨⟨c0⟩, rfl, _⟩ := okWide_struct Tryz.underlying46 (hval 0 46 v0 rfl rfl)
  obtain ⟨m0, hm0⟩ := h0
  obtain ⟨t0, e0, in0, sz0⟩ := told_open (cs := c0) hm0
  subst e0
  have sz0' := sz0 wt0
  refine (signedLaw_any t0.day t0.cnt t0.root t0.wrong W (table hL) in0.1 in0.2.1 in0.2.2.1 in0.2.2.2 sz0').mono fun e W' ⟨he, bel⟩ => ?_
  subst he
  exact ⟨_, rfl, _, _, _, [], _, [], hW', trodAll_mk1 (shut_bool Tryz.underlying4 _), (trodAll_cons_mk (Below.trod laidOut (by kernel_rfl) (of_decide_eq_true (by kernel_rfl)) k0 bel lt0) trodAll_mk0), rfl, bel.frame _, fun h => by cases h⟩

theorem laid_met (os : Os) : laidMet Tryz.prog Rows.proofSignedRow.laid ((laidWorld os).forCall (fun _ _ => 0) ⟨#[], #[.agg #[.int .i64 0, .int .i64 0, .string ⟨#[]⟩, .bool false]], []⟩).memory :=
  laidMet_of_run' 8 (by kernel_rfl) (by kernel_rfl)
theorem reads (os : Os) {H : Type} (enc : TypeId × Value → H) : ∃ places, DataW.whole enc Tryz.prog ((laidWorld os).forCall (fun _ _ => 0) ⟨#[], #[.agg #[.int .i64 0, .int .i64 0, .string ⟨#[]⟩, .bool false]], []⟩).memory Tryz.f7.params.toList Rows.proofSignedSpec.vars false (#[.agg #[.int .i64 0, .int .i64 0, .string ⟨#[]⟩, .bool false]] : Array Value).toList 8 = some ([.agg [.lit (.int .i64 0), .lit (.int .i64 0), .lit (.string []), .lit (.bool false)]], [], places) :=
  ⟨[], by kernel_rfl⟩

set_option maxRecDepth 100000 in
theorem lifted (os : Os) (started : os.Started) (H : Type) (enc : TypeId × Value → H) (F : Stop.Interp) :
    ReturnsInHanded {} Tryz.checked os 7 .any ((OpenSpec.ofChange Rows.proofSignedSpec).preRow enc Tryz.prog Tryz.f7 Rows.proofSignedRow.domain false Rows.proofSignedRow.laid) (((OpenSpec.ofChange Rows.proofSignedSpec).at F).post enc Tryz.prog Tryz.f7 false true false false) := by
  obtain ⟨places, hx⟩ := reads os enc
  refine returnsInHanded_of_row (C := Tryz.checked) (s := OpenSpec.ofChange Rows.proofSignedSpec) own started (by kernel_rfl) Tryz.func7
    (witness_row_at (enc := enc) (C := Tryz.checked) false (laidWorld os) #[.agg #[.int .i64 0, .int .i64 0, .string ⟨#[]⟩, .bool false]] rfl (by kernel_rfl) (by kernel_rfl) (by kernel_rfl)
      (OpenSpec.preRow_of_cond 8 hx (by kernel_rfl) (fun k hk => by cases hk) (by kernel_rfl) (laid_met os))) ?_
  intro W base args ds gs before hval hW _ _ hsz hL _ _
  exact contract H enc W base args ds gs before hval hW hsz hL

theorem said : Rows.ProofSignedSaid :=
  OpenClaim.holds_of_cond 7 Tryz.f7 rfl rfl rfl rfl rfl rfl rfl ⟨rfl, rfl, rfl, rfl, rfl⟩ rfl rfl rfl rfl rfl (by kernel_rfl) Tryz.func7 (by kernel_rfl)
    (of_decide_eq_true (by kernel_rfl)) (by unfold Func.isWrapper; rw [if_neg (of_decide_eq_false (by kernel_rfl))]; exact ⟨rfl, rfl⟩)
    (fun os started H enc _ F => by rw [OpenClaim.pre_eq_preRow]; exact lifted os started H enc F)

theorem plain (f : FuncId) (fn : Func) (hf : Tryz.pinned.checked.prog.funcNamed "pandect/pandectlaw44.ProofSigned" = some f) (hfn : Tryz.pinned.checked.prog.funcs[f]? = some fn) :
    false = Tryz.pinned.checked.prog.looks [] ∧ ∀ (j : Nat) t, fn.params[j]? = some t → Tryz.pinned.checked.prog.wantsStandIn t = false := by
  obtain rfl : f = 7 := Option.some.inj ((show Tryz.prog.funcNamed "pandect/pandectlaw44.ProofSigned" = some 7 by kernel_rfl).symm.trans hf) |>.symm
  obtain rfl : fn = Tryz.f7 := (Option.some.inj (Tryz.func7.symm.trans hfn)).symm
  refine ⟨by kernel_rfl, fun j t ht => ?_⟩
  rw [Tryz.params7] at ht
  have hall : ∀ x ∈ [46], Tryz.prog.wantsStandIn x = false := by
    intro x hx
    simp only [List.mem_cons, List.not_mem_nil, or_false] at hx
    subst hx; kernel_rfl
  exact hall t (by simpa using Array.mem_of_getElem? ht)

/-- the card of the statement -/
theorem card : Rows.ProofSignedCardSaid :=
  Claim7.holds_tied_plain_at .later [] _ _ _ _ said (fun _ h => by cases h) (by kernel_rfl) (fun _ h => by cases h) proofSigned_row_tie rfl ⟨rfl, rfl⟩ (by kernel_rfl) rfl plain (by kernel_rfl)
end Go.Proofs.YteoclpjbeadkpaaGreatDoor.rowProofSigned
