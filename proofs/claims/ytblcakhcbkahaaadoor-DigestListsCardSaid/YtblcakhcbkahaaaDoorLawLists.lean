/- WALK: the statement DigestLists returns true. -/
import Derived.Test.YtblcakhcbkahaaaDoorLawShort
import Derived.Test.YtblcakhcbkahaaaDoorLawForm
import Derived.Test.YtblcakhcbkahaaaDoorLawBlock
namespace Go.Proofs.YtblcakhcbkahaaaDoor
open Go.RowKit

theorem min3_9 (a b : Nat) (W : World) : (Builtin.min_ #[3, 3, 3] 3 #[.int .i64 (a : Int), .int .i64 (b : Int), .int .i64 9]).run Tryd.prog W = .ok (.int .i64 ((min (min a b) 9 : Nat) : Int)) W := by
  have e : (if (9 : Int) < (if (b : Int) < (a : Int) then (b : Int) else (a : Int)) then (9 : Int) else (if (b : Int) < (a : Int) then (b : Int) else (a : Int))) = ((min (min a b) 9 : Nat) : Int) := by
    split <;> split <;> omega
  rw [← e]
  rfl
theorem min2_6 (n : Nat) (W : World) : (Builtin.min_ #[3, 3] 3 #[.int .i64 (n : Int), .int .i64 6]).run Tryd.prog W = .ok (.int .i64 ((min n 6 : Nat) : Int)) W := by
  have e : (if (6 : Int) < (n : Int) then (6 : Int) else (n : Int)) = ((min n 6 : Nat) : Int) := by
    split <;> omega
  rw [← e]
  rfl

theorem decN_small : ∀ n : Fin 10, Dg.decN n.val = [UInt8.ofNat (48 + n.val)] := by decide +kernel
theorem item_small (s : List UInt8) (h : s.length ≤ 9) : Dg.item s = UInt8.ofNat (48 + s.length) :: 58 :: s := by
  have e := decN_small ⟨s.length, by omega⟩
  unfold Dg.item
  rw [show Dg.decN s.length = [UInt8.ofNat (48 + s.length)] from e]
  rfl
theorem listL_one (s : List UInt8) (h : s.length ≤ 9) : Dg.listL [s] = Dg.sumL (UInt8.ofNat (48 + s.length) :: 58 :: s) := by
  unfold Dg.listL
  rw [← item_small s h]
  simp [Dg.joinL]
theorem one_two (p q : List UInt8) (n : Nat) (hp : p.length = n) (hq : q.length = n) (hn : n ≤ 9) (h : Dg.listL [p] = Dg.listL [p.take (min n 6) ++ q.drop (min n 6)]) : p = p.take (min n 6) ++ q.drop (min n 6) := by
  by_cases h6 : n ≤ 6
  · rw [Nat.min_eq_left h6, List.take_of_length_le (by omega), List.drop_of_length_le (by omega), List.append_nil]
  · rw [Nat.min_eq_right (by omega)] at h ⊢
    have l2 : (p.take 6 ++ q.drop 6).length = n := by simp; omega
    rw [listL_one p (by omega), listL_one _ (by omega), l2, hp] at h
    have e := Dg.sumL_block (p := UInt8.ofNat (48 + n) :: 58 :: p.take 6) (a := p.drop 6) (b := q.drop 6) (r := []) (by simp; omega) (by simp; omega) (by simp; omega) (by simp; omega) (by
      simp only [List.append_nil, List.cons_append, List.take_append_drop]
      exact h)
    rw [← e, List.take_append_drop]

theorem rjoinedC (ss : List (List UInt8)) (v : Value) (x : List UInt8) (w : World) (hv : HasStrs w v ss) (hJ : capL ss ≤ 140737488355328) (hx : Hid (Dg.joinL ss = x)) :
    Calls Tryd.prog 20 #[v] w fun e w' => e = .returned (.string ⟨x.toArray⟩) ∧ Below w.heap.size w w' := by
  have h := rjoined_any ss v w hv hJ
  rw [hx.out] at h
  exact h
theorem rsameC (ss tt : List (List UInt8)) (v u : Value) (s : Bool) (w : World) (hv : HasStrs w v ss) (hu : HasStrs w u tt) (hn : ss.length ≤ 140737488355328) (hn2 : tt.length ≤ 140737488355328) (hs : Hid ((ss == tt) = s)) :
    Calls Tryd.prog 21 #[v, u] w fun e w' => e = .returned (.bool s) ∧ Below w.heap.size w w' := by
  have h := rsame_any ss tt v u w hv hu hn hn2
  rw [hs.out] at h
  refine h.mono ?_
  rintro e w' ⟨rfl, q, rfl⟩
  exact ⟨rfl, below_drewN _ _ q⟩

theorem beq_two {a b c d : List UInt8} (h : a = b ↔ c = d) : ((a == b) == (c == d)) = true := by
  by_cases e : c = d
  · have t := h.mpr e
    subst t; subst e
    rw [beq_self_eq_true, beq_self_eq_true]; rfl
  · rw [show (c == d) = false by simpa using e, show (a == b) = false by simpa using fun t => e (h.mp t)]; rfl
theorem slice_to (P : List UInt8) (k : Nat) (h : k ≤ P.length) (_hk : k ≤ 9) (W : World) : (Instr.slice 9 (.string ⟨P.toArray⟩) none (some (.int .i64 (k : Int))) none).run Tryd.prog W = .ok (.string ⟨(P.take k).toArray⟩) W := by
  have h := run_slice_string_h (P := Tryd.prog) (t := 9) (s := ⟨P.toArray⟩) (w := W) Tryd.underlying9 .i64 (k : Int) (by omega) (by show (k : Int) ≤ (P.length : Int); omega)
  rw [h, show (k : Int).toNat = k by omega, ext_to]
theorem slice_mid (q : List UInt8) (k n : Nat) (h : k ≤ n) (h2 : n ≤ q.length) (_hk : k ≤ 9) (W : World) : (Instr.slice 9 (.string ⟨q.toArray⟩) (some (.int .i64 (k : Int))) (some (.int .i64 (n : Int))) none).run Tryd.prog W = .ok (.string ⟨((q.take n).drop k).toArray⟩) W := by
  have h := run_slice_string (P := Tryd.prog) (t := 9) (s := ⟨q.toArray⟩) (w := W) .i64 .i64 (k : Int) (n : Int) Tryd.underlying9 (by omega) (by omega) (by show (n : Int) ≤ (q.length : Int); omega)
  rw [h, show (k : Int).toNat = k by omega, show (n : Int).toNat = n by omega]
  congr 2
  apply mk_ext
  rw [Lib.extract_data, ← List.drop_take]

theorem sized_mem {ss : List (List UInt8)} (h : capL ss ≤ 6630) (s : List UInt8) (hs : s ∈ ss) : s.length < 100000000000000000000 := by
  have e : s.length ≤ capL ss := by
    clear h
    induction ss with
    | nil => cases hs
    | cons x r ih =>
      rw [capL]
      rcases List.mem_cons.mp hs with rfl | h
      · omega
      · have := ih h; omega
  omega

theorem below_one (w : World) (P : List UInt8) : Below w.heap.size w (w.alloc (.cells #[.string ⟨P.toArray⟩] 9)) := (Below.refl _ _).alloc (Nat.le_refl _) _
theorem listOne {w W : World} (P y : List UInt8) (ht : Tab w) (b : Below w.heap.size w W) (hP : P.length ≤ 20) (g : Hid (Dg.listL [P] = y)) :
    Calls Tryd.prog 14 #[.slice (some ⟨W.heap.size, 0, none⟩) 1 1] (W.alloc (.cells #[.string ⟨P.toArray⟩] 9)) fun e w' => e = .returned (.string ⟨y.toArray⟩) ∧ Below w.heap.size w w' := by
  have b1 := below_next b (below_one W P)
  have hl : (Dg.joinL [P]).length ≤ 140737488355328 := by
    have := (Dg.item_length P).2
    simp [Dg.joinL]; omega
  refine (listC [P] _ y _ (ht.below b1 (Nat.le_refl _)) (hasStrs_alloc W [P] 1 (by simp)) hl g).mono ?_
  rintro e w' ⟨rfl, c⟩
  exact ⟨rfl, below_next b1 c⟩
theorem listOneD {w W : World} (P y : List UInt8) (ht : Tab w) (b : Below w.heap.size w W) (hP : P.length ≤ 20) (g : Hid (Dg.listL [P] = y)) :
    Calls Tryd.prog 14 #[.slice (some ⟨W.heap.size, 0, none⟩) 1 1] (W.alloc (.cells #[.string ⟨P.toArray⟩] 9)).drew fun e w' => e = .returned (.string ⟨y.toArray⟩) ∧ Below w.heap.size w w' := by
  have b0 : Below w.heap.size w W.drew := b.trans ⟨rfl, rfl, rfl, Nat.le_refl _, fun _ _ => rfl⟩
  exact listOne (W := W.drew) P y ht b0 hP g

set_option maxHeartbeats 1000000 in
set_option maxRecDepth 100000 in
theorem lists_walk (ss : List (List UInt8)) (v : Value) (tt : List (List UInt8)) (u : Value) (p q : List UInt8) (w : World) (ht : Tab w) (hv : HasStrs w v ss) (hs : Sized ss) (hu : HasStrs w u tt) (hs2 : Sized tt) (hp : p.length ≤ 140737488355328) (hq : q.length ≤ 140737488355328) :
    Calls Tryd.prog 9 #[v, u, .string ⟨p.toArray⟩, .string ⟨q.toArray⟩] w fun e w' => e = .returned (.bool true) ∧ Below w.heap.size w w' := by
  obtain ⟨a, c, rfl⟩ := hv.shape
  obtain ⟨a2, c2, rfl⟩ := hu.shape
  have HV := Lib.hid hv; clear hv
  have HU := Lib.hid hu; clear hu
  cases hf : fewL ss 200 with
  | false =>
    have HF := Lib.hid hf; clear hf
    go_enter Tryd.func9, Tryd.ntmps9
    go_wp2_with fail
    refine (head_any _ ht).mono ?_
    rintro e w1 ⟨rfl, b1⟩
    go_wp2_with fail
    refine (rfew_any ss 200 _ _ (HV.out.below b1 (Nat.le_refl _)) hs.1 hs.2).mono ?_
    rintro e w2 ⟨rfl, rfl⟩
    rw [HF.out]
    go_wp2_with fail
    go_ret
    exact ⟨rfl, b1⟩
  | true =>
    have hcap := few_cap ss hf
    have HF := Lib.hid hf; clear hf
    cases hf2 : fewL tt 200 with
    | false =>
      have HF2 := Lib.hid hf2; clear hf2
      go_enter Tryd.func9, Tryd.ntmps9
      go_wp2_with fail
      refine (head_any _ ht).mono ?_
      rintro e w1 ⟨rfl, b1⟩
      go_wp2_with fail
      refine (rfew_any ss 200 _ _ (HV.out.below b1 (Nat.le_refl _)) hs.1 hs.2).mono ?_
      rintro e w2 ⟨rfl, rfl⟩
      rw [HF.out]
      go_wp2_with fail
      refine (rfew_any tt 200 _ _ (HU.out.below b1 (Nat.le_refl _)) hs2.1 hs2.2).mono ?_
      rintro e w2 ⟨rfl, rfl⟩
      rw [HF2.out]
      go_wp2_with fail
      go_ret
      exact ⟨rfl, b1⟩
    | true =>
      have hcap2 := few_cap tt hf2
      have HF2 := Lib.hid hf2; clear hf2
      have hjl := Nat.le_trans (joinL_cap ss) hcap
      have hjl2 := Nat.le_trans (joinL_cap tt) hcap2
      have hmin := min3_9 p.length q.length
      have hn1 : min (min p.length q.length) 9 ≤ p.length := by omega
      have hn2 : min (min p.length q.length) 9 ≤ q.length := by omega
      have hn3 : min (min p.length q.length) 9 ≤ 9 := by omega
      generalize min (min p.length q.length) 9 = n at hmin hn1 hn2 hn3
      obtain ⟨j1, g1⟩ : ∃ x, Hid (Dg.joinL ss = x) := ⟨_, rfl⟩
      obtain ⟨j2, g2⟩ : ∃ x, Hid (Dg.joinL tt = x) := ⟨_, rfl⟩
      obtain ⟨x1, g3⟩ : ∃ x, Hid (Dg.listL ss = x) := ⟨_, rfl⟩
      obtain ⟨x2, g4⟩ : ∃ x, Hid (Dg.listL tt = x) := ⟨_, rfl⟩
      obtain ⟨sm, g5⟩ : ∃ x, Hid ((ss == tt) = x) := ⟨_, rfl⟩
      have g6 : Hid (Dg.sumL j1 = x1) := by unfold Hid; rw [← g1.out, ← g3.out]; rfl
      have lj1 : j1.length ≤ 6630 := by rw [← g1.out]; exact hjl
      have lj2 : j2.length ≤ 6630 := by rw [← g2.out]; exact hjl2
      have hab : Hid ((j1 == j2) = sm) := by
        unfold Hid
        rw [← g1.out, ← g2.out, ← g5.out]
        by_cases e : ss = tt
        · subst e; rw [beq_self_eq_true, beq_self_eq_true]
        · have e2 : ¬ Dg.joinL ss = Dg.joinL tt := fun h => e (Dg.joinL_inj (fun s hs' => sized_mem hcap s hs') (fun s hs' => sized_mem hcap2 s hs') h)
          rw [beq_eq_false_iff_ne.mpr e, beq_eq_false_iff_ne.mpr e2]
      have hxx : j1.length ≤ 7 → j2.length ≤ 7 → Hid ((x1 == x2) = sm) := by
        intro k1 k2
        unfold Hid
        rw [← g3.out, ← g4.out, ← hab.out]
        unfold Dg.listL
        rw [g1.out, g2.out]
        by_cases e : j1 = j2
        · subst e; rw [beq_self_eq_true, beq_self_eq_true]
        · rw [beq_eq_false_iff_ne.mpr e, beq_eq_false_iff_ne.mpr (fun h => e (Dg.sumL_short k1 k2 h))]
      have h12 := one_two (p.take n) (q.take n) n (by simp; omega) (by simp; omega) hn3
      have lk : min n 6 ≤ n := by omega
      have hP := Lib.hid (ext_to p n)
      have hmin2 := min2_6 n
      have lP : (p.take n).length = n := by simp; omega
      generalize p.take n = P at h12 hP lP
      have r1 := slice_to P (min n 6) (by omega) (by omega)
      have r2 := slice_mid q (min n 6) n lk hn2 (by omega)
      have lQ : ((q.take n).drop (min n 6)).length ≤ 9 := by simp; omega
      have lT : (P.take (min n 6)).length ≤ 9 := by simp; omega
      generalize min n 6 = k at h12 hmin2 lk r1 r2 lQ lT
      generalize (q.take n).drop k = Q at h12 r2 lQ
      generalize P.take k = T at h12 r1 lT
      obtain ⟨U, hU⟩ : ∃ x, Hid (T ++ Q = x) := ⟨_, rfl⟩
      have q1 : (⟨T.toArray⟩ : ByteArray) ++ ⟨Q.toArray⟩ = ⟨U.toArray⟩ := by rw [mk_append, hU.out]
      have m1 := add_no ⟨T.toArray⟩ ⟨Q.toArray⟩ (by show T.length + Q.length ≤ _; omega)
      have lU : U.length ≤ 18 := by rw [← hU.out, List.length_append]; omega
      obtain ⟨y1, g7⟩ : ∃ x, Hid (Dg.listL [P] = x) := ⟨_, rfl⟩
      obtain ⟨y2, g8⟩ : ∃ x, Hid (Dg.listL [U] = x) := ⟨_, rfl⟩
      have n3 : ((y1 == y2) == (P == U)) = true := beq_two ⟨fun h => by
        rw [← g7.out, ← g8.out, ← hU.out] at h
        rw [h12 h, hU.out], fun h => by rw [← g7.out, ← g8.out, h]⟩
      clear h12
      generalize (⟨T.toArray⟩ : ByteArray) = T at r1 q1 m1
      generalize (⟨Q.toArray⟩ : ByteArray) = Q at r2 q1 m1
      by_cases k1 : j1.length ≤ 7
      · by_cases k2 : j2.length ≤ 7
        · skip
          go_enter Tryd.func9, Tryd.ntmps9
          go_wp2_with fail
          refine (head_any _ ht).mono ?_
          rintro e w1 ⟨rfl, b1⟩
          go_wp2_with fail
          refine (rfew_any ss 200 _ _ (HV.out.below b1 (Nat.le_refl _)) hs.1 hs.2).mono ?_
          rintro e w2 ⟨rfl, rfl⟩
          rw [HF.out]
          go_wp2_with fail
          refine (rfew_any tt 200 _ _ (HU.out.below b1 (Nat.le_refl _)) hs2.1 hs2.2).mono ?_
          rintro e w2 ⟨rfl, rfl⟩
          rw [HF2.out]
          go_wp2_with fail
          refine (rjoinedC ss _ j1 _ (HV.out.below b1 (Nat.le_refl _)) (by omega) g1).mono ?_
          rintro e w2 ⟨rfl, c⟩
          have b2 := below_next b1 c; clear c b1
          go_wp2_with fail
          refine (rjoinedC tt _ j2 _ (HU.out.below b2 (Nat.le_refl _)) (by omega) g2).mono ?_
          rintro e w3 ⟨rfl, c⟩
          have b3 := below_next b2 c; clear c b2
          go_wp2_with fail
          refine (listC ss _ x1 _ (ht.below b3 (Nat.le_refl _)) (HV.out.below b3 (Nat.le_refl _)) (by omega) g3).mono ?_
          rintro e w4 ⟨rfl, c⟩
          have b4 := below_next b3 c; clear c b3
          go_wp2_with fail
          refine (sumC j1 x1 (by omega) g6 _).mono ?_
          rintro e w5 ⟨rfl, c⟩
          have b5 := below_next b4 c; clear c b4
          go_wp2_with fail
          refine (rsameC ss tt _ _ sm _ (HV.out.below b5 (Nat.le_refl _)) (HU.out.below b5 (Nat.le_refl _)) hs.1 hs2.1 g5).mono ?_
          rintro e w6 ⟨rfl, c⟩
          have b6 := below_next b5 c; clear c b5
          rw [hab.out]
          go_wp2_with fail
          refine (listC ss _ x1 _ (ht.below b6 (Nat.le_refl _)) (HV.out.below b6 (Nat.le_refl _)) (by omega) g3).mono ?_
          rintro e w7 ⟨rfl, c⟩
          have b7 := below_next b6 c; clear c b6
          go_wp2_with fail
          refine (listC tt _ x2 _ (ht.below b7 (Nat.le_refl _)) (HU.out.below b7 (Nat.le_refl _)) (by omega) g4).mono ?_
          rintro e w8 ⟨rfl, c⟩
          have b8 := below_next b7 c; clear c b7
          go_wp2_with fail
          refine (rsameC ss tt _ _ sm _ (HV.out.below b8 (Nat.le_refl _)) (HU.out.below b8 (Nat.le_refl _)) hs.1 hs2.1 g5).mono ?_
          rintro e w9 ⟨rfl, c⟩
          have b9 := below_next b8 c; clear c b8
          rw [(hxx k1 k2).out]
          go_wp2_with fail
          rw [hP.out]
          clear hmin
          go_region_held3 (fun _ => True) (trivial) (first | fail)
          clear r1 r2 q1 m1 hmin2
          go_wp2_with fail
          all_goals
            first | refine (listOneD P y1 ht (by assumption) (by omega) g7).mono ?_ | refine (listOne P y1 ht (by assumption) (by omega) g7).mono ?_
            rintro e w10 ⟨rfl, c10⟩
            go_wp2_with fail
            refine (listOne U y2 ht c10 (by omega) g8).mono ?_
            rintro e w11 ⟨rfl, c11⟩
            go_wp2_with fail
            go_ret
            exact ⟨rfl, c11⟩
        · skip
          go_enter Tryd.func9, Tryd.ntmps9
          go_wp2_with fail
          refine (head_any _ ht).mono ?_
          rintro e w1 ⟨rfl, b1⟩
          go_wp2_with fail
          refine (rfew_any ss 200 _ _ (HV.out.below b1 (Nat.le_refl _)) hs.1 hs.2).mono ?_
          rintro e w2 ⟨rfl, rfl⟩
          rw [HF.out]
          go_wp2_with fail
          refine (rfew_any tt 200 _ _ (HU.out.below b1 (Nat.le_refl _)) hs2.1 hs2.2).mono ?_
          rintro e w2 ⟨rfl, rfl⟩
          rw [HF2.out]
          go_wp2_with fail
          refine (rjoinedC ss _ j1 _ (HV.out.below b1 (Nat.le_refl _)) (by omega) g1).mono ?_
          rintro e w2 ⟨rfl, c⟩
          have b2 := below_next b1 c; clear c b1
          go_wp2_with fail
          refine (rjoinedC tt _ j2 _ (HU.out.below b2 (Nat.le_refl _)) (by omega) g2).mono ?_
          rintro e w3 ⟨rfl, c⟩
          have b3 := below_next b2 c; clear c b2
          go_wp2_with fail
          refine (listC ss _ x1 _ (ht.below b3 (Nat.le_refl _)) (HV.out.below b3 (Nat.le_refl _)) (by omega) g3).mono ?_
          rintro e w4 ⟨rfl, c⟩
          have b4 := below_next b3 c; clear c b3
          go_wp2_with fail
          refine (sumC j1 x1 (by omega) g6 _).mono ?_
          rintro e w5 ⟨rfl, c⟩
          have b5 := below_next b4 c; clear c b4
          go_wp2_with fail
          refine (rsameC ss tt _ _ sm _ (HV.out.below b5 (Nat.le_refl _)) (HU.out.below b5 (Nat.le_refl _)) hs.1 hs2.1 g5).mono ?_
          rintro e w6 ⟨rfl, c⟩
          have b6 := below_next b5 c; clear c b5
          rw [hab.out]
          go_wp2_with fail
          rw [hP.out]
          clear hmin
          go_region_held3 (fun _ => True) (trivial) (first | fail)
          clear r1 r2 q1 m1 hmin2
          go_wp2_with fail
          all_goals
            first | refine (listOneD P y1 ht (by assumption) (by omega) g7).mono ?_ | refine (listOne P y1 ht (by assumption) (by omega) g7).mono ?_
            rintro e w10 ⟨rfl, c10⟩
            go_wp2_with fail
            refine (listOne U y2 ht c10 (by omega) g8).mono ?_
            rintro e w11 ⟨rfl, c11⟩
            go_wp2_with fail
            go_ret
            exact ⟨rfl, c11⟩
      · skip
        go_enter Tryd.func9, Tryd.ntmps9
        go_wp2_with fail
        refine (head_any _ ht).mono ?_
        rintro e w1 ⟨rfl, b1⟩
        go_wp2_with fail
        refine (rfew_any ss 200 _ _ (HV.out.below b1 (Nat.le_refl _)) hs.1 hs.2).mono ?_
        rintro e w2 ⟨rfl, rfl⟩
        rw [HF.out]
        go_wp2_with fail
        refine (rfew_any tt 200 _ _ (HU.out.below b1 (Nat.le_refl _)) hs2.1 hs2.2).mono ?_
        rintro e w2 ⟨rfl, rfl⟩
        rw [HF2.out]
        go_wp2_with fail
        refine (rjoinedC ss _ j1 _ (HV.out.below b1 (Nat.le_refl _)) (by omega) g1).mono ?_
        rintro e w2 ⟨rfl, c⟩
        have b2 := below_next b1 c; clear c b1
        go_wp2_with fail
        refine (rjoinedC tt _ j2 _ (HU.out.below b2 (Nat.le_refl _)) (by omega) g2).mono ?_
        rintro e w3 ⟨rfl, c⟩
        have b3 := below_next b2 c; clear c b2
        go_wp2_with fail
        refine (listC ss _ x1 _ (ht.below b3 (Nat.le_refl _)) (HV.out.below b3 (Nat.le_refl _)) (by omega) g3).mono ?_
        rintro e w4 ⟨rfl, c⟩
        have b4 := below_next b3 c; clear c b3
        go_wp2_with fail
        refine (sumC j1 x1 (by omega) g6 _).mono ?_
        rintro e w5 ⟨rfl, c⟩
        have b5 := below_next b4 c; clear c b4
        go_wp2_with fail
        refine (rsameC ss tt _ _ sm _ (HV.out.below b5 (Nat.le_refl _)) (HU.out.below b5 (Nat.le_refl _)) hs.1 hs2.1 g5).mono ?_
        rintro e w6 ⟨rfl, c⟩
        have b6 := below_next b5 c; clear c b5
        rw [hab.out]
        go_wp2_with fail
        rw [hP.out]
        clear hmin
        go_region_held3 (fun _ => True) (trivial) (first | fail)
        clear r1 r2 q1 m1 hmin2
        go_wp2_with fail
        all_goals
          first | refine (listOneD P y1 ht (by assumption) (by omega) g7).mono ?_ | refine (listOne P y1 ht (by assumption) (by omega) g7).mono ?_
          rintro e w10 ⟨rfl, c10⟩
          go_wp2_with fail
          refine (listOne U y2 ht c10 (by omega) g8).mono ?_
          rintro e w11 ⟨rfl, c11⟩
          go_wp2_with fail
          go_ret
          exact ⟨rfl, c11⟩
end Go.Proofs.YtblcakhcbkahaaaDoor
