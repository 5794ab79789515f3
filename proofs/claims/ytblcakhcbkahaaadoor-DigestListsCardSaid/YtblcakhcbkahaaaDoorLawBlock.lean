/- WALK: the statement DigestBlock returns true. -/
import Derived.Test.YtblcakhcbkahaaaDoorLawShort
import Derived.Deep.RegionWith
import Derived.Deep.RegionHeld3
namespace Go.Proofs.YtblcakhcbkahaaaDoor
open Go.RowKit

theorem min3_8 (a b : Nat) (W : World) : (Builtin.min_ #[3, 3, 3] 3 #[.int .i64 (a : Int), .int .i64 (b : Int), .int .i64 8]).run Tryd.prog W = .ok (.int .i64 ((min (min a b) 8 : Nat) : Int)) W := by
  have e : (if (8 : Int) < (if (b : Int) < (a : Int) then (b : Int) else (a : Int)) then (8 : Int) else (if (b : Int) < (a : Int) then (b : Int) else (a : Int))) = ((min (min a b) 8 : Nat) : Int) := by
    split <;> split <;> omega
  rw [← e]
  rfl
theorem ext_to (a : List UInt8) (n : Nat) : (⟨a.toArray⟩ : ByteArray).extract 0 n = ⟨(a.take n).toArray⟩ := by
  apply mk_ext; rw [Lib.extract_data]; rfl
theorem ext_from (a : List UInt8) (n : Nat) : (⟨a.toArray⟩ : ByteArray).extract n a.length = ⟨(a.drop n).toArray⟩ := by
  apply mk_ext; rw [Lib.extract_data]
  show (a.drop n).take (a.length - n) = a.drop n
  rw [List.take_of_length_le (by simp)]

theorem add_no (a b : ByteArray) (h : a.size + b.size ≤ 9223372036854775807) : ¬ (a.size + b.size > 9223372036854775807) := by omega
def sumF (u : ByteArray) : ByteArray := ⟨(Dg.sumL u.data.toList).toArray⟩
theorem sumG (u : ByteArray) (w : World) (h : u.size ≤ 4008) : Calls Tryd.prog 12 #[.string u] w fun e w' => e = .returned (.string (sumF u)) ∧ Below w.heap.size w w' := by
  have hu : u = ⟨u.data.toList.toArray⟩ := by simp
  have h2 : u.data.toList.length ≤ 140737488355328 := by
    have e : u.data.toList.length = u.size := by rw [Array.length_toList]; rfl
    omega
  have c := sumC u.data.toList _ h2 rfl w
  rw [← hu] at c
  exact c
set_option maxHeartbeats 1000000 in
set_option maxRecDepth 100000 in
theorem block_walk (l : List UInt8) (p : Nat) (a b : List UInt8) (w : World) (ht : Tab w) (hl : l.length ≤ 140737488355328) (hp : p < 256) (ha : a.length ≤ 140737488355328) (hb : b.length ≤ 140737488355328) :
    Calls Tryd.prog 7 #[.string ⟨l.toArray⟩, .int .u8 (p : Int), .string ⟨a.toArray⟩, .string ⟨b.toArray⟩] w fun e w' => e = .returned (.bool true) ∧ Below w.heap.size w w' := by
  have hmin := min3_8 a.length b.length
  have hn1 : min (min a.length b.length) 8 ≤ a.length := by omega
  have hn2 : min (min a.length b.length) 8 ≤ b.length := by omega
  have hn3 : min (min a.length b.length) 8 ≤ 8 := by omega
  generalize min (min a.length b.length) 8 = n at hmin hn1 hn2 hn3
  by_cases h2 : 2000 < l.length
  · have HA := Lib.hid (ext_to a n)
    have HB := Lib.hid (ext_to b n)
    go_enter Tryd.func7, Tryd.ntmps7
    go_wp2_with fail
    refine (head_any _ ht).mono ?_
    rintro e w1 ⟨rfl, b1⟩
    go_wp2_with fail
    go_ret
    exact ⟨rfl, b1⟩
  · by_cases h3 : l.length < 8 * p
    · go_enter Tryd.func7, Tryd.ntmps7
      go_wp2_with fail
      refine (head_any _ ht).mono ?_
      rintro e w1 ⟨rfl, b1⟩
      go_wp2_with fail
      go_ret
      exact ⟨rfl, b1⟩
    · have HA := Lib.hid (ext_to a n)
      have HB := Lib.hid (ext_to b n)
      have HR : Hid ((⟨l.toArray⟩ : ByteArray).extract (min (8 * (p : Int) + (n : Int)) (l.length : Int)).toNat l.length = ⟨(l.drop (min (8 * p + n) l.length)).toArray⟩) := by
        unfold Hid
        rw [← ext_from]; congr 1; omega
      have hsl : ∀ W : World, (Instr.slice 9 (.string ⟨l.toArray⟩) none (some (.int .i64 (8 * (p : Int)))) none).run Tryd.prog W = .ok (.string ⟨(l.take (8 * p)).toArray⟩) W := by
        intro W
        have h := run_slice_string_h (P := Tryd.prog) (t := 9) (s := ⟨l.toArray⟩) (w := W) Tryd.underlying9 .i64 (8 * (p : Int)) (by omega) (by show 8 * (p : Int) ≤ (l.length : Int); omega)
        rw [h, show (8 * (p : Int)).toNat = 8 * p by omega, ext_to]
      have lT : (l.take (8 * p)).length ≤ 2000 := by simp; omega
      have lT8 : (l.take (8 * p)).length % 8 = 0 := by rw [List.length_take, Nat.min_eq_left (by omega)]; omega
      have lR : (l.drop (min (8 * p + n) l.length)).length ≤ 2000 := by simp; omega
      have lA : (a.take n).length = n := by simp; omega
      have lB : (b.take n).length = n := by simp; omega
      generalize l.take (8 * p) = T at hsl lT lT8
      generalize l.drop (min (8 * p + n) l.length) = R at HR lR
      generalize a.take n = A at HA lA
      generalize b.take n = B at HB lB
      have lA' : A.length ≤ 8 := by omega
      have lB' : B.length ≤ 8 := by omega
      obtain ⟨TA, hTA⟩ : ∃ x, Hid (T ++ A = x) := ⟨_, rfl⟩
      obtain ⟨TB, hTB⟩ : ∃ x, Hid (T ++ B = x) := ⟨_, rfl⟩
      obtain ⟨U, hU⟩ : ∃ x, Hid (TA ++ R = x) := ⟨_, rfl⟩
      obtain ⟨V, hV⟩ : ∃ x, Hid (TB ++ R = x) := ⟨_, rfl⟩
      have lTA : TA.length ≤ 2008 := by rw [← hTA.out, List.length_append]; omega
      have lTB : TB.length ≤ 2008 := by rw [← hTB.out, List.length_append]; omega
      have lU : U.length ≤ 4008 := by rw [← hU.out, List.length_append]; omega
      have lV : V.length ≤ 4008 := by rw [← hV.out, List.length_append]; omega
      have q1 : (⟨T.toArray⟩ : ByteArray) ++ ⟨A.toArray⟩ = ⟨TA.toArray⟩ := by rw [mk_append, hTA.out]
      have q2 : (⟨T.toArray⟩ : ByteArray) ++ ⟨B.toArray⟩ = ⟨TB.toArray⟩ := by rw [mk_append, hTB.out]
      have q3 : (⟨TA.toArray⟩ : ByteArray) ++ ⟨R.toArray⟩ = ⟨U.toArray⟩ := by rw [mk_append, hU.out]
      have q4 : (⟨TB.toArray⟩ : ByteArray) ++ ⟨R.toArray⟩ = ⟨V.toArray⟩ := by rw [mk_append, hV.out]
      have m1 := add_no ⟨T.toArray⟩ ⟨A.toArray⟩ (by show T.length + A.length ≤ _; omega)
      have m2 := add_no ⟨T.toArray⟩ ⟨B.toArray⟩ (by show T.length + B.length ≤ _; omega)
      have m3 := add_no ⟨TA.toArray⟩ ⟨R.toArray⟩ (by show TA.length + R.length ≤ _; omega)
      have m4 := add_no ⟨TB.toArray⟩ ⟨R.toArray⟩ (by show TB.length + R.length ≤ _; omega)
      obtain ⟨x, hx⟩ : ∃ x, Hid (Dg.sumL U = x) := ⟨_, rfl⟩
      obtain ⟨y, hy⟩ : ∃ x, Hid (Dg.sumL V = x) := ⟨_, rfl⟩
      have C1 := Lib.hid sumG
      have zU : sumF ⟨U.toArray⟩ = ⟨x.toArray⟩ := by rw [← hx.out]; rfl
      have zV : sumF ⟨V.toArray⟩ = ⟨y.toArray⟩ := by rw [← hy.out]; rfl
      have sU : (⟨U.toArray⟩ : ByteArray).size ≤ 4008 := lU
      have sV : (⟨V.toArray⟩ : ByteArray).size ≤ 4008 := lV
      have n3 : (((sumF ⟨U.toArray⟩).toList == (sumF ⟨V.toArray⟩).toList) == ((⟨A.toArray⟩ : ByteArray).toList == (⟨B.toArray⟩ : ByteArray).toList)) = true := by
        rw [zU, zV]
        by_cases e : A = B
        · subst e
          have t1 : TA = TB := by rw [← hTA.out, ← hTB.out]
          have t2 : U = V := by rw [← hU.out, ← hV.out, t1]
          rw [show x = y by rw [← hx.out, ← hy.out, t2]]
          rw [beq_self_eq_true, beq_self_eq_true]; rfl
        · have n1 : (A == B) = false := by simpa using e
          have n2 : (x == y) = false := by
            rw [beq_eq_false_iff_ne]; intro h
            rw [← hx.out, ← hy.out, ← hU.out, ← hV.out, ← hTA.out, ← hTB.out] at h
            exact e (Dg.sumL_block lT8 (by omega) (by omega) (by omega) h)
          simp only [ByteArray.toList_eq, n1, n2]
          rfl
      clear zU zV lA lB lT8 hx hy hU hV hTA hTB lTA lTB lU lV lT lR lA' lB'
      generalize (⟨A.toArray⟩ : ByteArray) = A at HA q1 m1 n3
      generalize (⟨B.toArray⟩ : ByteArray) = B at HB q2 m2 n3
      generalize (⟨T.toArray⟩ : ByteArray) = T at hsl q1 q2 m1 m2
      generalize (⟨R.toArray⟩ : ByteArray) = R at HR q3 q4 m3 m4
      generalize (⟨TA.toArray⟩ : ByteArray) = TA at q1 q3 m3
      generalize (⟨TB.toArray⟩ : ByteArray) = TB at q2 q4 m4
      generalize (⟨U.toArray⟩ : ByteArray) = U at q3 sU n3
      generalize (⟨V.toArray⟩ : ByteArray) = V at q4 sV n3
      go_enter Tryd.func7, Tryd.ntmps7
      go_wp2_with fail
      refine (head_any _ ht).mono ?_
      rintro e w1 ⟨rfl, b1⟩
      go_wp2_with fail
      rw [HA.out, HB.out, HR.out]
      clear hmin
      go_region_held3 (fun _ => True) (trivial) (first | (go_at_call 12; refine (C1.out _ _ ?_).mono ?_; (first | exact sU | exact sV); rintro e w' ⟨rfl, hb1⟩))
      clear n3 q1 q2 q3 q4 m1 m2 m3 m4
      go_wp2_with fail
      go_ret
      have b2 : Below w.heap.size w w1.drew := b1.trans ⟨rfl, rfl, rfl, Nat.le_refl _, fun _ _ => rfl⟩
      exact ⟨rfl, below_next (below_next b2 (by assumption)) (by assumption)⟩
end Go.Proofs.YtblcakhcbkahaaaDoor
