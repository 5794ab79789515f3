/- PLAIN: the joined text of a list, decimal numerals; no program in sight. -/
import Derived.Test.YtblcakhcbkahaaaDoorDgPlain
import Derived.Lib.ItoaNum
namespace Go.Proofs.YtblcakhcbkahaaaDoor.Dg

/-- decimal digits, with fuel (so that the kernel can reckon) -/
def decF : Nat → Nat → List UInt8
  | 0, _ => []
  | f + 1, u => if u < 10 then [UInt8.ofNat (48 + u)] else decF f (u / 10) ++ [UInt8.ofNat (48 + u % 10)]
def decN (u : Nat) : List UInt8 := decF 20 u

theorem decF_eq (f : Nat) : ∀ u, u < 10 ^ f → 0 < f → decF f u = Lib.decDigits u := by
  induction f with
  | zero => intro u _ h; omega
  | succ f ih =>
    intro u hu _
    rw [decF, Lib.decDigits]
    by_cases h : u < 10
    · rw [if_pos h, dif_pos h]
    · rw [if_neg h, dif_neg h]
      have hf : 0 < f := by
        rcases Nat.eq_zero_or_pos f with e | e
        · subst e; simp at hu; omega
        · exact e
      rw [ih (u / 10) (by rw [Nat.pow_succ] at hu; omega) hf]

theorem decN_eq (u : Nat) (h : u < 100000000000000000000) : decN u = Lib.decDigits u := decF_eq 20 u h (by decide)

theorem itoa_nat (n : Nat) (h : n < 100000000000000000000) : Lib.itoa (n : Int) = decN n := by
  unfold Lib.itoa
  rw [if_neg (by omega), decN_eq n h]
  rfl

theorem decF_length (f : Nat) : ∀ u, (decF f u).length ≤ f := by
  induction f with
  | zero => intro u; simp [decF]
  | succ f ih =>
    intro u
    rw [decF]
    split
    · simp
    · have := ih (u / 10); simp; omega
theorem decN_length (u : Nat) : (decN u).length ≤ 20 := decF_length 20 u

theorem dig_toNat (u : Nat) (h : u < 10) : (UInt8.ofNat (48 + u)).toNat = 48 + u := by
  rw [UInt8.toNat_ofNat']; omega

theorem decF_digits (f : Nat) : ∀ u, ∀ c ∈ decF f u, 48 ≤ c.toNat ∧ c.toNat ≤ 57 := by
  induction f with
  | zero => intro u c hc; simp [decF] at hc
  | succ f ih =>
    intro u c hc
    rw [decF] at hc
    split at hc
    · obtain rfl := List.mem_singleton.1 hc; rw [dig_toNat u (by omega)]; omega
    · rcases List.mem_append.1 hc with h | h
      · exact ih _ c h
      · obtain rfl := List.mem_singleton.1 h; rw [dig_toNat _ (by omega)]; omega

/-- the number that digits stand for -/
def valD (l : List UInt8) : Nat := l.foldl (fun n c => n * 10 + (c.toNat - 48)) 0
theorem valD_snoc (l : List UInt8) (c : UInt8) : valD (l ++ [c]) = valD l * 10 + (c.toNat - 48) := by
  unfold valD; rw [List.foldl_append]; rfl
theorem valD_decF (f : Nat) : ∀ u, u < 10 ^ f → 0 < f → valD (decF f u) = u := by
  induction f with
  | zero => intro u _ h; omega
  | succ f ih =>
    intro u hu _
    rw [decF]
    by_cases h : u < 10
    · rw [if_pos h]; show (0 * 10 + ((UInt8.ofNat (48 + u)).toNat - 48)) = u; rw [dig_toNat u h]; omega
    · rw [if_neg h, valD_snoc, dig_toNat _ (by omega)]
      have hf : 0 < f := by
        rcases Nat.eq_zero_or_pos f with e | e
        · subst e; simp at hu; omega
        · exact e
      rw [ih (u / 10) (by rw [Nat.pow_succ] at hu; omega) hf]
      omega
theorem decN_inj {a b : Nat} (ha : a < 100000000000000000000) (hb : b < 100000000000000000000) (h : decN a = decN b) : a = b := by
  have h1 := valD_decF 20 a ha (by decide)
  have h2 := valD_decF 20 b hb (by decide)
  unfold decN at h
  rw [← h1, ← h2, h]

/-- one element of the joined text -/
def item (s : List UInt8) : List UInt8 := decN s.length ++ 58 :: s
/-- the joined text of a list -/
def joinL : List (List UInt8) → List UInt8
  | [] => []
  | s :: r => item s ++ joinL r
theorem joinL_snoc (l : List (List UInt8)) (s : List UInt8) : joinL (l ++ [s]) = joinL l ++ item s := by
  induction l with
  | nil => simp [joinL]
  | cons x r ih => rw [List.cons_append, joinL, ih, joinL, List.append_assoc]
theorem joinL_append (l m : List (List UInt8)) : joinL (l ++ m) = joinL l ++ joinL m := by
  induction l with
  | nil => simp [joinL]
  | cons x r ih => rw [List.cons_append, joinL, ih, joinL, List.append_assoc]
theorem item_length (s : List UInt8) : s.length < (item s).length ∧ (item s).length ≤ s.length + 21 := by
  have := decN_length s.length
  unfold item; simp; omega

def listL (l : List (List UInt8)) : List UInt8 := sumL (joinL l)

/-- cut at the first colon -/
theorem colon_inj {p q : List UInt8} (hp : ∀ c ∈ p, c.toNat ≤ 57) (hq : ∀ c ∈ q, c.toNat ≤ 57) {x y : List UInt8} (h : p ++ 58 :: x = q ++ 58 :: y) : p = q ∧ x = y := by
  induction p generalizing q with
  | nil =>
    cases q with
    | nil => simpa using h
    | cons c r => simp at h; have := hq c (by simp); rw [← h.1] at this; exact absurd this (by decide)
  | cons d p ih =>
    cases q with
    | nil => simp at h; have := hp d (by simp); rw [h.1] at this; exact absurd this (by decide)
    | cons c r =>
      simp at h
      obtain ⟨e1, e2⟩ := ih (fun c hc => hp c (by simp [hc])) (q := r) (fun c hc => hq c (by simp [hc])) h.2
      exact ⟨by rw [h.1, e1], e2⟩

theorem decN_le (u : Nat) : ∀ c ∈ decN u, c.toNat ≤ 57 := fun c hc => (decF_digits 20 u c hc).2

theorem item_inj {s t x y : List UInt8} (hs : s.length < 100000000000000000000) (ht : t.length < 100000000000000000000) (h : item s ++ x = item t ++ y) : s = t ∧ x = y := by
  unfold item at h
  simp only [List.append_assoc, List.cons_append] at h
  obtain ⟨e1, e2⟩ := colon_inj (decN_le _) (decN_le _) h
  have := decN_inj hs ht e1
  exact List.append_inj e2 this

theorem item_ne_nil (s : List UInt8) : item s ≠ [] := by unfold item; simp

theorem joinL_inj {l m : List (List UInt8)} (hl : ∀ s ∈ l, s.length < 100000000000000000000) (hm : ∀ s ∈ m, s.length < 100000000000000000000) (h : joinL l = joinL m) : l = m := by
  induction l generalizing m with
  | nil =>
    cases m with
    | nil => rfl
    | cons t m => simp [joinL, item_ne_nil] at h
  | cons s l ih =>
    cases m with
    | nil => simp [joinL, item_ne_nil] at h
    | cons t m =>
      rw [joinL, joinL] at h
      obtain ⟨e1, e2⟩ := item_inj (hl s (by simp)) (hm t (by simp)) h
      rw [e1, ih (fun x hx => hl x (by simp [hx])) (fun x hx => hm x (by simp [hx])) e2]

end Go.Proofs.YtblcakhcbkahaaaDoor.Dg
