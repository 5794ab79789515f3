/- WHAT ALL ROWS OF THIS SEAT SHARE: the arguments opened, the table out of the listed variables, a world for the witness. -/
import Derived.Test.YtblcakhcbkahaaaDoorTie
import Derived.Test.YtblcakhcbkahaaaDoorCards
import Derived.Test.YtblcakhcbkahaaaDoorDgHead
import Derived.ProofKit
import Derived.OpenShut
import Derived.SizedLaws
import Derived.Deep.DeepHandedRow
import Derived.Lib.LaidTab
namespace Go.Proofs.YtblcakhcbkahaaaDoor
open Go.ChangeShapes Go.WideShapes Go.ChangeAt Go.RowKit
open Go.ChangeMaps (open_string)

theorem own : ownKnob Tryd.prog.godebug = none := by kernel_rfl
theorem laidOut : laidOutB Tryd.prog = true := by kernel_rfl
theorem cellsString : Tryd.prog.cellsOf 9 = 1 := by kernel_rfl
theorem bytesString : Tryd.prog.bytesOf 9 = 16 := by kernel_rfl

/-- the sizes that a list has by the form's own reach -/
def Sized (ss : List (List UInt8)) : Prop := ss.length ≤ 140737488355328 ∧ ∀ j, j < ss.length → (ss.getD j []).length ≤ 9223372036854775807

theorem bytes_eta (s : ByteArray) : (⟨s.data.toList.toArray⟩ : ByteArray) = s := by simp
theorem strs_open {H : Type} {enc : TypeId × Value → H} {W : World} {sp : Nat → Bool} {held : Bool} {a : Option Addr} {len cap : Nat} {d : DataW H} {p : List MemPlace}
    (h : DataW.Trod enc Tryd.prog W 0 sp held 22 (.slice a len cap) d p) (hsz : ∀ elems spare, d = .slice elems spare → (elems.length + spare.length) * Tryd.prog.bytesOf 9 ≤ reachBytes) :
    ∃ ss, HasStrs W (.slice a len cap) ss ∧ Sized ss := by
  obtain ⟨fuel, hf⟩ := h
  rcases open_strings Tryd.underlying22 Tryd.underlying9 cellsString hf with ⟨hcs, _⟩ | ⟨x, l, c, ss, hcs, _, hl, hm, hz, hx, hcell, hwz⟩
  · simp [Value.cells] at hcs
    obtain ⟨rfl, rfl, rfl⟩ := hcs
    exact ⟨[], Or.inl ⟨rfl, _, _, rfl⟩, by simp, by simp⟩
  · simp [Value.cells] at hcs
    obtain ⟨rfl, rfl, rfl⟩ := hcs
    have hb := hsz _ _ (congrArg Prod.fst hx)
    rw [bytesString] at hb
    have hll : len ≤ ss.length := by rw [hz]; split <;> omega
    simp only [strs, List.length_map, List.length_take, List.length_drop, reachBytes] at hb
    have hlen : ((ss.take len).map fun s => s.data.toList).length = len := by simp; omega
    have hget : ∀ j, j < len → ((ss.take len).map fun s => s.data.toList).getD j [] = (ss.getD j ByteArray.empty).data.toList := by
      intro j hj
      simp [List.getD, hj, List.getElem?_eq_getElem (show j < ss.length by omega)]
    refine ⟨(ss.take len).map fun s => s.data.toList, ?_, by rw [hlen]; omega, ?_⟩
    · by_cases h0 : len = 0
      · subst h0
        exact Or.inl ⟨by simp, _, _, rfl⟩
      · have hc0 := hcell 0 (by omega)
        obtain ⟨b, off, spot⟩ := x
        have hspot : spot = none := by simpa [Addr.add] using World.cell?_spot hc0
        subst hspot
        refine Or.inr ⟨by omega, b, off, cap, by rw [hlen], by simpa [Addr.add] using block_lt_of_cell hc0, fun j hj => ?_⟩
        rw [hget j (by omega), bytes_eta, ← hcell j (by omega), add_plain]
    · intro j hj
      rw [hget j (by omega), ← Lib.size_eq]
      have := hwz (ss.getD j ByteArray.empty) (by
        have hj2 : j < ss.length := by omega
        simp [List.getD, List.getElem?_eq_getElem hj2])
      unfold maxLen at this
      exact this

/-- one listed variable's reading -/
def VarReads (P : Program) (w : World) (n : String) (d : DataW Unit) : Prop :=
  ∃ g t cs fuel p, P.globalNamed n = some g ∧ (P.globals[g]?).map (·.type) = some t ∧ w.var? P n = some cs ∧ DataW.trod (fun _ => ()) P w 0 (fun _ => true) false fuel t cs.toList = some (d, p)
theorem laidVars_reads {P : Program} {w : World} : ∀ {l : List (String × DataW Unit)} {ps : List MemPlace}, DataW.LaidVars P w l ps → ∀ n d, (n, d) ∈ l → VarReads P w n d
  | [], _, _, _, _, hm => by cases hm
  | (n', d') :: r, ps, h, n, d, hm => by
    obtain ⟨g, t, cs, fuel, p, q, h1, h2, h3, h4, h5, _⟩ := h
    rcases List.mem_cons.1 hm with e | e
    · cases e
      exact ⟨g, t, cs, fuel, p, h1, h2, h3, h4⟩
    · exact laidVars_reads h5 n d e
theorem tab_type : (Tryd.prog.globals[0]?).map (·.type) = some 82 := by kernel_rfl
theorem tab_cells : Tryd.prog.cellsOf 82 = 20 := by kernel_rfl
theorem tab_cell : Tryd.prog.cellsOf 37 = 1 := by kernel_rfl
theorem tab_of {W : World} {l : List (String × DataW Unit)} (h : laidMet Tryd.prog l W) (hm : ("internal/strconv.uint64pow10", Rows.laid_internal_strconv_uint64pow10) ∈ l) : Tab W := by
  obtain ⟨ps, hv, _⟩ := h
  obtain ⟨g, t, cs, fuel, p, hg, ht, hvar, hd⟩ := laidVars_reads hv _ _ hm
  obtain rfl := Option.some.inj (gTab10.symm.trans hg)
  obtain rfl := Option.some.inj (tab_type.symm.trans ht)
  have e : (Rows.laid_internal_strconv_uint64pow10 : DataW Unit) = Lib.tabData .u64 Lib.pow10Tab := by kernel_rfl
  rw [e] at hd
  unfold Tab Lib.TabIs
  rw [hvar, ← Lib.cells_of_tab Tryd.underlying82 Tryd.underlying37 tab_cell tab_cells hd]

/-- the cells that read as a datum of plain numbers -/
def cellsOfD : DataW Unit → List Value
  | .lit (.int k n) => [.int k n]
  | .agg l => cellsOfL l
  | _ => []
where cellsOfL : List (DataW Unit) → List Value
  | [] => []
  | d :: r => cellsOfD d ++ cellsOfL r
def layAt (h : Array Obj) (g : Nat) (d : DataW Unit) : Array Obj := h.modify g fun
  | .cells _ t frozen => .cells (cellsOfD d).toArray t frozen
  | o => o
/-- the settled world's memory, the five tables holding what their initialisers lay -/
noncomputable def laidHeap (os : Os) : Array Obj :=
  layAt (layAt (layAt (layAt (layAt (World.holding Tryd.prog os ⟨#[], #[], []⟩).heap 4 Rows.laid_math_bits_deBruijn32tab) 5 Rows.laid_math_bits_deBruijn64tab) 0 Rows.laid_internal_strconv_uint64pow10) 2 Rows.laid_unicode_utf8_acceptRanges) 1 Rows.laid_unicode_utf8_first
/-- a world for the witness -/
noncomputable def laidWorld (os : Os) : World := { World.holding Tryd.prog os ⟨#[], #[], []⟩ with heap := laidHeap os }
end Go.Proofs.YtblcakhcbkahaaaDoor
