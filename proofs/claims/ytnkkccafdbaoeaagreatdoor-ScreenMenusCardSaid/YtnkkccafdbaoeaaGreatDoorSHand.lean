/-
  Rows that came in: of numbers, of texts, of truths.
-/
import Derived.Test.YtnkkccafdbaoeaaGreatDoorSPlaces
import Derived.WalkSpells
import Derived.ProofKit
import Derived.OpenShut
import Derived.ChangeSlices
import Derived.Deep.Strs
import Derived.Deep.Grids
import Derived.SizedLaws
namespace Go.Proofs.YtnkkccafdbaoeaaGreatDoor.H
open Go.RowKit Go.Proofs.YtnkkccafdbaoeaaGreatDoorW.PrintWords Go.Proofs.YtnkkccafdbaoeaaGreatDoorW.PrintLast Go.Proofs.YtnkkccafdbaoeaaGreatDoorW.PrintMore
open Go.ChangeShapes Go.WideShapes
set_option linter.unusedVariables false
set_option linter.unusedSimpArgs false

/-- A row that came in, or none where there is nothing in it: its elements' cells. -/
structure Rows (w : World) (A : Option Addr) (xs : List Value) : Prop where
  cells : ∀ i, i < xs.length → ∃ b off, A = some ⟨b, off, none⟩ ∧ w.cell? ⟨b, off + i, none⟩ = xs[i]?
theorem Rows.below {w w' : World} {A : Option Addr} {xs : List Value} (h : Rows w A xs) (hb : Below w.heap.size w w') : Rows w' A xs := ⟨fun i hi => by
  obtain ⟨b, off, e, hc⟩ := h.cells i hi
  refine ⟨b, off, e, ?_⟩
  rw [List.getElem?_eq_getElem hi] at hc ⊢
  exact cell_later hb hc⟩
theorem Rows.int {w : World} {A : Option Addr} {k : IntKind} {xs : List Int} (h : Rows w A (nums k xs)) (i : Nat) (hi : i < xs.length) : ∃ b off, A = some ⟨b, off, none⟩ ∧ w.cell? ⟨b, off + i, none⟩ = some (.int k (xs.getD i 0)) := by
  obtain ⟨b, off, e, hc⟩ := h.cells i (by simpa [nums] using hi)
  refine ⟨b, off, e, hc.trans ?_⟩
  simp [nums, List.getElem?_eq_getElem hi, List.getD_eq_getElem?_getD]
theorem Rows.at_ {w : World} {b o : Nat} {xs : List Value} (h : Rows w (some ⟨b, o, none⟩) xs) (i : Nat) (hi : i < xs.length) : w.cell? ⟨b, o + i, none⟩ = xs[i]? := by
  obtain ⟨b', o', e, hc⟩ := h.cells i hi
  injection e with e
  injection e with e1 e2
  subst e1 e2
  exact hc
def strsV (xs : List ByteArray) : List Value := xs.map Value.string
def boolsV (xs : List Bool) : List Value := xs.map Value.bool
theorem Rows.str {w : World} {A : Option Addr} {xs : List ByteArray} (h : Rows w A (strsV xs)) (i : Nat) (hi : i < xs.length) : ∃ b off, A = some ⟨b, off, none⟩ ∧ w.cell? ⟨b, off + i, none⟩ = some (.string (xs.getD i ⟨#[]⟩)) := by
  obtain ⟨b, off, e, hc⟩ := h.cells i (by simpa [strsV] using hi)
  refine ⟨b, off, e, hc.trans ?_⟩
  simp [strsV, List.getElem?_eq_getElem hi, List.getD_eq_getElem?_getD]
theorem Rows.bool {w : World} {A : Option Addr} {xs : List Bool} (h : Rows w A (boolsV xs)) (i : Nat) (hi : i < xs.length) : ∃ b off, A = some ⟨b, off, none⟩ ∧ w.cell? ⟨b, off + i, none⟩ = some (.bool (xs.getD i false)) := by
  obtain ⟨b, off, e, hc⟩ := h.cells i (by simpa [boolsV] using hi)
  refine ⟨b, off, e, hc.trans ?_⟩
  simp [boolsV, List.getElem?_eq_getElem hi, List.getD_eq_getElem?_getD]
/-- A row of one's own is one. -/
theorem own_rows {w : World} {B n c : Nat} {e : TypeId} {A : Option Addr} {xs : List Value} (h : w.ownsRow B e 1 (.slice A n c) n xs) (hn : xs.length = n) : Rows w A xs := ⟨fun i hi => by
  obtain ⟨g, rfl, _, hb⟩ := own_buf h (by omega)
  exact ⟨g, 0, rfl, by rw [Nat.zero_add]; exact hb.cell i hi⟩⟩

/-- A slice that came in is no longer than the reach allows. -/
theorem sz_slice {H : Type} {enc : TypeId × Value → H} {P : Program} {W : World} {base : Nat} {spare : Nat → Bool} {held : Bool} {t e : TypeId} {a : Option Addr} {len cap : Nat} {d : DataW H} {ps : List MemPlace} {ts : List TypeId} {ds : List (DataW H)} {j : Nat}
    (hsz : (DataW.weightsEach P ts ds).all (· ≤ reachBytes) = true) (ht : ts[j]? = some t) (hd : ds[j]? = some d) (hu : P.underlying t = some (.slice e)) (hB : 1 ≤ P.bytesOf e)
    (h : DataW.Trod enc P W base spare held t (.slice a len cap) d ps) : len ≤ 140737488351232 := by
  obtain ⟨fuel, hf⟩ := h
  rcases DataW.trod_slice hu hf with ⟨hcs, _⟩ | ⟨x, l, c, elems, rest, n, _, hcs, hx, _, _, _, hlen, _⟩
  · simp [Value.cells] at hcs
    obtain ⟨rfl, rfl, rfl⟩ := hcs
    exact Nat.zero_le _
  · simp [Value.cells] at hcs
    obtain ⟨rfl, rfl, rfl⟩ := hcs
    obtain ⟨hx, _⟩ := Prod.mk.inj hx
    subst hx
    have z := sized_slice hsz ht hd hu
    simp only [List.length_map] at z
    have h1 : len * 1 ≤ (elems.length + rest.length) * P.bytesOf e := Nat.mul_le_mul (by omega) hB
    have h2 : reachBytes = 140737488351232 := rfl
    omega
section
variable {T : Type} {enc : TypeId × Value → T} {W : World} {r : Reach} {b0 base : Nat} {held : Bool} {v : Value} {d : DataW T} {p : List MemPlace}
theorem cells_i : Tryz.prog.cellsOf 3 = 1 := by kernel_rfl
theorem cells_s : Tryz.prog.cellsOf 9 = 1 := by kernel_rfl
theorem cells_b : Tryz.prog.cellsOf 4 = 1 := by kernel_rfl
theorem plain_spot {w : World} {b off : Nat} {spot : Option Nat} {v : Value} (h : w.cell? ((⟨b, off, spot⟩ : Addr).add 0) = some v) : spot = none := by
  simpa [Addr.add] using World.cell?_spot h
set_option maxRecDepth 100000 in
theorem open_li (hv : Value.okWide Tryz.prog W r b0 30 v) (h : DataW.Trod enc Tryz.prog W base (fun _ => true) held 30 v d p) :
    ∃ A n c xs, v = .slice A n c ∧ xs.length = n ∧ n ≤ maxLen ∧ n ≤ c ∧ Rows W A (nums .i64 xs) := by
  obtain ⟨a0, len, cap, rfl⟩ := okWide_slice Tryz.underlying30 hv
  obtain ⟨fuel, hf⟩ := h
  rcases open_ints Tryz.underlying30 Tryz.underlying3 cells_i hf with ⟨hcs, _⟩ | ⟨a, len', cap', zs, hcs, _, hl, hm, hz, _, hcell, _⟩
  · simp [Value.cells] at hcs
    obtain ⟨rfl, rfl, rfl⟩ := hcs
    exact ⟨none, 0, 0, [], rfl, rfl, Nat.zero_le maxLen, Nat.le_refl _, ⟨fun i hi => absurd hi (by simp [nums])⟩⟩
  · simp [Value.cells] at hcs
    obtain ⟨rfl, rfl, rfl⟩ := hcs
    simp only [if_true] at hz
    refine ⟨some a, len, cap, zs.take len, rfl, by simp; omega, Nat.le_trans hl hm, hl, ⟨fun i hi => ?_⟩⟩
    have hi' : i < len := by simp [nums] at hi; omega
    obtain ⟨b, off, spot⟩ := a
    obtain rfl := plain_spot (hcell 0 (by omega))
    refine ⟨b, off, rfl, ?_⟩
    rw [← Go.WideShapes.add_plain, hcell i (by omega), nums, List.getElem?_map, List.getElem?_take_of_lt hi', List.getElem?_eq_getElem (by omega)]
    simp [List.getD_eq_getElem?_getD, List.getElem?_eq_getElem (show i < zs.length by omega)]
set_option maxRecDepth 100000 in
theorem open_ls (hv : Value.okWide Tryz.prog W r b0 35 v) (h : DataW.Trod enc Tryz.prog W base (fun _ => true) held 35 v d p) :
    ∃ A n c xs, v = .slice A n c ∧ xs.length = n ∧ n ≤ maxLen ∧ Rows W A (strsV xs) ∧ ∀ s ∈ xs, s.size ≤ maxLen := by
  obtain ⟨a0, len, cap, rfl⟩ := okWide_slice Tryz.underlying35 hv
  obtain ⟨fuel, hf⟩ := h
  rcases Go.Deep.open_strs Tryz.underlying35 Tryz.underlying9 cells_s hf with ⟨hcs, _⟩ | ⟨a, len', cap', m, Sx, hcs, _, hl, hm, hz, _, hcell⟩
  · simp [Value.cells] at hcs
    obtain ⟨rfl, rfl, rfl⟩ := hcs
    exact ⟨none, 0, 0, [], rfl, rfl, Nat.zero_le maxLen, ⟨fun i hi => absurd hi (by simp [strsV])⟩, fun s hs => by cases hs⟩
  · simp [Value.cells] at hcs
    obtain ⟨rfl, rfl, rfl⟩ := hcs
    simp only [if_true] at hz
    subst hz
    refine ⟨some a, len, m, (List.range len).map Sx, rfl, by simp, Nat.le_trans hl hm, ⟨fun i hi => ?_⟩, fun s hs => ?_⟩
    · have hi' : i < len := by simpa [strsV] using hi
      obtain ⟨b, off, spot⟩ := a
      obtain rfl := plain_spot (hcell 0 (by omega)).1
      refine ⟨b, off, rfl, ?_⟩
      rw [← Go.WideShapes.add_plain, (hcell i (by omega)).1]
      simp [strsV, hi']
    · obtain ⟨i, hi, rfl⟩ := List.mem_map.1 hs
      have := List.mem_range.1 hi
      exact (hcell i (by omega)).2
set_option maxRecDepth 100000 in
theorem open_lb (hv : Value.okWide Tryz.prog W r b0 36 v) (h : DataW.Trod enc Tryz.prog W base (fun _ => true) held 36 v d p) :
    ∃ A n c xs, v = .slice A n c ∧ xs.length = n ∧ n ≤ maxLen ∧ Rows W A (boolsV xs) := by
  obtain ⟨a0, len, cap, rfl⟩ := okWide_slice Tryz.underlying36 hv
  obtain ⟨fuel, hf⟩ := h
  rcases Go.Deep.open_bools Tryz.underlying36 Tryz.underlying4 cells_b hf with ⟨hcs, _⟩ | ⟨a, len', cap', B, hcs, _, hl, hm, _, hcell⟩
  · simp [Value.cells] at hcs
    obtain ⟨rfl, rfl, rfl⟩ := hcs
    exact ⟨none, 0, 0, [], rfl, rfl, Nat.zero_le maxLen, ⟨fun i hi => absurd hi (by simp [boolsV])⟩⟩
  · simp [Value.cells] at hcs
    obtain ⟨rfl, rfl, rfl⟩ := hcs
    refine ⟨some a, len, cap, (List.range len).map B, rfl, by simp, Nat.le_trans hl hm, ⟨fun i hi => ?_⟩⟩
    have hi' : i < len := by simpa [boolsV] using hi
    obtain ⟨b, off, spot⟩ := a
    obtain rfl := plain_spot (hcell 0 (by omega))
    refine ⟨b, off, rfl, ?_⟩
    rw [← Go.WideShapes.add_plain, hcell i (by omega)]
    simp [boolsV, hi']
end
end Go.Proofs.YtnkkccafdbaoeaaGreatDoor.H
