/-
  A page's part of the table.
-/
import Derived.Test.YtmjldihmcbjfhaaDoorHConvB
namespace Go.Proofs.YtmjldihmcbjfhaaDoor.H
open Go.RowKit Go.Proofs.YtmjldihmcbjfhaaDoorW.PrintWords Go.Proofs.YtmjldihmcbjfhaaDoorW.PrintLast Go.Proofs.YtmjldihmcbjfhaaDoorW.PrintMore Go.Proofs.YtmjldihmcbjfhaaDoor.PPageEncodes
set_option linter.unusedVariables false
set_option linter.unusedSimpArgs false

/-- The characters of page P. -/
def pageL (T : Nat) : List Int := (allPages.drop (T * 256)).take 256
theorem pageL_len (T : Nat) (h : T < 3) : (pageL T).length = 256 := by
  unfold pageL
  rw [List.length_take, List.length_drop, allPages_len]
  omega
theorem range_part {w : World} {b : Nat} {cs : List Value} (h : w.rangeAt b 0 cs) (o n : Nat) : w.rangeAt b o ((cs.drop o).take n) := fun j v hv => by
  have hj : j < n := by
    have := (List.getElem?_eq_some_iff.1 hv).1
    rw [List.length_take] at this
    omega
  rw [List.getElem?_take_of_lt hj, List.getElem?_drop] at hv
  have := h (o + j) v hv
  rwa [Nat.zero_add] at this
theorem range_page {w : World} {b : Nat} (h : w.rangeAt b 0 (nums .i32 allPages)) (T : Nat) : w.rangeAt b (T * 256) (nums .i32 (pageL T)) := by
  have := range_part h (T * 256) 256
  rwa [show ((nums .i32 allPages).drop (T * 256)).take 256 = nums .i32 (pageL T) by simp [nums, pageL]] at this
theorem range_cell {w : World} {b o : Nat} {xs : List Int} (h : w.rangeAt b o (nums .i32 xs)) (j : Nat) (hj : j < xs.length) : w.cell? ⟨b, o + j, none⟩ = some (.int .i32 (xs.getD j 0)) := by
  apply h
  simp [nums, List.getD_eq_getElem?_getD, hj]
theorem range_below {w w' : World} {b o : Nat} {cs : List Value} (h : w.rangeAt b o cs) {B : Nat} (hb : Below B w w') (hl : b < B) : w'.rangeAt b o cs := fun j v hv => by
  rw [hb.cell (p := ⟨b, o + j, none⟩) hl]
  exact h j v hv

theorem below_undrew {w w' : World} (h : Below w.drew.heap.size w.drew w') : Below w.heap.size w w' := ⟨h.os, h.tape, h.output, h.size, h.block⟩
theorem range_lt {w : World} {b : Nat} (h : w.rangeAt b 0 (nums .i32 allPages)) : b < w.heap.size := by
  have h1 := range_cell h 0 (by rw [allPages_len]; omega)
  by_cases hb : b < w.heap.size
  · exact hb
  · have : w.heap[b]? = none := Array.getElem?_eq_none (by omega)
    simp [World.cell?, this] at h1

theorem tab_size {Tab : Array Value} (h : Tab = (nums .i32 allPages).toArray) : Tab.size = 768 := by
  rw [h, List.size_toArray, nums_len, allPages_len]
theorem tab_there {Tab Z : Array Value} {w : World} (h : Tab = (nums .i32 allPages).toArray) (hz : Z = Array.replicate 768 (.int .i32 0)) : (w.alloc (.cells Z 34)).there w.heap.size 0 Tab.size := by
  refine there_of_buf (buf_zero_aux w 768 Z 34 _ hz) ?_
  rw [List.length_replicate, tab_size h]
  exact Nat.le_refl _
theorem tab_info {Tab : Array Value} (h : Tab = (nums .i32 allPages).toArray) : (Tryd.prog.info? 34).map (·.size) = some Tab.size := by
  rw [tab_size h]; kernel_rfl
theorem tab_one {Tab : Array Value} (h : Tab = (nums .i32 allPages).toArray) : Tab.all (·.oneCell') = true := by
  rw [h]; exact all_oneCell_toArray nums_one
theorem tab_range {Tab Z : Array Value} (w : World) (h : Tab = (nums .i32 allPages).toArray) (hz : Z = Array.replicate 768 (.int .i32 0)) : ((w.alloc (.cells Z 34)).setCells w.heap.size 0 Tab.toList).rangeAt w.heap.size 0 (nums .i32 allPages) := by
  have h1 := World.rangeAt_setCells_same (w.alloc (.cells Z 34)) w.heap.size 0 Tab.toList (by rw [Array.length_toList]; exact tab_there h hz)
  rwa [show Tab.toList = nums .i32 allPages by rw [h]] at h1 ⊢

end Go.Proofs.YtmjldihmcbjfhaaDoor.H
