/-
  Valid: the walks of the program's and of the reference's.
-/
import Derived.Test.YtmjldihmcbjfhaaDoorHChar
namespace Go.Proofs.YtmjldihmcbjfhaaDoor.H
open Go.RowKit Go.Proofs.YtmjldihmcbjfhaaDoorW.PrintWords Go.Proofs.YtmjldihmcbjfhaaDoorW.PrintLast Go.Proofs.YtmjldihmcbjfhaaDoorW.PrintMore Go.Proofs.YtmjldihmcbjfhaaDoor.PPageEncodes
set_option linter.unusedVariables false
set_option linter.unusedSimpArgs false

theorem chars_size : (Tryd.prog.info? 33).map (·.size) = some 256 := by kernel_rfl
theorem run_index_page (w : World) (T : Nat) (hT : T < 3) : (Instr.index 34 (.agg (nums .i32 allPages).toArray) (.int .i64 (T : Int))).run Tryd.prog w = .ok (.agg (nums .i32 (pageL T)).toArray) w := by
  have hagg : (isAgg 33).run Tryd.prog w = .ok true w := by
    unfold isAgg
    rw [Sem.run_bind, run_underlying chars_desc w]
    rfl
  have hsz : (sizeOf 33).run Tryd.prog w = .ok 256 w := by
    have hs := chars_size
    cases hi : Tryd.prog.info? 33 with
    | none => simp [hi] at hs
    | some i =>
      have : i.size = 256 := by simpa [hi] using hs
      simp [sizeOf, typeInfo, Sem.run_bind, hi, this]
  have hex : (nums .i32 allPages).toArray.extract (T * 256) (T * 256 + 256) = (nums .i32 (pageL T)).toArray := by
    apply Array.ext'
    simp only [Array.toList_extract]
    rw [List.extract_eq_take_drop]
    simp [nums, pageL]
  unfold Instr.index
  simp [Sem.run_bind, asIntOf, run_underlying pages_desc w, hsz, Go.part, hagg, hT]
  have h1 := congrArg Array.toList hex
  simpa [List.extract_eq_take_drop] using h1
/-- The object that a page's characters lie in. -/
def pageO (T : Nat) : Obj := .cells (nums .i32 (pageL T)).toArray 33 (0, 0)
theorem page_one (T : Nat) : (nums .i32 (pageL T)).toArray.all (·.oneCell') = true := all_oneCell_toArray nums_one
theorem page_size (T : Nat) (h : T < 3) : (nums .i32 (pageL T)).toArray.size = 256 := by rw [List.size_toArray, nums_len, pageL_len T h]
theorem pageO_cell {w : World} {g T B : Nat} (h : w.heap[g]? = some (pageO T)) (hT : T < 3) (hB : B < 256) : w.cell? ⟨g, B, none⟩ = some (.int .i32 (pg3 240 (T * 256 + B))) := by
  rw [cell_of_row w g B _ _ _ h, ← pageL_get T B hT hB]
  have : B < (pageL T).length := by rw [pageL_len T hT]; exact hB
  simp [nums, List.getD_eq_getElem?_getD, this]
/-- What is known behind the statement that takes a page out of the table. -/
structure PageW (w w4 : World) (T : Nat) : Prop where
  at_ : w4.heap[w.heap.size]? = some (pageO T)
  size : w4.heap.size = w.heap.size + 1
  below : Below w.heap.size w w4
theorem pageW_mk (w : World) (T : Nat) (Z : Array Value) : PageW w ((w.alloc (.cells Z 33)).setRow w.heap.size (nums .i32 (pageL T)).toArray) T where
  at_ := setRow_heap _ _ _ _ _ _ (heap_alloc_new w _)
  size := by simp
  below := ⟨rfl, rfl, rfl, by simp, fun k hk => by rw [setRow_other _ _ _ _ (by omega)]; exact Below.heap_alloc _ _ _ hk⟩

/-- Whether each byte is a character of the page. -/
def okP (T : Nat) (b : Int) : Bool := decide (0 ≤ pg3 240 (T * 256 + b.toNat))
def validL (T : Nat) (xs : List Int) : Bool := xs.all (okP T)

set_option maxHeartbeats 2000000 in
set_option maxRecDepth 100000 in
theorem valid_ok (s : ByteArray) (T : Nat) (w : World) (hs : s.size ≤ 2048) (hT : T < 3) (hq : askP s.size T = 0) :
    Calls Tryd.prog 11 #[.string s, .int .i64 T] w fun e w' =>
      e = .returned (.tuple #[.bool (validL T (bytesOf s)), .int .i64 0]) ∧ Below w.heap.size w w' := by
  have HA := Lib.hid (fun w => hq ▸ asked_one s T w)
  have HPg := Lib.hid pages_call
  have HL := Lib.hid (bytesOf_length s)
  clear hq
  have hcv := fun W => print_bytes (P := Tryd.prog) 9 36 5 Tryd.underlying9 Tryd.underlying36 Tryd.underlying5 s W
  have hix := fun W => run_index_page W T hT
  have HPS := Lib.hid (page_size T hT)
  generalize hTab : (nums .i32 allPages).toArray = Tab at HPg hix
  clear hTab
  obtain ⟨PT, hPT⟩ : ∃ PT : Array Value, PT = (nums .i32 (pageL T)).toArray := ⟨_, rfl⟩
  rw [← hPT] at hix HPS
  have HPT := Lib.hid hPT
  have HPO := Lib.hid (show PT.all (·.oneCell') = true by rw [hPT]; exact page_one T)
  have HPI := Lib.hid (show (Tryd.prog.info? 33).map (·.size) = some PT.size by rw [HPS.out]; exact chars_size)
  clear hPT
  go_enter Tryd.func11, Tryd.ntmps11
  go_wp2_with (first
    | (go_at_call 21; refine (HA.out _).mono ?_; rintro e w1 ⟨rfl, hd⟩; have HD := Aside0.mk hd; clear hd)
    | (go_at_call 17; refine (HPg.out _).mono ?_; rintro e w3 ⟨rfl, hb⟩; have HB3 := Aside0.mk hb; clear hb)
    | (with_reducible refine wpList_allocZ rfl _ rfl 256 (.int .i32 0) zero_chars ?_; rintro Z HZ HZ2)
    | (refine wpList_store_row (o := ⟨none, .store 33 _ _, _, _, _, _⟩) rfl 33 _ _ rfl w3.heap.size PT rfl rfl 33 Z (heap_alloc_new _ _) HPI.out (HZ.out.trans HPS.out.symm) HPO.out ?_; have HW4 := Aside0.mk (HPT.out ▸ pageW_mk w3 T Z); (generalize (w3.alloc (.cells Z 33)).setRow w3.heap.size PT = w4 at HW4 ⊢)))
  have HB4 : Aside0 (Below w.heap.size w w4) := ⟨by
    obtain ⟨n1, rfl⟩ := HD.out.out
    have h3 := HB3.out
    have h4 : w.heap.size ≤ w3.heap.size := by have := h3.size; simp at this; omega
    exact ((pw_below_drewN (below_alloc (Below.refl _ _) _) _).trans (h3.mono (by simp))).trans (HW4.out.below.mono h4)⟩
  have HB5 : Aside0 (Below w.heap.size w (Lib.bytesWorld w4 5 s)) := ⟨bytes_below HB4.out HB4.out.size _ _⟩
  have HG : Aside0 ((Lib.bytesWorld w4 5 s).heap[w3.heap.size]? = some (pageO T)) := ⟨by
    rw [(bytes_below (Below.refl w4.heap.size w4) (Nat.le_refl _) 5 s).block _ (by rw [HW4.out.size]; omega)]
    exact HW4.out.at_⟩
  have HBuf : Aside0 (Buf (Lib.bytesWorld w4 5 s) w4.heap.size 5 (nums .u8 (bytesOf s))) := ⟨buf_bytesWorld _ _ _⟩
  clear HD HB3 HW4 HB4 hcv hix
  generalize Lib.bytesWorld w4 5 s = w5 at *
  have HT2 : Aside0 (∀ k, k < s.size → (bytesOf s).take (k + 1) = (bytesOf s).take k ++ [(bytesOf s).getD k 0]) := ⟨fun k hk => by
    have h : k < (bytesOf s).length := by rw [bytesOf_length]; exact hk
    rw [List.take_succ_eq_append_getElem h, List.getD_eq_getElem?_getD, List.getElem?_eq_getElem h]; rfl⟩
  go_loop [23] (fun i => ∃ k : Nat, i = .int .i64 k ∧ Aside0 (k ≤ s.size) ∧ Aside0 (validL T ((bytesOf s).take k) = true)) (fun i => s.size - (intOf i).toNat)
  case atStart => exact ⟨0, rfl, ⟨by omega⟩, ⟨rfl⟩⟩
  case round =>
    obtain ⟨k, rfl, HK, HV⟩ := hrel
    have hk := HK.out
    by_cases hlt : k < s.size
    · have hc := HBuf.out.int k (by rw [HL.out]; exact hlt)
      have hbr : 0 ≤ (bytesOf s).getD k 0 ∧ (bytesOf s).getD k 0 ≤ 255 :=
        bytesOf_range s _ (by rw [List.getD_eq_getElem?_getD, List.getElem?_eq_getElem (by rw [HL.out]; exact hlt)]; simp)
      obtain ⟨B, hB⟩ : ∃ B : Nat, (bytesOf s).getD k 0 = B := Int.eq_ofNat_of_zero_le hbr.1
      have HTK : Aside0 ((bytesOf s).take (k + 1) = (bytesOf s).take k ++ [(B : Int)]) := ⟨by rw [HT2.out k hlt, hB]⟩
      have HOK : Aside0 (okP T (B : Int) = decide (0 ≤ pg3 240 (T * 256 + B))) := ⟨by unfold okP; simp⟩
      have HIN : Aside0 (bytesOf s = (bytesOf s).take k ++ (B : Int) :: (bytesOf s).drop (k + 1)) := ⟨by
        have h : k < (bytesOf s).length := by rw [bytesOf_length]; exact hlt
        rw [← hB, List.getD_eq_getElem?_getD, List.getElem?_eq_getElem h, Option.getD_some, ← List.drop_eq_getElem_cons h, List.take_append_drop]⟩
      rw [hB] at hc hbr
      clear hB
      obtain ⟨-, hb2⟩ := hbr
      have hb3 : B < 256 := by omega
      have hp := pageO_cell HG.out hT hb3
      generalize pg3 240 (T * 256 + B) = x at hp HOK
      by_cases h0 : 0 ≤ x
      · have h0' : ¬ x < 0 := by omega
        have HOK2 : Aside0 (okP T (B : Int) = true) := ⟨by rw [HOK.out]; simpa using h0⟩
        go_wp2
        go_round
        case rel => exact ⟨k + 1, by go_num, ⟨by omega⟩, ⟨by rw [HTK.out]; unfold validL; rw [List.all_append]; unfold validL at HV; rw [HV.out]; simp [HOK2.out]⟩⟩
        case measure => simp [intOf]; omega
      · have h0' : x < 0 := by omega
        have HOK2 : Aside0 (okP T (B : Int) = false) := ⟨by rw [HOK.out]; simpa using h0⟩
        have HVF : Aside0 (validL T (bytesOf s) = false) := ⟨by rw [HIN.out]; unfold validL; rw [List.all_append, List.all_cons, HOK2.out]; simp⟩
        go_wp2
        go_ret2
        exact ⟨by rw [HVF.out]; rfl, HB5.out⟩
    · have hke : k = s.size := by omega
      subst hke
      have HVT : Aside0 (validL T (bytesOf s) = true) := ⟨by
        have := HV.out
        rwa [List.take_of_length_le (by rw [HL.out]; exact Nat.le_refl _)] at this⟩
      go_wp2
      go_ret2
      exact ⟨by rw [HVT.out]; rfl, HB5.out⟩
end Go.Proofs.YtmjldihmcbjfhaaDoor.H
