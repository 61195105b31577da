/-
  The walk of Convert.
-/
import Derived.Test.YtmjldihmcbjfhaaHConvB
import Derived.Deep.RegionHeld3
import Derived.Deep.DrawnRows
namespace Go.Proofs.Ytmjldihmcbjfhaa.H
open Go.RowKit Go.Proofs.YtmjldihmcbjfhaaW.PrintWords Go.Proofs.YtmjldihmcbjfhaaW.PrintLast Go.Proofs.YtmjldihmcbjfhaaW.PrintMore Go.Proofs.Ytmjldihmcbjfhaa.PPageCases
attribute [local go_sem ↓] Go.wp_at_zero Go.wp_at_succ
set_option linter.unusedVariables false
set_option linter.unusedSimpArgs false

theorem asked_f0 (p : Int) : page_asked.f 4 p [] = some (askP 0 p) := by
  unfold page_asked.f askP
  simp only [page_asked.l0, rdOf, wrap64]
  simp
  split
  · rfl
  · split <;> rfl
theorem asked_none (p : Int) (w : World) :
    Calls Try.prog 30 #[.int .i64 p, .slice none 0 0] w fun e w' => e = .returned (.int .i64 (askP 0 p)) ∧ Drawn0 w w' :=
  page_asked.calls 4 p none 0 [] _ w (Kd.C_nil _ _) (Nat.le_refl _) (asked_f0 p)

/-- The characters of page P. -/
def pageL (T : Nat) : List Int := (allPages.drop (T * 256)).take 256
theorem pageL_len (T : Nat) (h : T < 3) : (pageL T).length = 256 := by
  unfold pageL
  rw [List.length_take, List.length_drop, allPages_len]
  omega
theorem range_part {w : World} {b : Nat} {cs : List Value} (h : w.rangeAt b 0 cs) (o n : Nat) : w.rangeAt b o ((cs.drop o).take n) := fun j v hv => by
  have hj : j < n := by
    have := (List.getElem?_eq_some_iff.1 hv).1
    rw [List.length_take] at this
    omega
  rw [List.getElem?_take_of_lt hj, List.getElem?_drop] at hv
  have := h (o + j) v hv
  rwa [Nat.zero_add] at this
theorem range_page {w : World} {b : Nat} (h : w.rangeAt b 0 (nums .i32 allPages)) (T : Nat) : w.rangeAt b (T * 256) (nums .i32 (pageL T)) := by
  have := range_part h (T * 256) 256
  rwa [show ((nums .i32 allPages).drop (T * 256)).take 256 = nums .i32 (pageL T) by simp [nums, pageL]] at this
theorem range_cell {w : World} {b o : Nat} {xs : List Int} (h : w.rangeAt b o (nums .i32 xs)) (j : Nat) (hj : j < xs.length) : w.cell? ⟨b, o + j, none⟩ = some (.int .i32 (xs.getD j 0)) := by
  apply h
  simp [nums, List.getD_eq_getElem?_getD, hj]
theorem range_below {w w' : World} {b o : Nat} {cs : List Value} (h : w.rangeAt b o cs) {B : Nat} (hb : Below B w w') (hl : b < B) : w'.rangeAt b o cs := fun j v hv => by
  rw [hb.cell (p := ⟨b, o + j, none⟩) hl]
  exact h j v hv

/-- A byte converted, and whether it could be. -/
def cvP (F T : Nat) (b : Int) : Int × Bool := bo (pageL T) ((pageL F).getD b.toNat 0)
def cvB (F T : Nat) (by_ : Int) (b : Int) : Int := if (cvP F T b).2 = true then (cvP F T b).1 else by_
def cvN (F T : Nat) (l : List Int) : Int := ((l.filter fun b => !(cvP F T b).2).length : Int)
theorem cvN_succ (F T : Nat) (s : ByteArray) (k : Nat) (hk : k < s.size) : cvN F T ((bytesOf s).take (k + 1)) = cvN F T ((bytesOf s).take k) + if (cvP F T ((bytesOf s).getD k 0)).2 = true then 0 else 1 := by
  have h : k < (bytesOf s).length := by rw [bytesOf_length]; exact hk
  unfold cvN
  rw [List.take_succ_eq_append_getElem h, List.filter_append, List.getD_eq_getElem?_getD, List.getElem?_eq_getElem h]
  cases hc : (cvP F T (bytesOf s)[k]).2 <;> simp [hc]
theorem cvN_le (F T : Nat) (s : ByteArray) (k : Nat) : 0 ≤ cvN F T ((bytesOf s).take k) ∧ cvN F T ((bytesOf s).take k) ≤ s.size := by
  unfold cvN
  have h1 := List.length_filter_le (fun b => !(cvP F T b).2) ((bytesOf s).take k)
  have h2 : ((bytesOf s).take k).length ≤ s.size := by rw [List.length_take, bytesOf_length]; omega
  omega
theorem below_undrew {w w' : World} (h : Below w.drew.heap.size w.drew w') : Below w.heap.size w w' := ⟨h.os, h.tape, h.output, h.size, h.block⟩
theorem range_lt {w : World} {b : Nat} (h : w.rangeAt b 0 (nums .i32 allPages)) : b < w.heap.size := by
  have h1 := range_cell h 0 (by rw [allPages_len]; omega)
  by_cases hb : b < w.heap.size
  · exact hb
  · have : w.heap[b]? = none := Array.getElem?_eq_none (by omega)
    simp [World.cell?, this] at h1

theorem tab_size {Tab : Array Value} (h : Tab = (nums .i32 allPages).toArray) : Tab.size = 768 := by
  rw [h, List.size_toArray, nums_len, allPages_len]
theorem tab_there {Tab Z : Array Value} {w : World} (h : Tab = (nums .i32 allPages).toArray) (hz : Z = Array.replicate 768 (.int .i32 0)) : (w.alloc (.cells Z 59)).there w.heap.size 0 Tab.size := by
  refine there_of_buf (buf_zero_aux w 768 Z 59 _ hz) ?_
  rw [List.length_replicate, tab_size h]
  exact Nat.le_refl _
theorem tab_info {Tab : Array Value} (h : Tab = (nums .i32 allPages).toArray) : (Try.prog.info? 59).map (·.size) = some Tab.size := by
  rw [tab_size h]; kernel_rfl
theorem tab_one {Tab : Array Value} (h : Tab = (nums .i32 allPages).toArray) : Tab.all (·.oneCell') = true := by
  rw [h]; exact all_oneCell_toArray nums_one
theorem tab_range {Tab Z : Array Value} (w : World) (h : Tab = (nums .i32 allPages).toArray) (hz : Z = Array.replicate 768 (.int .i32 0)) : ((w.alloc (.cells Z 59)).setCells w.heap.size 0 Tab.toList).rangeAt w.heap.size 0 (nums .i32 allPages) := by
  have h1 := World.rangeAt_setCells_same (w.alloc (.cells Z 59)) w.heap.size 0 Tab.toList (by rw [Array.length_toList]; exact tab_there h hz)
  rwa [show Tab.toList = nums .i32 allPages by rw [h]] at h1 ⊢

set_option maxHeartbeats 2000000 in
set_option maxRecDepth 100000 in
theorem convert_ok (s : ByteArray) (F T : Nat) (by_ : Int) (w : World) (hs : s.size ≤ 2048) (hF : F < 3) (hT : T < 3) (hq : askP s.size F = 0) (hq2 : askP 0 T = 0) :
    Calls Try.prog 28 #[.string s, .int .i64 F, .int .i64 T, .int .u8 by_] w fun e w' =>
      e = .returned (.tuple #[.string (strOfNums ((bytesOf s).map (cvB F T by_))), .int .i64 (cvN F T (bytesOf s)), .int .i64 0]) ∧ Below w.heap.size w w' := by
  have HA := Lib.hid (fun w => hq ▸ asked_one s F w)
  have HA2 := Lib.hid (fun w => hq2 ▸ asked_none T w)
  have HPg := Lib.hid pages_call
  have HBO := Lib.hid (fun x w => byteOf_call (pageL T) x w (pageL_len T hT))
  have HL := Lib.hid (bytesOf_length s)
  clear hq hq2
  have hcv := fun W => print_bytes (P := Try.prog) 9 44 5 Try.underlying9 Try.underlying44 Try.underlying5 s W
  obtain ⟨Tab, hTab⟩ : ∃ Tab : Array Value, Tab = (nums .i32 allPages).toArray := ⟨_, rfl⟩
  rw [← hTab] at HPg
  have HTab := Lib.hid hTab
  clear hTab
  go_enter Try.func28, Try.ntmps28
  have tok1 : True := trivial
  go_wp2_with (first
    | (have _t := tok1; go_at_call 30; refine (HA.out _).mono ?_; rintro e w1 ⟨rfl, hd⟩; have HD := Aside0.mk hd; clear hd _t tok1)
    | (go_at_call 30; refine (HA2.out _).mono ?_; rintro e w2 ⟨rfl, hd⟩; have HD2 := Aside0.mk hd; clear hd)
    | (go_at_call 48; refine (HPg.out _).mono ?_; rintro e w3 ⟨rfl, hb⟩; have HB3 := Aside0.mk hb; clear hb)
    | (with_reducible refine wpList_allocZ rfl _ rfl 768 (.int .i32 0) zero_pages ?_; rintro Z HZ HZ2)
    | (refine wpList_store_mid (op := ⟨none, .store 59 _ _, _, _, _, _⟩) rfl 59 _ _ rfl w3.heap.size 0 Tab rfl rfl ?c1 ?c2 ?c3 ?_; (case c1 => exact tab_there HTab.out HZ2.out); (case c2 => exact tab_info HTab.out); (case c3 => exact tab_one HTab.out); (have HR4 := Aside0.mk (tab_range (Z := Z) w3 HTab.out HZ2.out)); (have HB4 := Aside0.mk (below_setCells_own (b := w3.heap.size) (Nat.le_refl _) Tab.toList 0 _ (below_alloc (Below.refl w3.heap.size w3) (.cells Z 59)))); (generalize (w3.alloc (.cells Z 59)).setCells w3.heap.size 0 Tab.toList = w4 at HR4 HB4 ⊢)))
  have HLT := Lib.hid (range_lt HR4.out)
  have HB0 : Aside0 (Below w.heap.size w w4) := ⟨by
    obtain ⟨n1, rfl⟩ := HD.out.out
    obtain ⟨n2, rfl⟩ := HD2.out.out
    have h3 := HB3.out
    have h4 : w.heap.size ≤ w3.heap.size := by have := h3.size; simp at this; omega
    exact ((pw_below_drewN (pw_below_drewN (below_alloc (Below.refl _ _) _) _) _).trans (h3.mono (by simp))).trans (HB4.out.mono h4)⟩
  have HB1 : Aside0 (Below w.heap.size w (Lib.bytesWorld w4 5 s)) := ⟨bytes_below HB0.out HB0.out.size _ _⟩
  have HR5 : Aside0 ((Lib.bytesWorld w4 5 s).rangeAt w3.heap.size 0 (nums .i32 allPages)) := ⟨range_below HR4.out (bytes_below (Below.refl w4.heap.size w4) (Nat.le_refl _) _ _) HLT.out⟩
  have hw4 : w.heap.size ≤ w4.heap.size := HB0.out.size
  have HG := Lib.hid hw4
  clear hw4 HD HD2 HB3 HB4 HR4 HB0 hcv HA HA2 HPg
  go_loopw [15, 37] (fun n i wr => ∃ k : Nat, i = .int .i64 k ∧ n = .int .i64 (cvN F T ((bytesOf s).take k)) ∧ Aside0 (k ≤ s.size) ∧ Aside0 (Buf wr w4.heap.size 5 (nums .u8 (part (cvB F T by_) (bytesOf s) k))) ∧
      Aside0 (wr.rangeAt w3.heap.size 0 (nums .i32 allPages)) ∧ Aside0 (Below w.heap.size w wr)) (fun _ i _ => s.size - (intOf i).toNat)
  case atStart =>
    refine ⟨0, rfl, rfl, ⟨by omega⟩, ⟨?_⟩, HR5, HB1⟩
    rw [part_zero]; exact buf_bytesWorld _ _ _
  case round =>
    clear HR5 HB1
    obtain ⟨k, rfl, rfl, HK, HBuf, HR, HB⟩ := hrel
    have hk := HK.out
    by_cases hlt : k < s.size
    · have hc := HBuf.out.int k (by rw [part_length, HL.out]; exact hlt)
      have hf := HBuf.out.frozen k (by simpa [nums, part_length, HL.out] using hlt)
      rw [part_get _ _ _ (by rw [HL.out]; exact hlt)] at hc
      have hbr : 0 ≤ (bytesOf s).getD k 0 ∧ (bytesOf s).getD k 0 ≤ 255 :=
        bytesOf_range s _ (by rw [List.getD_eq_getElem?_getD, List.getElem?_eq_getElem (by rw [HL.out]; exact hlt)]; simp)
      have HN := Lib.hid (cvN_succ F T s k hlt)
      have hN := cvN_le F T s k
      have HS := Lib.hid (fun v => HBuf.out.set_int k v)
      have HS2 := Lib.hid (part_succ (cvB F T by_) (bytesOf s) k (by rw [HL.out]; exact hlt))
      obtain ⟨B, hB⟩ : ∃ B : Nat, (bytesOf s).getD k 0 = B := Int.eq_ofNat_of_zero_le hbr.1
      rw [hB] at hc hbr HN HS2
      clear hB
      obtain ⟨hN1, hN2⟩ := hN
      obtain ⟨-, hb2⟩ := hbr
      have hcx := range_cell (range_page HR.out F) B (by rw [pageL_len F hF]; omega)
      have hrg := range_page HR.out T
      have HX := Lib.hid (HBO.out ((pageL F).getD B 0))
      have HY : Aside0 (cvP F T B = bo (pageL T) ((pageL F).getD B 0)) := ⟨by unfold cvP; simp⟩
      generalize (pageL F).getD B 0 = x at hcx HX HY
      have HCV : Aside0 (cvB F T by_ B = if (bo (pageL T) x).2 = true then (bo (pageL T) x).1 else by_) := ⟨by unfold cvB; rw [HY.out]⟩
      rw [HY.out] at HN
      clear HY HBO
      generalize bo (pageL T) x = r at HX HCV HN
      obtain ⟨y, ok⟩ := r
      have hi : (Try.prog.info? 58).map (·.size) = some (nums .i32 (pageL T)).length := by rw [nums_len, pageL_len T hT]; kernel_rfl
      have hone : ∀ v ∈ nums .i32 (pageL T), v.oneCell' = true := nums_one
      generalize nums .i32 (pageL T) = pt at hrg hi hone HX
      have hu := chars_desc
      have hbl := HBuf.out.lt
      have hF0 : (0 : Int) ≤ (F : Int) := by omega
      have hF1 : (F : Int) < 3 := by omega
      have hT0 : (0 : Int) ≤ (T : Int) := by omega
      have hT1 : (T : Int) < 3 := by omega
      have hB0 : (0 : Int) ≤ (B : Int) := by omega
      have hB1 : (B : Int) < 256 := by omega
      have hwl : w3.heap.size < wr.heap.size := Nat.lt_trans HLT.out hbl
      go_wp2
      go_region_held3 (fun w' => w'.rangeAt w3.heap.size (T * 256) pt ∧ w'.cell? ⟨w3.heap.size, F * 256 + B, none⟩ = some (.int .i32 x)) (go_keep_ranges)
        (first | (go_at_call 49; refine (HX.out _).mono ?_; rintro e w5 ⟨rfl, hb5⟩; have hr5 := range_below (w := wr.drew) hrg hb5 hwl; have hx5 := (hb5.cell (p := ⟨w3.heap.size, F * 256 + B, none⟩) hwl).trans hcx; have hf5 := (hb5.frozen (p := ⟨w4.heap.size, k, none⟩) hbl).trans hf; have hc5 := (hb5.cell (p := ⟨w4.heap.size, k, none⟩) hbl).trans hc; have hb6 := Aside0.mk hb5; clear hb5))
      all_goals
        have HB7 : Aside0 (Below w.heap.size w w5) := ⟨HB.out.trans ((below_undrew hb6.out).mono (Nat.le_trans HG.out (Nat.le_of_lt hbl)))⟩
        have HBuf7 : Aside0 (Buf w5 w4.heap.size 5 (nums .u8 (part (cvB F T by_) (bytesOf s) k))) := ⟨HBuf.out.below (below_undrew hb6.out)⟩
        have HR7 : Aside0 (w5.rangeAt w3.heap.size 0 (nums .i32 allPages)) := ⟨range_below HR.out (below_undrew hb6.out) hwl⟩
        clear hb6 hr5 hx5 hc hf hcx hrg hi hone hu HB HBuf HR HS hF0 hF1 hT0 hT1 hB0 hB1 hwl
        generalize cvN F T (List.take k (bytesOf s)) = n at hN1 hN2 HN ⊢
        cases ok
        · go_wp2
          go_roundw
          case rel =>
            refine ⟨k + 1, by go_num, ?_, ⟨by omega⟩, ⟨?_⟩, ⟨?_⟩, ⟨?_⟩⟩
            · rw [HN.out]; rfl
            · have h := HBuf7.out.set_int k (cvB F T by_ B)
              rw [HS2.out, HCV.out] at h
              exact h
            · exact range_below HR7.out ((Below.refl _ _).setCell (Nat.le_refl _) _) HLT.out
            · exact HB7.out.setCell HG.out _
          case measure => simp [intOf]; omega
        · go_wp2
          go_roundw
          case rel =>
            refine ⟨k + 1, by go_num, ?_, ⟨by omega⟩, ⟨?_⟩, ⟨?_⟩, ⟨?_⟩⟩
            · rw [HN.out]; simp
            · have h := HBuf7.out.set_int k (cvB F T by_ B)
              rw [HS2.out, HCV.out] at h
              exact h
            · exact range_below HR7.out ((Below.refl _ _).setCell (Nat.le_refl _) _) HLT.out
            · exact HB7.out.setCell HG.out _
          case measure => simp [intOf]; omega
    · have hke : k = s.size := by omega
      have hstr := HBuf.out.string (src := 44) (dst := 9) (cap := grownCap w4 s.size 0 5) (n := s.size) Try.underlying44 Try.underlying5 Try.underlying9 (by rw [part_length, HL.out])
      rw [hke, ← HL.out, part_all, HL.out] at hstr
      subst hke
      have HTK : Aside0 ((bytesOf s).take s.size = bytesOf s) := ⟨List.take_of_length_le (by rw [HL.out]; exact Nat.le_refl _)⟩
      go_wp2
      go_ret3
      refine ⟨?_, HB.out⟩
      show Ending.returned (.tuple #[_, .int .i64 (cvN F T ((bytesOf s).take s.size)), _]) = _
      rw [HTK.out]
      rfl
end Go.Proofs.Ytmjldihmcbjfhaa.H
