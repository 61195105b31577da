/-
  A browse, whole: the program's.
-/
import Derived.Test.YtnkkccafdbaoeaaGreatDoorSBrowseX
import Derived.OwnWalk
namespace Go.Proofs.YtnkkccafdbaoeaaGreatDoor.H
open Go.RowKit Go.Proofs.YtnkkccafdbaoeaaGreatDoorW.PrintWords Go.Proofs.YtnkkccafdbaoeaaGreatDoorW.PrintLast Go.Proofs.YtnkkccafdbaoeaaGreatDoorW.PrintMore
set_option linter.unusedVariables false
set_option linter.unusedSimpArgs false

theorem foldl_snoc_take (f : Int × Int → Int → Int × Int) (s : Int × Int) (ks : List Int) (k : Nat) (hk : k < ks.length) : (ks.take (k + 1)).foldl f s = f ((ks.take k).foldl f s) (ks.getD k 0) := by
  rw [List.take_succ_eq_append_getElem hk, List.foldl_append, List.getD_eq_getElem?_getD, List.getElem?_eq_getElem hk]
  rfl
theorem run_inv {n page : Int} (hn : 1 ≤ n) (hp : 1 ≤ page) (ks : List Int) : bInv n page (ks.foldl (bKey n page) (0, 0)) := (bRun_eq hn hp ks (0, 0) (bStart n page hn hp)).2
theorem wrap_64 (x : Int) (h1 : -9223372036854775808 ≤ x) (h2 : x ≤ 9223372036854775807) : IntKind.i64.wrap x = x := by
  rw [Go.IntWalk.i64_left]; unfold wrap64; omega
theorem upTo_one (xs : List Int) : upTo xs 1 = true := by simp [upTo]
theorem brF_bad {xs : List Int} {page : Int} {ks : List Int} (h : ¬ (upTo xs xs.length = true ∧ xs.length ≤ 300 ∧ 1 ≤ page ∧ page ≤ 25)) : brF xs page ks = (0, [], 1) := if_neg h
set_option maxHeartbeats 4000000 in
set_option maxRecDepth 100000 in
theorem browse_call (A B : Option Addr) (n c m d : Nat) (xs ks : List Int) (page : Int) (w : World) (hx : xs.length = n) (hk : ks.length = m) (hn : n + m ≤ 65536) (hc : n ≤ c) (h1 : Rows w A (nums .i64 xs)) (h2 : Rows w B (nums .i64 ks)) :
    Calls Tryz.prog 12 #[.slice A n c, .int .i64 page, .slice B m d] w (BrOut w (brF xs page ks)) := by
  have H1 := Aside0.mk h1
  have H2 := Aside0.mk h2
  have HX := Aside0.mk hx
  have HKl := Aside0.mk hk
  clear h1 h2 hx hk
  go_enter Tryz.func12, Tryz.ntmps12
  go_wp2
  go_loopw [9] (fun i wr => ∃ k : Nat, i = .int .i64 ((k : Int) + 1) ∧ Aside0 (k + 1 ≤ n ∨ k = 0) ∧ Aside0 (upTo xs (k + 1) = true) ∧ Aside0 (Drawn0 w wr)) (fun i _ => n - (intOf i).toNat)
  case atStart => exact ⟨0, rfl, ⟨.inr rfl⟩, ⟨upTo_one xs⟩, ⟨Drawn0.refl _⟩⟩
  case round =>
    obtain ⟨k, rfl, HK, HU, HD⟩ := hrel
    by_cases hlt : k + 1 < n
    · obtain ⟨b, o, e1, c1⟩ := (H1.out.below (drawn_below HD.out)).int (k + 1) (by rw [HX.out]; exact hlt)
      obtain ⟨b2, o2, e2, c2⟩ := (H1.out.below (drawn_below HD.out)).int k (by rw [HX.out]; omega)
      rw [e1] at e2
      injection e2 with e2
      injection e2 with e3 e4
      subst e3 e4
      subst e1
      have hki : (k : Int) + 1 < n := by omega
      have HN : Aside0 (upTo xs (k + 1 + 1) = decide (xs.getD k 0 < xs.getD (k + 1) 0)) := ⟨by rw [upTo, HU.out]; simp⟩
      generalize xs.getD (k + 1) 0 = x at c1 HN
      generalize xs.getD k 0 = y at c2 HN
      by_cases hxy : x ≤ y
      · have HF : Aside0 (brF xs page ks = (0, [], 1)) := ⟨brF_bad (fun h => by
          have h0 : upTo xs (k + 1 + 1) = false := by rw [HN.out]; simp; omega
          rw [upTo_false h0 (show k + 1 + 1 ≤ xs.length by rw [HX.out]; omega)] at h
          cases h.1)⟩
        go_wp2
        go_quiet (fail)
        go_wp2
        refine bodyPost_ret (results_tmp3 rfl _ _ _) rfl ?_
        exact BrOut.none 1 HF.out (drawn_below (HD.out.step _))
      · go_wp2
        go_quiet (fail)
        go_wp2
        go_roundw
        case rel => exact ⟨k + 1, by go_num, ⟨by omega⟩, ⟨by rw [HN.out]; simp; omega⟩, ⟨HD.out.step _⟩⟩
        case measure => simp [intOf]; omega
    · have HB := Aside0.mk (drawn_below HD.out)
      have HUP : Aside0 (upTo xs xs.length = true) := ⟨by
        rw [HX.out]
        rcases HK.out with h | h
        · rw [show n = k + 1 by omega]; exact HU.out
        · subst h
          by_cases h0 : n = 0
          · rw [h0]; rfl
          · rw [show n = 1 by omega]; exact upTo_one xs⟩
      have hki : ¬ (k : Int) + 1 < n := by omega
      clear HU HK HD
      by_cases g1 : n ≤ 300
      · have g1i : (n : Int) ≤ 300 := by omega
        by_cases g2 : 1 ≤ page
        · by_cases g3 : page ≤ 25
          · by_cases g0 : n = 0
            · have HF : Aside0 (brF xs page ks = (0, [], 0)) := ⟨by unfold brF; rw [if_pos ⟨HUP.out, by rw [HX.out]; exact g1, g2, g3⟩, if_pos (by rw [HX.out]; exact g0)]⟩
              have g0i : ((n : Int) == 0) = true := by simp [g0]
              go_wp2
              refine bodyPost_ret (results_tmp3 rfl _ _ _) rfl ?_
              exact BrOut.none 0 HF.out HB.out
            · have g0i : ((n : Int) == 0) = false := by simp [g0]
              go_wp2
              have hn1 : (1 : Int) ≤ n := by omega
              have HBr := Aside0.mk (buf_new wr #[.int .i64 n, .int .i64 page, .int .i64 0, .int .i64 0] 57)
              have HBa := Aside0.mk (below_alloc HB.out (.cells #[.int .i64 n, .int .i64 page, .int .i64 0, .int .i64 0] 57))
              have HG := Aside0.mk HB.out.size
              have HIV := Lib.hid (fun js => run_inv hn1 g2 js)
              have HKC := Lib.hid (fun top bar key w hb hI => key_call_b wr.heap.size n page top bar key w hb hn1 g1i g2 g3 hI)
              generalize wr.heap.size = g at *
              generalize wr.alloc (.cells #[.int .i64 n, .int .i64 page, .int .i64 0, .int .i64 0] 57) = w5 at *
              go_loopw [50] (fun i wr => ∃ (j : Nat) (s : Int × Int), i = .int .i64 j ∧ Aside0 (j ≤ m) ∧ Aside0 (s = (ks.take j).foldl (bKey n page) (0, 0)) ∧ Aside0 (Brs wr g n page s.1 s.2) ∧ Aside0 (Below w.heap.size w wr)) (fun i _ => m - (intOf i).toNat)
              case atStart => exact ⟨0, (0, 0), rfl, ⟨Nat.zero_le _⟩, ⟨rfl⟩, HBr, HBa⟩
              case round =>
                clear HBr HBa
                obtain ⟨j, s, rfl, HJ, HS, HR, HW⟩ := hrel
                have hj := HJ.out
                by_cases hlt : j < m
                · obtain ⟨b, o, e1, c1⟩ := (H2.out.below HW.out).int j (by rw [HKl.out]; exact hlt)
                  subst e1
                  have hji : (j : Int) < m := by omega
                  have HC := Lib.hid (HKC.out s.1 s.2 (ks.getD j 0) _ HR.out (by rw [show (s.1, s.2) = s from rfl, HS.out]; exact HIV.out _))
                  have HN : Aside0 (bKey n page s (ks.getD j 0) = (ks.take (j + 1)).foldl (bKey n page) (0, 0)) := ⟨by rw [foldl_snoc_take _ _ _ _ (by rw [HKl.out]; exact hlt), HS.out]⟩
                  generalize ks.getD j 0 = key at c1 HC HN
                  go_wp2_with (go_at_call 27; refine HC.out.mono ?_; rintro e w6 ⟨rfl, hq, hbl⟩; have HQ := Aside0.mk (And.intro hq hbl); clear hq hbl)
                  go_roundw
                  case rel => exact ⟨j + 1, bKey n page s key, by go_num, ⟨by omega⟩, ⟨HN.out⟩, ⟨HQ.out.1⟩, ⟨HW.out.trans (HQ.out.2.mono HG.out)⟩⟩
                  case measure => simp [intOf]; omega
                · obtain rfl : j = m := by omega
                  have hji : ¬ (j : Int) < j := by omega
                  have HI := HIV.out ks
                  have HS2 : Aside0 (ks.foldl (bKey n page) (0, 0) = s) := ⟨by rw [HS.out, List.take_of_length_le (by rw [HKl.out]; exact Nat.le_refl _)]⟩
                  rw [HS2.out] at HI
                  obtain ⟨tp, bar⟩ := s
                  obtain ⟨i1, i2, i3, i4⟩ := HI
                  simp only at i1 i2 i3 i4
                  obtain ⟨T, rfl⟩ : ∃ T : Nat, tp = T := Int.eq_ofNat_of_zero_le i1
                  obtain ⟨R, rfl⟩ : ∃ R : Nat, bar = R := Int.eq_ofNat_of_zero_le (by omega)
                  obtain ⟨H, hH⟩ : ∃ H : Nat, min ((T : Int) + page) n = H := Int.eq_ofNat_of_zero_le (by omega)
                  obtain ⟨b, o, e1, c1⟩ := (H1.out.below HW.out).int R (by rw [HX.out]; omega)
                  subst e1
                  have HF : Aside0 (brF xs page ks = (xs.getD R 0, (xs.drop T).take (H - T), 0)) := ⟨by
                    unfold brF
                    rw [if_pos ⟨HUP.out, by rw [HX.out]; exact g1, g2, g3⟩, if_neg (by rw [HX.out]; exact g0), HX.out, HS2.out]
                    simp only [Int.toNat_natCast]
                    rw [hH, show ((H : Int) - (T : Int)).toNat = H - T by omega]⟩
                  have hTH : T < H := by omega
                  have hHn : H ≤ n := by omega
                  have hwp : IntKind.i64.wrap ((T : Int) + page) = T + page := wrap_64 _ (by omega) (by omega)
                  have hsl : ∀ W, (Instr.slice 30 (.slice (some ⟨b, o, none⟩) n c) (some (.int .i64 T)) (some (.int .i64 (min ((T : Int) + page) n))) none).run Tryz.prog W = .ok (.slice (some ⟨b, o + T, none⟩) (H - T) (c - T)) W := by
                    intro W
                    rw [hH, run_slice_lh W 30 (some ⟨b, o, none⟩) n c Tryz.underlying30 .i64 .i64 (T : Int) (H : Int) (by omega) (by omega) (by omega), show (sizeOf (Tryz.prog.elem 30)).run Tryz.prog W = .ok 1 W from Tryz.sizeOf3 W]
                    simp only [Result.andThen, sliced, Int.toNat_natCast]
                    rw [if_neg (by omega), Option.map_some, Nat.mul_one, Go.WideShapes.add_plain]
                  have hRA := (H1.out.below HW.out)
                  have hbl : b < wr.heap.size := World.block_lt_of_cell? _ _ c1
                  have HCl := Lib.hid (clone_ints b (o + T) (H - T) (c - T) ((xs.drop T).take (H - T)) wr.drew (by rw [List.length_take, List.length_drop, HX.out]; omega) (by omega) (fun q hq => by
                    have := hRA.at_ (T + q) (by simp [nums, HX.out]; omega)
                    rw [show o + T + q = o + (T + q) by omega]
                    refine this.trans ?_
                    simp only [nums, List.getElem?_map, List.getElem?_take_of_lt hq, List.getElem?_drop]) hbl)
                  have r2 : wr.cell? ⟨g, 2, none⟩ = some (.int .i64 T) := HR.out.cell 2 (by simp)
                  have r3 : wr.cell? ⟨g, 3, none⟩ = some (.int .i64 R) := HR.out.cell 3 (by simp)
                  have hgl : g < wr.heap.size := HR.out.lt
                  have hRn : (R : Int) < n := by omega
                  generalize xs.getD R 0 = x at c1 HF
                  clear hRA hH
                  go_wp2
                  go_region_held3 (fun w' => w'.cell? ⟨b, o + R, none⟩ = some (.int .i64 x) ∧ w'.cell? ⟨g, 2, none⟩ = some (.int .i64 T) ∧ w'.cell? ⟨g, 3, none⟩ = some (.int .i64 R)) (go_keep)
                    (first | (go_at_call 28; refine HCl.out.mono ?_; rintro e w5 ⟨v5, rfl, ho, hb⟩; have HO5 := Aside0.mk (And.intro ho hb); have f1 := (hb.cell (p := ⟨b, o + R, none⟩) hbl).trans c1; have f2 := (hb.cell (p := ⟨g, 2, none⟩) hgl).trans r2; have f3 := (hb.cell (p := ⟨g, 3, none⟩) hgl).trans r3; clear ho hb))
                  all_goals
                    clear f1 f2 f3 c1 r2 r3
                    try go_wp2
                    refine bodyPost_ret (results_tmp3 rfl _ _ _) rfl ?_
                    refine ⟨v5, by rw [HF.out]; rfl, ?_, nx HW.out (below_undrew HO5.out.2)⟩
                    rw [HF.out]
                    exact own_from HO5.out.1 HW.out.size
          · have HF : Aside0 (brF xs page ks = (0, [], 1)) := ⟨brF_bad fun h => g3 h.2.2.2⟩
            go_wp2
            refine bodyPost_ret (results_tmp3 rfl _ _ _) rfl ?_
            exact BrOut.none 1 HF.out HB.out
        · have HF : Aside0 (brF xs page ks = (0, [], 1)) := ⟨brF_bad fun h => g2 h.2.2.1⟩
          go_wp2
          refine bodyPost_ret (results_tmp3 rfl _ _ _) rfl ?_
          exact BrOut.none 1 HF.out HB.out
      · have HF : Aside0 (brF xs page ks = (0, [], 1)) := ⟨brF_bad fun h => g1 (by rw [← HX.out]; exact h.2.1)⟩
        have g1i : ¬ (n : Int) ≤ 300 := by omega
        go_wp2
        refine bodyPost_ret (results_tmp3 rfl _ _ _) rfl ?_
        exact BrOut.none 1 HF.out HB.out
end Go.Proofs.YtnkkccafdbaoeaaGreatDoor.H
