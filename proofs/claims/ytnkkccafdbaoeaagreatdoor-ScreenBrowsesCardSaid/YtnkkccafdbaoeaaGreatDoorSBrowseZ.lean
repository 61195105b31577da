/-
  A browse, whole: the reference's; and the law.
-/
import Derived.Test.YtnkkccafdbaoeaaGreatDoorSBrowseY
import Derived.Test.YtnkkccafdbaoeaaGreatDoorSKnown
namespace Go.Proofs.YtnkkccafdbaoeaaGreatDoor.H
open Go.RowKit Go.Proofs.YtnkkccafdbaoeaaGreatDoorW.PrintWords Go.Proofs.YtnkkccafdbaoeaaGreatDoorW.PrintLast Go.Proofs.YtnkkccafdbaoeaaGreatDoorW.PrintMore
set_option linter.unusedVariables false
set_option linter.unusedSimpArgs false

theorem rrun_eq {n page : Int} (hn : 1 ≤ n) (hp : 1 ≤ page) (ks : List Int) : ks.foldl (rKey n page) (0, 0) = ks.foldl (bKey n page) (0, 0) := (bRun_eq hn hp ks (0, 0) (bStart n page hn hp)).1
set_option maxHeartbeats 8000000 in
set_option maxRecDepth 100000 in
theorem rbrowse_call (A B : Option Addr) (n c m d : Nat) (xs ks : List Int) (page : Int) (w : World) (hx : xs.length = n) (hk : ks.length = m) (hn : n + m ≤ 65536) (hc : n ≤ c) (h1 : Rows w A (nums .i64 xs)) (h2 : Rows w B (nums .i64 ks)) :
    Calls Tryz.prog 13 #[.slice A n c, .int .i64 page, .slice B m d] w (BrOut w (brF xs page ks)) := by
  have H1 := Aside0.mk h1
  have H2 := Aside0.mk h2
  have HX := Aside0.mk hx
  have HKl := Aside0.mk hk
  clear h1 h2 hx hk
  by_cases g1 : n ≤ 300
  · have g1i : (n : Int) ≤ 300 := by omega
    go_enter Tryz.func13, Tryz.ntmps13
    go_wp2
    go_loopw [9] (fun i wr => ∃ k : Nat, i = .int .i64 k ∧ Aside0 (k ≤ n) ∧ Aside0 (upTo xs k = true) ∧ Aside0 (Drawn0 w wr)) (fun i _ => n - (intOf i).toNat)
    case atStart => exact ⟨0, rfl, ⟨Nat.zero_le _⟩, ⟨rfl⟩, ⟨Drawn0.refl _⟩⟩
    case round =>
      obtain ⟨k, rfl, HK, HU, HD⟩ := hrel
      have hk := HK.out
      by_cases hlt : k < n
      · have hki : (k : Int) < n := by omega
        by_cases h0 : k = 0
        · subst h0
          have HN : Aside0 (upTo xs 1 = true) := ⟨upTo_one xs⟩
          have t0 : decide ((300 : Int) < n) = false := by simp; omega
          go_wp2
          go_quiet (fail)
          go_wp2
          go_roundw
          case rel => exact ⟨1, by go_num, ⟨by omega⟩, HN, ⟨HD.out.step _⟩⟩
          case measure => simp [intOf]; omega
        · obtain ⟨j, rfl⟩ : ∃ j, k = j + 1 := ⟨k - 1, by omega⟩
          obtain ⟨b, o, e1, c1⟩ := (H1.out.below (drawn_below HD.out)).int (j + 1) (by rw [HX.out]; exact hlt)
          obtain ⟨b2, o2, e2, c2⟩ := (H1.out.below (drawn_below HD.out)).int j (by rw [HX.out]; omega)
          rw [e1] at e2
          injection e2 with e2
          injection e2 with e3 e4
          subst e3 e4
          subst e1
          have HN : Aside0 (upTo xs (j + 1 + 1) = decide (xs.getD j 0 < xs.getD (j + 1) 0)) := ⟨by rw [upTo, HU.out]; simp⟩
          generalize xs.getD (j + 1) 0 = x at c1 HN
          generalize xs.getD j 0 = y at c2 HN
          have t0 : decide ((300 : Int) < n) = false := by simp; omega
          have hj0 : (0 : Int) < (j : Int) + 1 := by omega
          have hji : (j : Int) + 1 < n := by omega
          by_cases hxy : x ≤ y
          · have HF : Aside0 (brF xs page ks = (0, [], 1)) := ⟨brF_bad (fun h => by
              have h0 : upTo xs (j + 1 + 1) = false := by rw [HN.out]; simp; omega
              rw [upTo_false h0 (show j + 1 + 1 ≤ xs.length by rw [HX.out]; omega)] at h
              cases h.1)⟩
            go_wp2
            go_quiet (fail)
            go_wp2
            refine bodyPost_ret (results_tmp3 rfl _ _ _) rfl ?_
            exact BrOut.none 1 HF.out (drawn_below (HD.out.step _))
          · go_wp2
            go_quiet (fail)
            go_wp2
            go_roundw
            case rel => exact ⟨j + 1 + 1, by go_num, ⟨by omega⟩, ⟨by rw [HN.out]; simp; omega⟩, ⟨HD.out.step _⟩⟩
            case measure => simp [intOf]; omega
      · have HB := Aside0.mk (drawn_below HD.out)
        obtain rfl : k = n := by omega
        have HUP : Aside0 (upTo xs xs.length = true) := ⟨by rw [HX.out]; exact HU.out⟩
        have hki : ¬ (k : Int) < k := by omega
        clear HU HK HD
        by_cases g2 : 1 ≤ page
        · by_cases g3 : page ≤ 25
          · by_cases g0 : k = 0
            · have HF : Aside0 (brF xs page ks = (0, [], 0)) := ⟨by unfold brF; rw [if_pos ⟨HUP.out, by rw [HX.out]; exact g1, g2, g3⟩, if_pos (by rw [HX.out]; exact g0)]⟩
              have g0i : ((k : Int) == 0) = true := by simp [g0]
              go_wp2
              refine bodyPost_ret (results_tmp3 rfl _ _ _) rfl ?_
              exact BrOut.none 0 HF.out HB.out
            · have g0i : ((k : Int) == 0) = false := by simp [g0]
              have hn1 : (1 : Int) ≤ k := by omega
              have HIV := Lib.hid (fun js => run_inv hn1 g2 js)
              have HKE := Lib.hid (fun s h key => (bKey_inv hn1 g2 (s := s) h key).2)
              go_wp2
              go_loopw [10, 11, 13] (fun u v i wr2 => ∃ (j : Nat) (f b : Int), u = .int .i64 f ∧ v = .int .i64 b ∧ i = .int .i64 j ∧ Aside0 (j ≤ m) ∧ Aside0 ((f, b) = (ks.take j).foldl (bKey k page) (0, 0)) ∧ Aside0 (Below w.heap.size w wr2)) (fun _ _ i _ => m - (intOf i).toNat)
              case atStart => exact ⟨0, 0, 0, rfl, rfl, rfl, ⟨Nat.zero_le _⟩, ⟨rfl⟩, HB⟩
              case round =>
                clear HB
                obtain ⟨j, f, b, rfl, rfl, rfl, HJ, HS, HB⟩ := hrel
                have hj := HJ.out
                have HI := HIV.out (ks.take j)
                rw [← HS.out] at HI
                by_cases hlt : j < m
                · obtain ⟨b', o, e1, c1⟩ := (H2.out.below HB.out).int j (by rw [HKl.out]; exact hlt)
                  subst e1
                  have hji : (j : Int) < m := by omega
                  have HN : Aside0 (rKey k page (f, b) (ks.getD j 0) = (ks.take (j + 1)).foldl (bKey k page) (0, 0)) := ⟨by rw [foldl_snoc_take _ _ _ _ (by rw [HKl.out]; exact hlt), ← HS.out]; exact HKE.out _ HI _⟩
                  obtain ⟨i1, i2, i3, i4⟩ := HI
                  simp only at i1 i2 i3 i4
                  generalize ks.getD j 0 = key at c1 HN
                  by_cases k3 : key = 3
                  · subst k3
                    have HE : Aside0 (rKey k page (f, b) 3 = (max (min (f) (min (b + 1) (k - 1))) (min (b + 1) (k - 1) - page + 1), min (b + 1) (k - 1))) := ⟨by unfold rKey rKey0; rfl⟩
                    go_wp2
                    go_roundw
                    case rel => exact ⟨j + 1, max (min (f) (min (b + 1) (k - 1))) (min (b + 1) (k - 1) - page + 1), min (b + 1) (k - 1), rfl, rfl, by go_num, ⟨by omega⟩, ⟨HE.out.symm.trans HN.out⟩, ⟨HB.out⟩⟩
                    case measure => simp [intOf]; omega
                  · have t3 : (key == 3) = false := by simpa using k3
                    by_cases k2 : key = 2
                    · subst k2
                      have HE : Aside0 (rKey k page (f, b) 2 = (max (min (f) (max (b - 1) 0)) (max (b - 1) 0 - page + 1), max (b - 1) 0)) := ⟨by unfold rKey rKey0; rfl⟩
                      go_wp2
                      go_roundw
                      case rel => exact ⟨j + 1, max (min (f) (max (b - 1) 0)) (max (b - 1) 0 - page + 1), max (b - 1) 0, rfl, rfl, by go_num, ⟨by omega⟩, ⟨HE.out.symm.trans HN.out⟩, ⟨HB.out⟩⟩
                      case measure => simp [intOf]; omega
                    · have t2 : (key == 2) = false := by simpa using k2
                      by_cases k9 : key = 9
                      · subst k9
                        have HE : Aside0 (rKey k page (f, b) 9 = (max (min f 0) (-page + 1), 0)) := ⟨by unfold rKey rKey0; simp⟩
                        go_wp2
                        go_roundw
                        case rel => exact ⟨j + 1, max (min f 0) (-page + 1), 0, rfl, rfl, by go_num, ⟨by omega⟩, ⟨HE.out.symm.trans HN.out⟩, ⟨HB.out⟩⟩
                        case measure => simp [intOf]; omega
                      · have t9 : (key == 9) = false := by simpa using k9
                        by_cases k10 : key = 10
                        · subst k10
                          have HE : Aside0 (rKey k page (f, b) 10 = (max (min (f) ((k : Int) - 1)) ((k : Int) - 1 - page + 1), (k : Int) - 1)) := ⟨by unfold rKey rKey0; rfl⟩
                          go_wp2
                          go_roundw
                          case rel => exact ⟨j + 1, max (min (f) ((k : Int) - 1)) ((k : Int) - 1 - page + 1), (k : Int) - 1, rfl, rfl, by go_num, ⟨by omega⟩, ⟨HE.out.symm.trans HN.out⟩, ⟨HB.out⟩⟩
                          case measure => simp [intOf]; omega
                        · have t10 : (key == 10) = false := by simpa using k10
                          by_cases k5 : key = 5
                          · subst k5
                            by_cases hr : f + page < k
                            · skip
                              have HE : Aside0 (rKey k page (f, b) 5 = (max (min (f + page) (min (b + page) (k - 1))) (min (b + page) (k - 1) - page + 1), min (b + page) (k - 1))) := ⟨by unfold rKey rKey0; simp only [if_pos hr]; rfl⟩
                              go_wp2
                              go_roundw
                              case rel => exact ⟨j + 1, max (min (f + page) (min (b + page) (k - 1))) (min (b + page) (k - 1) - page + 1), min (b + page) (k - 1), rfl, rfl, by go_num, ⟨by omega⟩, ⟨HE.out.symm.trans HN.out⟩, ⟨HB.out⟩⟩
                              case measure => simp [intOf]; omega
                            · skip
                              have HE : Aside0 (rKey k page (f, b) 5 = (max (min (f) ((k : Int) - 1)) ((k : Int) - 1 - page + 1), (k : Int) - 1)) := ⟨by unfold rKey rKey0; simp only [if_neg hr]; rfl⟩
                              go_wp2
                              go_roundw
                              case rel => exact ⟨j + 1, max (min (f) ((k : Int) - 1)) ((k : Int) - 1 - page + 1), (k : Int) - 1, rfl, rfl, by go_num, ⟨by omega⟩, ⟨HE.out.symm.trans HN.out⟩, ⟨HB.out⟩⟩
                              case measure => simp [intOf]; omega
                          · have t5 : (key == 5) = false := by simpa using k5
                            by_cases k4 : key = 4
                            · subst k4
                              have HE : Aside0 (rKey k page (f, b) 4 = (max (min (f - min f page) (b - min f page)) (b - min f page - page + 1), b - min f page)) := ⟨by unfold rKey rKey0; rfl⟩
                              go_wp2
                              go_roundw
                              case rel => exact ⟨j + 1, max (min (f - min f page) (b - min f page)) (b - min f page - page + 1), b - min f page, rfl, rfl, by go_num, ⟨by omega⟩, ⟨HE.out.symm.trans HN.out⟩, ⟨HB.out⟩⟩
                              case measure => simp [intOf]; omega
                            · have t4 : (key == 4) = false := by simpa using k4
                              have HE : Aside0 (rKey k page (f, b) key = (max (min (f) (b)) (b - page + 1), b)) := ⟨by unfold rKey rKey0; simp only [if_neg k3, if_neg k2, if_neg k9, if_neg k10, if_neg k5, if_neg k4]⟩
                              go_wp2
                              go_roundw
                              case rel => exact ⟨j + 1, max (min (f) (b)) (b - page + 1), b, rfl, rfl, by go_num, ⟨by omega⟩, ⟨HE.out.symm.trans HN.out⟩, ⟨HB.out⟩⟩
                              case measure => simp [intOf]; omega
                · obtain rfl : j = m := by omega
                  have hji : ¬ (j : Int) < j := by omega
                  have HS2 : Aside0 (ks.foldl (bKey k page) (0, 0) = (f, b)) := ⟨by rw [HS.out, List.take_of_length_le (by rw [HKl.out]; exact Nat.le_refl _)]⟩
                  obtain ⟨i1, i2, i3, i4⟩ := HI
                  simp only at i1 i2 i3 i4
                  obtain ⟨T, rfl⟩ : ∃ T : Nat, f = T := Int.eq_ofNat_of_zero_le i1
                  obtain ⟨R, rfl⟩ : ∃ R : Nat, b = R := Int.eq_ofNat_of_zero_le (by omega)
                  obtain ⟨H, hH⟩ : ∃ H : Nat, min ((T : Int) + page) k = H := Int.eq_ofNat_of_zero_le (by omega)
                  obtain ⟨b, o, e1, c1⟩ := (H1.out.below HB.out).int R (by rw [HX.out]; omega)
                  subst e1
                  have HF : Aside0 (brF xs page ks = (xs.getD R 0, (xs.drop T).take (H - T), 0)) := ⟨by
                    unfold brF
                    rw [if_pos ⟨HUP.out, by rw [HX.out]; exact g1, g2, g3⟩, if_neg (by rw [HX.out]; exact g0), HX.out, HS2.out]
                    simp only [Int.toNat_natCast]
                    rw [hH, show ((H : Int) - (T : Int)).toNat = H - T by omega]⟩
                  have hTH : T < H := by omega
                  have hHn : H ≤ k := by omega
                  have hwp : IntKind.i64.wrap ((T : Int) + page) = T + page := wrap_64 _ (by omega) (by omega)
                  have hsl : ∀ W, (Instr.slice 30 (.slice (some ⟨b, o, none⟩) k c) (some (.int .i64 T)) (some (.int .i64 (min ((T : Int) + page) k))) none).run Tryz.prog W = .ok (.slice (some ⟨b, o + T, none⟩) (H - T) (c - T)) W := by
                    intro W
                    rw [hH, run_slice_lh W 30 (some ⟨b, o, none⟩) k c Tryz.underlying30 .i64 .i64 (T : Int) (H : Int) (by omega) (by omega) (by omega), show (sizeOf (Tryz.prog.elem 30)).run Tryz.prog W = .ok 1 W from Tryz.sizeOf3 W]
                    simp only [Result.andThen, sliced, Int.toNat_natCast]
                    rw [if_neg (by omega), Option.map_some, Nat.mul_one, Go.WideShapes.add_plain]
                  have hRA := (H1.out.below HB.out)
                  have hbl : b < wr.heap.size := World.block_lt_of_cell? _ _ c1
                  have HNW : Aside0 (∀ q u, (nums .i64 ((xs.drop T).take (H - T)))[q]? = some u → wr.drew.cell? ((⟨b, o + T, none⟩ : Addr).add q) = some u) := ⟨fun q u hq => by
                    have hq' : q < H - T := by
                      have := (List.getElem?_eq_some_iff.1 hq).1
                      simp [nums] at this; omega
                    have := hRA.at_ (T + q) (by simp [nums, HX.out]; omega)
                    rw [Go.WideShapes.add_plain, show o + T + q = o + (T + q) by omega]
                    refine (show wr.drew.cell? ⟨b, o + (T + q), none⟩ = wr.cell? ⟨b, o + (T + q), none⟩ from rfl).trans (this.trans ?_)
                    rw [← hq]
                    simp only [nums, List.getElem?_map, List.getElem?_take_of_lt hq', List.getElem?_drop]⟩
                  have hRn : (R : Int) < k := by omega
                  have HLEN : Aside0 ((nums .i64 ((xs.drop T).take (H - T))).length = (H - T) * 1) := ⟨by simp [nums, HX.out]; omega⟩
                  have HWS := Aside0.mk HB.out.size
                  obtain ⟨vi, hvi, hvz⟩ := Option.map_eq_some_iff.1 info_int
                  simp only [Prod.mk.injEq] at hvz
                  obtain ⟨hv0, hv1, hv2⟩ := hvz
                  have hzs : (Value.int .i64 0).cells.size = 1 := rfl
                  have hnil : ∀ W : World, W.ownsRow w.heap.size 3 1 (.slice none 0 0) 0 [] := fun _ => ⟨rfl, Or.inl ⟨rfl, rfl⟩⟩
                  generalize xs.getD R 0 = x at c1 HF
                  clear hRA hH
                  go_wp2
                  go_region_law ((refine step_append_lies _ rfl (.const (.slice none 0 0)) (.tmp 127) 30 rfl w.heap.size 3 vi (.int .i64 0) 1 8 Tryz.underlying30 hvi hv0 hv1 hv2 hzs (by decide) (.slice none 0 0) 0 [] ?hs (hnil _) ⟨b, o + T, none⟩ (H - T) (c - T) (nums .i64 ((xs.drop T).take (H - T))) ?hx HLEN.out HNW.out (nums_one _ _) ?hm ?h63 ?hby ?hbase _ rfl ?_); (case hs => rfl); (case hx => rfl); (case hm => omega); (case h63 => simp only [maxLen]; omega); (case hby => omega); (case hbase => exact HWS.out); intro g cap w8 ho hg hat hlt; have HO8 := Aside0.mk (And.intro ho hg); have f1 := (hg.cell_far ⟨b, o + R, none⟩ hbl (by simp [Value.ownBlock])).trans c1; clear ho hg hat hlt)
                  all_goals
                    go_wp2
                    refine bodyPost_ret (results_tmp3 rfl _ _ _) rfl ?_
                    obtain ⟨ho, hg⟩ := HO8.out
                    refine ⟨.slice (some ⟨g, 0, none⟩) (0 + (H - T)) cap, by rw [HF.out]; simp [Act.put], ?_, HB.out.drew.grown hg HWS.out (fun k h => by cases h)⟩
                    rw [HF.out]
                    have hl : ((xs.drop T).take (H - T)).length = H - T := by rw [List.length_take, List.length_drop, HX.out]; omega
                    rw [hl]
                    rw [List.nil_append, Nat.zero_add] at ho
                    rw [Nat.zero_add]
                    exact ho
          · have HF : Aside0 (brF xs page ks = (0, [], 1)) := ⟨brF_bad fun h => g3 h.2.2.2⟩
            go_wp2
            refine bodyPost_ret (results_tmp3 rfl _ _ _) rfl ?_
            exact BrOut.none 1 HF.out HB.out
        · have HF : Aside0 (brF xs page ks = (0, [], 1)) := ⟨brF_bad fun h => g2 h.2.2.1⟩
          go_wp2
          refine bodyPost_ret (results_tmp3 rfl _ _ _) rfl ?_
          exact BrOut.none 1 HF.out HB.out
  · have g1i : ¬ (n : Int) ≤ 300 := by omega
    have HF : Aside0 (brF xs page ks = (0, [], 1)) := ⟨brF_bad fun h => g1 (by rw [← HX.out]; exact h.2.1)⟩
    have t0 : decide ((300 : Int) < n) = true := by simp; omega
    go_enter Tryz.func13, Tryz.ntmps13
    go_wp2
    go_loopw [9] (fun i wr => i = .int .i64 0 ∧ Aside0 (wr = w)) (fun i _ => 0)
    case atStart => exact ⟨rfl, ⟨rfl⟩⟩
    case round =>
      obtain ⟨rfl, HW⟩ := hrel
      have h0 : (0 : Int) < n := by omega
      go_wp2
      go_quiet (fail)
      go_wp2
      refine bodyPost_ret (results_tmp3 rfl _ _ _) rfl ?_
      rw [HW.out]
      exact BrOut.none 1 HF.out (drawn_below ((Drawn0.refl _).step _))
end Go.Proofs.YtnkkccafdbaoeaaGreatDoor.H
