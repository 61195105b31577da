/-
  A menu, whole: the reference's, walked.
-/
import Derived.Test.YtnkkccafdbaoeaaGreatDoorSMenuB
namespace Go.Proofs.YtnkkccafdbaoeaaGreatDoor.H
open Go.RowKit Go.Proofs.YtnkkccafdbaoeaaGreatDoorW.PrintWords Go.Proofs.YtnkkccafdbaoeaaGreatDoorW.PrintLast Go.Proofs.YtnkkccafdbaoeaaGreatDoorW.PrintMore
set_option linter.unusedVariables false
set_option linter.unusedSimpArgs false

theorem rNext_none {n a step : Int} {os : List Bool} (h : os.any id = false) : rNext n (onB os) a step = -1 := by
  unfold rNext
  rw [ring_none (fun j _ => by
    cases ho : onB os (el n a step 0 j) with
    | false => rfl
    | true =>
      unfold onB at ho
      simp only [Bool.and_eq_true] at ho
      have := ho.2
      rw [List.getD_eq_getElem?_getD] at this
      cases hq : os[(el n a step 0 j).toNat]? with
      | none => rw [hq] at this; cases this
      | some q =>
        rw [hq] at this
        have := any_true (p := id) hq this
        rw [h] at this; cases this)]
  rfl
set_option maxHeartbeats 8000000 in
set_option maxRecDepth 100000 in
theorem rmenu_call (A O B : Option Addr) (n ci no co m cm : Nat) (its : List ByteArray) (os : List Bool) (at_ : Int) (ks : List Int) (w : World) (hn : n ≤ 140737488351232) (hx : its.length = n) (hno : no ≤ 140737488351232) (hos : os.length = no) (hm : m ≤ 140737488351232) (hk : ks.length = m) (h1 : Rows w A (strsV its)) (h2 : Rows w O (boolsV os)) (h3 : Rows w B (nums .i64 ks)) :
    Calls Tryz.prog 16 #[.slice A n ci, .slice O no co, .int .i64 at_, .slice B m cm] w (MnOut w (menuF its os at_ ks)) := by
  have HA := Aside0.mk h1
  have HO := Aside0.mk h2
  have HK := Aside0.mk h3
  have HX := Aside0.mk hx
  have HOS := Aside0.mk hos
  have HKS := Aside0.mk hk
  clear h1 h2 h3 hx hos hk
  by_cases g1 : n < 1
  · have HF : Aside0 (menuF its os at_ ks = (0, false, 1)) := ⟨by unfold menuF; rw [if_pos (.inl (by rw [HX.out]; exact g1))]⟩
    have g1i : (n : Int) < 1 := by omega
    go_enter Tryz.func16, Tryz.ntmps16
    go_wp2_with (fail)
    refine bodyPost_ret (results_tmp3 rfl _ _ _) rfl ?_
    exact ⟨by rw [HF.out]; rfl, Below.refl _ _⟩
  · have g1i : ¬ (n : Int) < 1 := by omega
    by_cases g2 : 200 < n
    · have HF : Aside0 (menuF its os at_ ks = (0, false, 1)) := ⟨by unfold menuF; rw [if_pos (.inr (.inl (by rw [HX.out]; exact g2)))]⟩
      have g2i : (200 : Int) < n := by omega
      go_enter Tryz.func16, Tryz.ntmps16
      go_wp2_with (fail)
      refine bodyPost_ret (results_tmp3 rfl _ _ _) rfl ?_
      exact ⟨by rw [HF.out]; rfl, Below.refl _ _⟩
    · have g2i : ¬ (200 : Int) < n := by omega
      go_enter Tryz.func16, Tryz.ntmps16
      go_wp2_with (fail)
      go_loopw [11] (fun i wr => ∃ k : Nat, i = .int .i64 k ∧ Aside0 (k ≤ n) ∧ Aside0 (∀ (j : Nat) x, j < k → its[j]? = some x → wrongS x = false) ∧ Aside0 (wr = w)) (fun i _ => n - (intOf i).toNat)
      case atStart => exact ⟨0, rfl, ⟨Nat.zero_le _⟩, ⟨fun (j : Nat) x h => by omega⟩, ⟨rfl⟩⟩
      case round =>
        obtain ⟨k, rfl, HKk, HF, HW'⟩ := hrel
        have hk := HKk.out
        have hwr := HW'.out.symm
        subst hwr
        by_cases hlt : k < n
        · have hki : (k : Int) < n := by omega
          obtain ⟨b, o, e1, ck⟩ := HA.out.str k (by rw [HX.out]; exact hlt)
          subst e1
          have hgd : Aside0 (its[k]? = some (its.getD k ⟨#[]⟩)) := ⟨by rw [List.getD_eq_getElem?_getD, List.getElem?_eq_getElem (by rw [HX.out]; exact hlt)]; rfl⟩
          generalize its.getD k ⟨#[]⟩ = s at ck hgd
          by_cases s1 : s.size < 1
          · have s1i : (s.size : Int) < 1 := by omega
            have HR : Aside0 (menuF its os at_ ks = (0, false, 1)) := ⟨by unfold menuF; rw [if_pos (.inr (.inr (any_true hgd.out (by simp [wrongS, s1]))))]⟩
            go_wp2_with (fail)
            refine bodyPost_ret (results_tmp3 rfl _ _ _) rfl ?_
            exact ⟨by rw [HR.out]; rfl, Below.refl _ _⟩
          · have s1i : ¬ (s.size : Int) < 1 := by omega
            by_cases s2 : 200 < s.size
            · have s2i : (200 : Int) < s.size := by omega
              have HR : Aside0 (menuF its os at_ ks = (0, false, 1)) := ⟨by unfold menuF; rw [if_pos (.inr (.inr (any_true hgd.out (by simp [wrongS, s2]))))]⟩
              go_wp2_with (fail)
              refine bodyPost_ret (results_tmp3 rfl _ _ _) rfl ?_
              exact ⟨by rw [HR.out]; rfl, Below.refl _ _⟩
            · have s2i : ¬ (200 : Int) < s.size := by omega
              have HQ : Aside0 (wrongS s = false) := ⟨by unfold wrongS; rw [decide_eq_false s1, decide_eq_false s2]; rfl⟩
              go_wp2_with (fail)
              go_roundw
              case rel => exact ⟨k + 1, by go_num, ⟨by omega⟩, ⟨fun j x hj hx => by
                rcases Nat.lt_or_ge j k with h' | h'
                · exact HF.out j x h' hx
                · have : j = k := by omega
                  subst this
                  rw [hgd.out] at hx
                  rw [← Option.some.inj hx]; exact HQ.out⟩, ⟨by first | rfl | trivial⟩⟩
              case measure => simp [intOf]; omega
        · have hki : ¬ (k : Int) < n := by omega
          have hwr : its.any wrongS = false := any_false (fun j x hx => HF.out j x (by have := (List.getElem?_eq_some_iff.1 hx).1; rw [HX.out] at this; omega) hx)
          clear HF hk HKk
          by_cases g4 : no = n
          · subst g4
            by_cases g5 : at_ < 0
            · have HF : Aside0 (menuF its os at_ ks = (0, false, 1)) := ⟨by unfold menuF; rw [if_neg (by rw [HX.out, hwr]; simp; omega), if_neg (by rw [HX.out, HOS.out]; simp), if_pos (.inl g5)]⟩
              go_wp2_with (fail)
              refine bodyPost_ret (results_tmp3 rfl _ _ _) rfl ?_
              exact ⟨by rw [HF.out]; rfl, Below.refl _ _⟩
            · by_cases g6 : (no : Int) ≤ at_
              · have HF : Aside0 (menuF its os at_ ks = (0, false, 1)) := ⟨by unfold menuF; rw [if_neg (by rw [HX.out, hwr]; simp; omega), if_neg (by rw [HX.out, HOS.out]; simp), if_pos (.inr (by rw [HX.out]; exact g6))]⟩
                go_wp2_with (fail)
                refine bodyPost_ret (results_tmp3 rfl _ _ _) rfl ?_
                exact ⟨by rw [HF.out]; rfl, Below.refl _ _⟩
              · obtain ⟨tt, rfl⟩ : ∃ tt : Nat, at_ = tt := Int.eq_ofNat_of_zero_le (by omega)
                have htt : tt < no := by omega
                have htti : (tt : Int) < no := by omega
                have hn1 : (1 : Int) ≤ no := by omega
                have HBa := Aside0.mk (below_alloc (Below.refl _ w) (.cells #[.slice A no ci, .slice O no co] 67))
                have HMa := Aside0.mk (buf_new w #[.slice A no ci, .slice O no co] 67)
                have HN := Lib.hid (fun (a step : Int) W ho ha ha2 hs => rnext_any A O no ci co a step os W ho HOS.out (by omega) (by omega) ha ha2 hs)
                have HNB := Lib.hid (fun (a : Int) (key : Nat) W ho hA ha ha2 hk1 hk2 => rnext_b A O no ci co a 1 os its key W ho hA HOS.out HX.out (its_pos hwr) (by omega) (by omega) ha ha2 (.inl rfl) hk1 hk2)
                have HN0 := Lib.hid (HN.out (tt : Int) 1 _ (HO.out.below HBa.out) (by omega) (by omega) (.inl rfl))
                cases hany : os.any id
                · have HF : Aside0 (menuF its os tt ks = (0, false, 9)) := ⟨by unfold menuF; rw [if_neg (by rw [HX.out, hwr]; simp; omega), if_neg (by rw [HX.out, HOS.out]; simp), if_neg (by rw [HX.out]; omega), if_pos hany]⟩
                  rw [rNext_none hany] at HN0
                  go_wp2_with (go_at_call 35; refine HN0.out.mono ?_; rintro e w5 ⟨rfl, hb5⟩; have HB5 := Aside0.mk hb5; clear hb5)
                  refine bodyPost_ret (results_tmp3 rfl _ _ _) rfl ?_
                  exact ⟨by rw [HF.out]; rfl, nx HBa.out HB5.out⟩
                · obtain ⟨c, hc, hc0, hc1⟩ := any_on hany
                  rw [HOS.out] at hc1
                  have HS0 := mStart_eq c hn1 hc hc0 hc1 (show (0 : Int) ≤ tt by omega) htti
                  rw [HS0.1] at HN0
                  have HI0 := Aside0.mk HS0.2
                  clear HS0 hc hc0 hc1
                  obtain ⟨K, hK⟩ : ∃ K, K = mKey no (onB os) (sameB its) := ⟨_, rfl⟩
                  have HIK : Hid (∀ a key, mInv no (onB os) a → mInv no (onB os) (K a key)) := Lib.hid (fun a key h => by rw [hK]; exact (mKey_eq hn1 onB_pos h key).2)
                  have HKE : Hid (∀ a key, mInv no (onB os) a → rMKey no (onB os) (sameB its) a key = K a key) := Lib.hid (fun a key h => by rw [hK]; exact (mKey_eq hn1 onB_pos h key).1)
                  have HF : Aside0 (menuF its os tt ks = ((mRun K (if onB os tt = true then (tt : Int) else mTo no (onB os) tt 1) ks).1, (mRun K (if onB os tt = true then (tt : Int) else mTo no (onB os) tt 1) ks).2, 0)) := ⟨by
                    unfold menuF
                    rw [if_neg (by rw [HX.out, hwr]; simp; omega), if_neg (by rw [HX.out, HOS.out]; simp), if_neg (by rw [HX.out]; omega), if_neg (by rw [hany]; simp), HX.out, ← hK]⟩
                  clear hK
                  generalize (if onB os tt = true then (tt : Int) else mTo no (onB os) tt 1) = a0 at HF HI0 HN0
                  have hneg : ¬ a0 < 0 := by have := HI0.out.1; omega
                  go_wp2_with (go_at_call 35; refine HN0.out.mono ?_; rintro e w5 ⟨rfl, hb5⟩; have HMn := Aside0.mk (HMa.out.below hb5); have HBw := Aside0.mk (nx HBa.out hb5); clear hb5)
                  clear hneg
                  go_loopw [14, 15] (fun u i wr => ∃ (j : Nat) (a : Int), u = .int .i64 a ∧ i = .int .i64 j ∧ Aside0 (j ≤ m) ∧ Aside0 (Buf wr w.heap.size 67 [.slice A no ci, .slice O no co]) ∧ Aside0 (mInv no (onB os) a) ∧ Aside0 (mRun K a (ks.drop j) = mRun K a0 ks) ∧ Aside0 (Below w.heap.size w wr)) (fun _ i _ => m - (intOf i).toNat)
                  case atStart => exact ⟨0, a0, rfl, rfl, ⟨Nat.zero_le _⟩, HMn, HI0, ⟨rfl⟩, HBw⟩
                  case round =>
                    clear HMn HBw
                    obtain ⟨j, a, rfl, rfl, HJ, HMn, HI, HD, HBw⟩ := hrel
                    have hj := HJ.out
                    have d0 := HMn.out.cell 0 (by simp)
                    have d1 := HMn.out.cell 1 (by simp)
                    obtain ⟨ia, ib, _⟩ := HI.out
                    by_cases hlt : j < m
                    · have hji : (j : Int) < m := by omega
                      obtain ⟨b', o', e2, ck⟩ := (HK.out.below HBw.out).int j (by rw [HKS.out]; exact hlt)
                      subst e2
                      have HD1 : Aside0 (mRun K a (ks.getD j 0 :: ks.drop (j + 1)) = mRun K a0 ks) := ⟨by rw [← drop_cons (by rw [HKS.out]; exact hlt)]; exact HD.out⟩
                      have HIn : Aside0 (mInv no (onB os) (K a (ks.getD j 0))) := ⟨HIK.out a (ks.getD j 0) HI.out⟩
                      generalize ks.getD j 0 = key at ck HD1 HIn
                      have HKD : Aside0 (key ≠ 1 → key ≠ 8 → mRun K (K a key) (ks.drop (j + 1)) = mRun K a0 ks) := ⟨fun n1 n8 => by rw [← HD1.out, mRun_cons, if_neg n1, if_neg n8]⟩
                      by_cases k1 : key = 3 ∨ key = 5
                      · have e : rNext no (onB os) (a + 1) (1) = K a key := by rw [← HKE.out a key HI.out]; unfold rMKey; rw [if_pos k1]
                        have HC0 := HN.out (a + 1) (1) wr (HO.out.below HBw.out) (by omega) (by omega) (.inl rfl)
                        rw [e] at HC0
                        have HC := Lib.hid HC0
                        clear HC0 e
                        generalize K a key = a' at HC HIn HKD
                        rcases k1 with rfl | rfl
                        · go_wp2_with (go_at_call 35; refine HC.out.mono ?_; rintro e w6 ⟨rfl, hb6⟩; have HQ := Aside0.mk hb6; clear hb6)
                          go_roundw
                          case rel => exact ⟨j + 1, a', rfl, by go_num, ⟨by omega⟩, ⟨HMn.out.below HQ.out⟩, HIn, ⟨HKD.out (by omega) (by omega)⟩, ⟨nx HBw.out HQ.out⟩⟩
                          case measure => simp [intOf]; omega
                        · go_wp2_with (go_at_call 35; refine HC.out.mono ?_; rintro e w6 ⟨rfl, hb6⟩; have HQ := Aside0.mk hb6; clear hb6)
                          go_roundw
                          case rel => exact ⟨j + 1, a', rfl, by go_num, ⟨by omega⟩, ⟨HMn.out.below HQ.out⟩, HIn, ⟨HKD.out (by omega) (by omega)⟩, ⟨nx HBw.out HQ.out⟩⟩
                          case measure => simp [intOf]; omega
                      · have t3 : (key == 3) = false := by simp; omega
                        have t5 : (key == 5) = false := by simp; omega
                        by_cases k2 : key = 2 ∨ key = 4
                        · have e : rNext no (onB os) (a - 1) (-1) = K a key := by rw [← HKE.out a key HI.out]; unfold rMKey; rw [if_neg k1, if_pos k2]
                          have HC0 := HN.out (a - 1) (-1) wr (HO.out.below HBw.out) (by omega) (by omega) (.inr rfl)
                          rw [e] at HC0
                          have HC := Lib.hid HC0
                          clear HC0 e
                          generalize K a key = a' at HC HIn HKD
                          rcases k2 with rfl | rfl
                          · go_wp2_with (go_at_call 35; refine HC.out.mono ?_; rintro e w6 ⟨rfl, hb6⟩; have HQ := Aside0.mk hb6; clear hb6)
                            go_roundw
                            case rel => exact ⟨j + 1, a', rfl, by go_num, ⟨by omega⟩, ⟨HMn.out.below HQ.out⟩, HIn, ⟨HKD.out (by omega) (by omega)⟩, ⟨nx HBw.out HQ.out⟩⟩
                            case measure => simp [intOf]; omega
                          · go_wp2_with (go_at_call 35; refine HC.out.mono ?_; rintro e w6 ⟨rfl, hb6⟩; have HQ := Aside0.mk hb6; clear hb6)
                            go_roundw
                            case rel => exact ⟨j + 1, a', rfl, by go_num, ⟨by omega⟩, ⟨HMn.out.below HQ.out⟩, HIn, ⟨HKD.out (by omega) (by omega)⟩, ⟨nx HBw.out HQ.out⟩⟩
                            case measure => simp [intOf]; omega
                        · have t2 : (key == 2) = false := by simp; omega
                          have t4 : (key == 4) = false := by simp; omega
                          by_cases k9 : key = 9
                          · have e : rNext no (onB os) (0) (1) = K a key := by rw [← HKE.out a key HI.out]; unfold rMKey; rw [if_neg k1, if_neg k2, if_pos k9]
                            have HC0 := HN.out (0) (1) wr (HO.out.below HBw.out) (by omega) (by omega) (.inl rfl)
                            rw [e] at HC0
                            have HC := Lib.hid HC0
                            clear HC0 e
                            generalize K a key = a' at HC HIn HKD
                            subst k9
                            go_wp2_with (go_at_call 35; refine HC.out.mono ?_; rintro e w6 ⟨rfl, hb6⟩; have HQ := Aside0.mk hb6; clear hb6)
                            go_roundw
                            case rel => exact ⟨j + 1, a', rfl, by go_num, ⟨by omega⟩, ⟨HMn.out.below HQ.out⟩, HIn, ⟨HKD.out (by omega) (by omega)⟩, ⟨nx HBw.out HQ.out⟩⟩
                            case measure => simp [intOf]; omega
                          · have t9 : (key == 9) = false := by simp; omega
                            by_cases k10 : key = 10
                            · have e : rNext no (onB os) ((no : Int) - 1) (-1) = K a key := by rw [← HKE.out a key HI.out]; unfold rMKey; rw [if_neg k1, if_neg k2, if_neg k9, if_pos k10]
                              have HC0 := HN.out ((no : Int) - 1) (-1) wr (HO.out.below HBw.out) (by omega) (by omega) (.inr rfl)
                              rw [e] at HC0
                              have HC := Lib.hid HC0
                              clear HC0 e
                              generalize K a key = a' at HC HIn HKD
                              subst k10
                              go_wp2_with (go_at_call 35; refine HC.out.mono ?_; rintro e w6 ⟨rfl, hb6⟩; have HQ := Aside0.mk hb6; clear hb6)
                              go_roundw
                              case rel => exact ⟨j + 1, a', rfl, by go_num, ⟨by omega⟩, ⟨HMn.out.below HQ.out⟩, HIn, ⟨HKD.out (by omega) (by omega)⟩, ⟨nx HBw.out HQ.out⟩⟩
                              case measure => simp [intOf]; omega
                            · have t10 : (key == 10) = false := by simp; omega
                              by_cases k1' : key = 1
                              · subst k1'
                                have HR : Aside0 (menuF its os tt ks = (a, true, 0)) := ⟨by rw [HF.out, ← HD1.out, mRun_cons, if_pos rfl]⟩
                                go_wp2_with (fail)
                                refine bodyPost_ret (results_tmp3 rfl _ _ _) rfl ?_
                                exact ⟨by rw [HR.out]; rfl, HBw.out⟩
                              · have t1 : (key == 1) = false := by simpa using k1'
                                by_cases k8 : key = 8
                                · subst k8
                                  have HR : Aside0 (menuF its os tt ks = (-1, false, 0)) := ⟨by rw [HF.out, ← HD1.out, mRun_cons, if_neg k1', if_pos rfl]⟩
                                  go_wp2_with (fail)
                                  refine bodyPost_ret (results_tmp3 rfl _ _ _) rfl ?_
                                  exact ⟨by rw [HR.out]; rfl, HBw.out⟩
                                · have t8 : (key == 8) = false := by simpa using k8
                                  by_cases kc : 32 ≤ key ∧ key ≤ 126
                                  · obtain ⟨kn, rfl⟩ : ∃ kn : Nat, key = kn := Int.eq_ofNat_of_zero_le (by omega)
                                    have e : K a kn = if 0 ≤ rNext no (fun x => onB os x && sameB its x kn) (a + 1) 1 then rNext no (fun x => onB os x && sameB its x kn) (a + 1) 1 else a := by rw [← HKE.out a kn HI.out]; unfold rMKey; rw [if_neg k1, if_neg k2, if_neg k9, if_neg k10, if_pos kc]
                                    have HC := Lib.hid (HNB.out (a + 1) kn wr (HO.out.below HBw.out) (HA.out.below HBw.out) (by omega) (by omega) (by omega) (by omega))
                                    rw [e] at HIn HKD
                                    clear e
                                    generalize rNext no (fun x => onB os x && sameB its x kn) (a + 1) 1 = r at HC HIn HKD
                                    have hkm : (kn : Int) % 256 = kn := by omega
                                    have hku : IntKind.u8.wrap (kn : Int) = kn := by rw [IntKind.wrap_u8]; exact hkm
                                    have hq1 : ¬ (kn : Int) < 32 := by omega
                                    have hq2 : ¬ (126 : Int) < kn := by omega
                                    by_cases hr : 0 ≤ r
                                    · rw [if_pos hr] at HIn HKD
                                      go_wp2_with (go_at_call 35; refine HC.out.mono ?_; rintro e w6 ⟨rfl, hb6⟩; have HQ := Aside0.mk hb6; clear hb6)
                                      go_roundw
                                      case rel => exact ⟨j + 1, r, rfl, by go_num, ⟨by omega⟩, ⟨HMn.out.below HQ.out⟩, HIn, ⟨HKD.out k1' k8⟩, ⟨nx HBw.out HQ.out⟩⟩
                                      case measure => simp [intOf]; omega
                                    · rw [if_neg hr] at HIn HKD
                                      go_wp2_with (go_at_call 35; refine HC.out.mono ?_; rintro e w6 ⟨rfl, hb6⟩; have HQ := Aside0.mk hb6; clear hb6)
                                      go_roundw
                                      case rel => exact ⟨j + 1, a, rfl, by go_num, ⟨by omega⟩, ⟨HMn.out.below HQ.out⟩, HIn, ⟨HKD.out k1' k8⟩, ⟨nx HBw.out HQ.out⟩⟩
                                      case measure => simp [intOf]; omega
                                  · have e : K a key = a := by rw [← HKE.out a key HI.out]; unfold rMKey; rw [if_neg k1, if_neg k2, if_neg k9, if_neg k10, if_neg kc]
                                    rw [e] at HIn HKD
                                    by_cases hq1 : key < 32
                                    · go_wp2_with (fail)
                                      go_roundw
                                      case rel => exact ⟨j + 1, a, rfl, by go_num, ⟨by omega⟩, HMn, HIn, ⟨HKD.out k1' k8⟩, HBw⟩
                                      case measure => simp [intOf]; omega
                                    · have hq2 : (126 : Int) < key := by omega
                                      go_wp2_with (fail)
                                      go_roundw
                                      case rel => exact ⟨j + 1, a, rfl, by go_num, ⟨by omega⟩, HMn, HIn, ⟨HKD.out k1' k8⟩, HBw⟩
                                      case measure => simp [intOf]; omega
                    · obtain rfl : j = m := by omega
                      have hji : ¬ (j : Int) < j := by omega
                      have HR : Aside0 (menuF its os tt ks = (a, false, 0)) := ⟨by rw [HF.out, ← HD.out, List.drop_of_length_le (by rw [HKS.out]; exact Nat.le_refl _)]; rfl⟩
                      go_wp2_with (fail)
                      refine bodyPost_ret (results_tmp3 rfl _ _ _) rfl ?_
                      exact ⟨by rw [HR.out]; rfl, HBw.out⟩
          · have HF : Aside0 (menuF its os at_ ks = (0, false, 10)) := ⟨by unfold menuF; rw [if_neg (by rw [HX.out, hwr]; simp; omega), if_pos (by rw [HX.out, HOS.out]; exact g4)]⟩
            have g4i : ((no : Int) != n) = true := by simp; omega
            go_wp2_with (fail)
            refine bodyPost_ret (results_tmp3 rfl _ _ _) rfl ?_
            exact ⟨by rw [HF.out]; rfl, Below.refl _ _⟩
end Go.Proofs.YtnkkccafdbaoeaaGreatDoor.H
