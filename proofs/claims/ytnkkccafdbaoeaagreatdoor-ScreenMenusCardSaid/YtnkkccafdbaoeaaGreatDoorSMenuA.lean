/-
  A menu, whole: the program's, walked.
-/
import Derived.Test.YtnkkccafdbaoeaaGreatDoorSMenuZ
namespace Go.Proofs.YtnkkccafdbaoeaaGreatDoor.H
open Go.RowKit Go.Proofs.YtnkkccafdbaoeaaGreatDoorW.PrintWords Go.Proofs.YtnkkccafdbaoeaaGreatDoorW.PrintLast Go.Proofs.YtnkkccafdbaoeaaGreatDoorW.PrintMore
set_option linter.unusedVariables false
set_option linter.unusedSimpArgs false

/-- What a menu gives: the item, whether it is chosen, the result. -/
def menuF (its : List ByteArray) (os : List Bool) (at_ : Int) (ks : List Int) : Int × Bool × Int :=
  if its.length < 1 ∨ 200 < its.length ∨ its.any wrongS = true then (0, false, 1)
  else if os.length ≠ its.length then (0, false, 10)
  else if at_ < 0 ∨ its.length ≤ at_ then (0, false, 1)
  else if os.any id = false then (0, false, 9)
  else ((mRun (mKey its.length (onB os) (sameB its)) (if onB os at_ = true then at_ else mTo its.length (onB os) at_ 1) ks).1,
    (mRun (mKey its.length (onB os) (sameB its)) (if onB os at_ = true then at_ else mTo its.length (onB os) at_ 1) ks).2, 0)
def MnOut (w : World) (r : Int × Bool × Int) (e : Ending) (w' : World) : Prop := e = .returned (.tuple #[.int .i64 r.1, .bool r.2.1, .int .i64 r.2.2]) ∧ Below w.heap.size w w'
theorem onB_pos {os : List Bool} : ∀ x, onB os x = true → 0 ≤ x := by
  intro x h
  unfold onB at h
  simp at h
  exact h.1
theorem any_on {os : List Bool} (h : os.any id = true) : ∃ c : Int, onB os c = true ∧ 0 ≤ c ∧ c < os.length := by
  obtain ⟨x, hx, hp⟩ := List.any_eq_true.1 h
  obtain ⟨k, hk⟩ := List.getElem?_of_mem hx
  have hk' := (List.getElem?_eq_some_iff.1 hk).1
  refine ⟨k, ?_, by omega, by omega⟩
  rw [onB_at, List.getD_eq_getElem?_getD, hk]
  exact hp
theorem its_pos {its : List ByteArray} (h : its.any wrongS = false) : ∀ s ∈ its, 1 ≤ s.size := by
  intro s hs
  have := List.any_eq_false.1 h s hs
  unfold wrongS at this
  rcases Nat.lt_or_ge s.size 1 with h1 | h1
  · rw [decide_eq_true h1] at this; simp at this
  · exact h1
theorem mRun_cons (K : Int → Int → Int) (a k : Int) (ks : List Int) : mRun K a (k :: ks) = if k = 1 then (a, true) else if k = 8 then (-1, false) else mRun K (K a k) ks := rfl
theorem drop_cons {ks : List Int} {j : Nat} (h : j < ks.length) : ks.drop j = ks.getD j 0 :: ks.drop (j + 1) := by
  rw [List.drop_eq_getElem_cons h, List.getD_eq_getElem?_getD, List.getElem?_eq_getElem h]; rfl
set_option maxHeartbeats 8000000 in
set_option maxRecDepth 100000 in
theorem menu_call (A O B : Option Addr) (n ci no co m cm : Nat) (its : List ByteArray) (os : List Bool) (at_ : Int) (ks : List Int) (w : World) (hn : n ≤ 140737488351232) (hx : its.length = n) (hno : no ≤ 140737488351232) (hos : os.length = no) (hm : m ≤ 140737488351232) (hk : ks.length = m) (h1 : Rows w A (strsV its)) (h2 : Rows w O (boolsV os)) (h3 : Rows w B (nums .i64 ks)) :
    Calls Tryz.prog 15 #[.slice A n ci, .slice O no co, .int .i64 at_, .slice B m cm] w (MnOut w (menuF its os at_ ks)) := by
  have HA := Aside0.mk h1
  have HO := Aside0.mk h2
  have HK := Aside0.mk h3
  have HX := Aside0.mk hx
  have HOS := Aside0.mk hos
  have HKS := Aside0.mk hk
  have HW := Lib.hid (hasw_call A n ci its w (by omega) hx h1)
  have HH := Lib.hid (hasb_call O no co os w (by omega) hos h2)
  clear h1 h2 h3 hx hos hk
  by_cases g1 : n < 1
  · have HF : Aside0 (menuF its os at_ ks = (0, false, 1)) := ⟨by unfold menuF; rw [if_pos (.inl (by rw [HX.out]; exact g1))]⟩
    have g1i : (n : Int) < 1 := by omega
    go_enter Tryz.func15, Tryz.ntmps15
    go_wp2_with (fail)
    refine bodyPost_ret (results_tmp3 rfl _ _ _) rfl ?_
    exact ⟨by rw [HF.out]; rfl, Below.refl _ _⟩
  · have g1i : ¬ (n : Int) < 1 := by omega
    by_cases g2 : 200 < n
    · have HF : Aside0 (menuF its os at_ ks = (0, false, 1)) := ⟨by unfold menuF; rw [if_pos (.inr (.inl (by rw [HX.out]; exact g2)))]⟩
      have g2i : (200 : Int) < n := by omega
      go_enter Tryz.func15, Tryz.ntmps15
      go_wp2_with (fail)
      refine bodyPost_ret (results_tmp3 rfl _ _ _) rfl ?_
      exact ⟨by rw [HF.out]; rfl, Below.refl _ _⟩
    · have g2i : ¬ (200 : Int) < n := by omega
      generalize hwr : its.any wrongS = wr at HW
      cases wr
      · by_cases g4 : no = n
        · subst g4
          by_cases g5 : at_ < 0
          · have HF : Aside0 (menuF its os at_ ks = (0, false, 1)) := ⟨by unfold menuF; rw [if_neg (by rw [HX.out, hwr]; simp; omega), if_neg (by rw [HX.out, HOS.out]; simp), if_pos (.inl g5)]⟩
            go_enter Tryz.func15, Tryz.ntmps15
            go_wp2_with (go_at_call 30; refine HW.out.mono ?_; rintro e w1 ⟨rfl, hw⟩; have hw := hw.symm; subst hw)
            refine bodyPost_ret (results_tmp3 rfl _ _ _) rfl ?_
            exact ⟨by rw [HF.out]; rfl, Below.refl _ _⟩
          · by_cases g6 : (no : Int) ≤ at_
            · have HF : Aside0 (menuF its os at_ ks = (0, false, 1)) := ⟨by unfold menuF; rw [if_neg (by rw [HX.out, hwr]; simp; omega), if_neg (by rw [HX.out, HOS.out]; simp), if_pos (.inr (by rw [HX.out]; exact g6))]⟩
              go_enter Tryz.func15, Tryz.ntmps15
              go_wp2_with (go_at_call 30; refine HW.out.mono ?_; rintro e w1 ⟨rfl, hw⟩; have hw := hw.symm; subst hw)
              refine bodyPost_ret (results_tmp3 rfl _ _ _) rfl ?_
              exact ⟨by rw [HF.out]; rfl, Below.refl _ _⟩
            · generalize hany : os.any id = an at HH
              cases an
              · have HF : Aside0 (menuF its os at_ ks = (0, false, 9)) := ⟨by unfold menuF; rw [if_neg (by rw [HX.out, hwr]; simp; omega), if_neg (by rw [HX.out, HOS.out]; simp), if_neg (by rw [HX.out]; omega), if_pos hany]⟩
                go_enter Tryz.func15, Tryz.ntmps15
                go_wp2_with (first
                  | (go_at_call 30; refine HW.out.mono ?_; rintro e w1 ⟨rfl, hw⟩; have hw := hw.symm; subst hw)
                  | (go_at_call 31; refine HH.out.mono ?_; rintro e w2 ⟨rfl, hw⟩; have hw := hw.symm; subst hw))
                refine bodyPost_ret (results_tmp3 rfl _ _ _) rfl ?_
                exact ⟨by rw [HF.out]; rfl, Below.refl _ _⟩
              · obtain ⟨tt, rfl⟩ : ∃ tt : Nat, at_ = tt := Int.eq_ofNat_of_zero_le (by omega)
                have htt : tt < no := by omega
                obtain ⟨c, hc, hc0, hc1⟩ := any_on hany
                rw [HOS.out] at hc1
                have hn1 : (1 : Int) ≤ no := by omega
                have HS0 := mStart_eq c hn1 hc hc0 hc1 (show (0 : Int) ≤ tt by omega) (show (tt : Int) < no by omega)
                have HI0 := Aside0.mk HS0.2
                clear HS0 hc hc0 hc1
                obtain ⟨K, hK⟩ : ∃ K, K = mKey no (onB os) (sameB its) := ⟨_, rfl⟩
                have HIK : Hid (∀ a key, mInv no (onB os) a → mInv no (onB os) (K a key)) := Lib.hid (fun a key h => by rw [hK]; exact (mKey_eq hn1 onB_pos h key).2)
                have HKC : Hid (∀ a key W, Mnu W w.heap.size (.slice A no ci) O no co a → Below w.heap.size w W → 0 ≤ a → a < no → Calls Tryz.prog 34 #[.pointer (some ⟨w.heap.size, 0, none⟩), .int .i64 key] W (MEnd W w.heap.size (.slice A no ci) O no co (K a key))) := Lib.hid (fun a key W hm hb ha0 ha1 => by
                  rw [hK]
                  exact mkey_call w.heap.size A O no ci co a os its key W hm (fun V hv => HO.out.below (hb.trans hv)) (fun V hv => HA.out.below (hb.trans hv)) HOS.out HX.out (its_pos hwr) (by omega) (by omega) ha0 ha1)
                have HF : Aside0 (menuF its os tt ks = ((mRun K (if onB os tt = true then (tt : Int) else mTo no (onB os) tt 1) ks).1, (mRun K (if onB os tt = true then (tt : Int) else mTo no (onB os) tt 1) ks).2, 0)) := ⟨by
                  unfold menuF
                  rw [if_neg (by rw [HX.out, hwr]; simp; omega), if_neg (by rw [HX.out, HOS.out]; simp), if_neg (by rw [HX.out]; omega), if_neg (by rw [hany]; simp), HX.out, ← hK]⟩
                clear hK
                have HTA := Lib.hid (fun W hm ho => mto_any w.heap.size A O no ci co (tt : Int) 1 os W hm ho HOS.out (by omega) (by omega) (by omega) (by omega) (.inl rfl))
                have HMa := Aside0.mk (buf_new w #[.slice A no ci, .slice O no co, .int .i64 tt] 64)
                have HBa := Aside0.mk (below_alloc (Below.refl _ w) (.cells #[.slice A no ci, .slice O no co, .int .i64 tt] 64))
                obtain ⟨b, o, e1, cb⟩ := (HO.out.below HBa.out).bool tt (by rw [HOS.out]; exact htt)
                have hon : onB os tt = os.getD tt false := onB_at tt
                rw [← hon] at cb
                clear hon
                subst e1
                have htti : (tt : Int) < no := by omega
                generalize hq : onB os tt = q at *
                cases q
                · simp only [Bool.false_eq_true, if_false] at HF HI0
                  have HTB := Lib.hid (HTA.out _ HMa.out (HO.out.below HBa.out))
                  generalize mTo no (onB os) tt 1 = a0 at HF HI0 HTB
                  go_enter Tryz.func15, Tryz.ntmps15
                  go_wp2_with (first
                    | (go_at_call 30; refine HW.out.mono ?_; rintro e w1 ⟨rfl, hw⟩; have hw := hw.symm; subst hw)
                    | (go_at_call 31; refine HH.out.mono ?_; rintro e w2 ⟨rfl, hw⟩; have hw := hw.symm; subst hw)
                    | (go_at_call 32; refine HTB.out.mono ?_; rintro e wB ⟨rfl, hmB, hbB⟩; have HMn := Aside0.mk hmB; have HBw := Aside0.mk (HBa.out.trans hbB); clear hmB hbB))
                  go_loopw [62] (fun i wr => ∃ (j : Nat) (a : Int), i = .int .i64 j ∧ Aside0 (j ≤ m) ∧ Aside0 (Mnu wr w.heap.size (.slice A no ci) (some ⟨b, o, none⟩) no co a) ∧ Aside0 (mInv no (onB os) a) ∧ Aside0 (mRun K a (ks.drop j) = mRun K a0 ks) ∧ Aside0 (Below w.heap.size w wr)) (fun i _ => m - (intOf i).toNat)
                  case atStart => exact ⟨0, a0, rfl, ⟨Nat.zero_le _⟩, HMn, HI0, ⟨rfl⟩, HBw⟩
                  case round =>
                    clear HMn HBw
                    obtain ⟨j, a, rfl, HJ, HMn, HI, HD, HBw⟩ := hrel
                    have hj := HJ.out
                    have d2 := HMn.out.cell 2 (by simp)
                    by_cases hlt : j < m
                    · have hji : (j : Int) < m := by omega
                      obtain ⟨b', o', e2, ck⟩ := (HK.out.below HBw.out).int j (by rw [HKS.out]; exact hlt)
                      subst e2
                      have HD1 : Aside0 (mRun K a (ks.getD j 0 :: ks.drop (j + 1)) = mRun K a0 ks) := ⟨by rw [← drop_cons (by rw [HKS.out]; exact hlt)]; exact HD.out⟩
                      have HC := Lib.hid (HKC.out a (ks.getD j 0) _ HMn.out HBw.out HI.out.1 HI.out.2.1)
                      have HIn : Aside0 (mInv no (onB os) (K a (ks.getD j 0))) := ⟨HIK.out a (ks.getD j 0) HI.out⟩
                      generalize ks.getD j 0 = key at ck HD1 HC HIn
                      by_cases k1 : key = 1
                      · subst k1
                        have HR : Aside0 (menuF its os tt ks = (a, true, 0)) := ⟨by rw [HF.out, ← HD1.out, mRun_cons, if_pos rfl]⟩
                        go_wp2_with (fail)
                        refine bodyPost_ret (results_tmp3 rfl _ _ _) rfl ?_
                        exact ⟨by rw [HR.out]; rfl, HBw.out⟩
                      · have t1 : (key == 1) = false := by simpa using k1
                        by_cases k8 : key = 8
                        · subst k8
                          have HR : Aside0 (menuF its os tt ks = (-1, false, 0)) := ⟨by rw [HF.out, ← HD1.out, mRun_cons, if_neg k1, if_pos rfl]⟩
                          go_wp2_with (fail)
                          refine bodyPost_ret (results_tmp3 rfl _ _ _) rfl ?_
                          exact ⟨by rw [HR.out]; rfl, HBw.out⟩
                        · have t8 : (key == 8) = false := by simpa using k8
                          go_wp2_with (go_at_call 34; refine HC.out.mono ?_; rintro e w6 ⟨rfl, hm6, hb6⟩; have HQ := Aside0.mk (And.intro hm6 hb6); clear hm6 hb6)
                          go_roundw
                          case rel => exact ⟨j + 1, K a key, by go_num, ⟨by omega⟩, ⟨HQ.out.1⟩, HIn, ⟨by rw [← HD1.out, mRun_cons, if_neg k1, if_neg k8]⟩, ⟨HBw.out.trans HQ.out.2⟩⟩
                          case measure => simp [intOf]; omega
                    · obtain rfl : j = m := by omega
                      have hji : ¬ (j : Int) < j := by omega
                      have HR : Aside0 (menuF its os tt ks = (a, false, 0)) := ⟨by rw [HF.out, ← HD.out, List.drop_of_length_le (by rw [HKS.out]; exact Nat.le_refl _)]; rfl⟩
                      go_wp2_with (fail)
                      refine bodyPost_ret (results_tmp3 rfl _ _ _) rfl ?_
                      exact ⟨by rw [HR.out]; rfl, HBw.out⟩
                · simp only [if_true] at HF HI0
                  obtain ⟨a0, ha0⟩ : ∃ a0 : Int, a0 = tt := ⟨_, rfl⟩
                  have HMn := HMa
                  have HBw := HBa
                  go_enter Tryz.func15, Tryz.ntmps15
                  go_wp2_with (first
                    | (go_at_call 30; refine HW.out.mono ?_; rintro e w1 ⟨rfl, hw⟩; have hw := hw.symm; subst hw)
                    | (go_at_call 31; refine HH.out.mono ?_; rintro e w2 ⟨rfl, hw⟩; have hw := hw.symm; subst hw))
                  have HF : Aside0 (menuF its os tt ks = ((mRun K a0 ks).1, (mRun K a0 ks).2, 0)) := ⟨by rw [ha0]; exact HF.out⟩
                  have HI0 : Aside0 (mInv no (onB os) a0) := ⟨by rw [ha0]; exact HI0.out⟩
                  have HMn : Aside0 (Mnu _ _ _ _ _ _ a0) := ⟨by rw [ha0]; exact HMn.out⟩
                  go_loopw [62] (fun i wr => ∃ (j : Nat) (a : Int), i = .int .i64 j ∧ Aside0 (j ≤ m) ∧ Aside0 (Mnu wr w.heap.size (.slice A no ci) (some ⟨b, o, none⟩) no co a) ∧ Aside0 (mInv no (onB os) a) ∧ Aside0 (mRun K a (ks.drop j) = mRun K a0 ks) ∧ Aside0 (Below w.heap.size w wr)) (fun i _ => m - (intOf i).toNat)
                  case atStart => exact ⟨0, a0, rfl, ⟨Nat.zero_le _⟩, HMn, HI0, ⟨rfl⟩, HBw⟩
                  case round =>
                    clear HMn HBw
                    obtain ⟨j, a, rfl, HJ, HMn, HI, HD, HBw⟩ := hrel
                    have hj := HJ.out
                    have d2 := HMn.out.cell 2 (by simp)
                    by_cases hlt : j < m
                    · have hji : (j : Int) < m := by omega
                      obtain ⟨b', o', e2, ck⟩ := (HK.out.below HBw.out).int j (by rw [HKS.out]; exact hlt)
                      subst e2
                      have HD1 : Aside0 (mRun K a (ks.getD j 0 :: ks.drop (j + 1)) = mRun K a0 ks) := ⟨by rw [← drop_cons (by rw [HKS.out]; exact hlt)]; exact HD.out⟩
                      have HC := Lib.hid (HKC.out a (ks.getD j 0) _ HMn.out HBw.out HI.out.1 HI.out.2.1)
                      have HIn : Aside0 (mInv no (onB os) (K a (ks.getD j 0))) := ⟨HIK.out a (ks.getD j 0) HI.out⟩
                      generalize ks.getD j 0 = key at ck HD1 HC HIn
                      by_cases k1 : key = 1
                      · subst k1
                        have HR : Aside0 (menuF its os tt ks = (a, true, 0)) := ⟨by rw [HF.out, ← HD1.out, mRun_cons, if_pos rfl]⟩
                        go_wp2_with (fail)
                        refine bodyPost_ret (results_tmp3 rfl _ _ _) rfl ?_
                        exact ⟨by rw [HR.out]; rfl, HBw.out⟩
                      · have t1 : (key == 1) = false := by simpa using k1
                        by_cases k8 : key = 8
                        · subst k8
                          have HR : Aside0 (menuF its os tt ks = (-1, false, 0)) := ⟨by rw [HF.out, ← HD1.out, mRun_cons, if_neg k1, if_pos rfl]⟩
                          go_wp2_with (fail)
                          refine bodyPost_ret (results_tmp3 rfl _ _ _) rfl ?_
                          exact ⟨by rw [HR.out]; rfl, HBw.out⟩
                        · have t8 : (key == 8) = false := by simpa using k8
                          go_wp2_with (go_at_call 34; refine HC.out.mono ?_; rintro e w6 ⟨rfl, hm6, hb6⟩; have HQ := Aside0.mk (And.intro hm6 hb6); clear hm6 hb6)
                          go_roundw
                          case rel => exact ⟨j + 1, K a key, by go_num, ⟨by omega⟩, ⟨HQ.out.1⟩, HIn, ⟨by rw [← HD1.out, mRun_cons, if_neg k1, if_neg k8]⟩, ⟨HBw.out.trans HQ.out.2⟩⟩
                          case measure => simp [intOf]; omega
                    · obtain rfl : j = m := by omega
                      have hji : ¬ (j : Int) < j := by omega
                      have HR : Aside0 (menuF its os tt ks = (a, false, 0)) := ⟨by rw [HF.out, ← HD.out, List.drop_of_length_le (by rw [HKS.out]; exact Nat.le_refl _)]; rfl⟩
                      go_wp2_with (fail)
                      refine bodyPost_ret (results_tmp3 rfl _ _ _) rfl ?_
                      exact ⟨by rw [HR.out]; rfl, HBw.out⟩
        · have HF : Aside0 (menuF its os at_ ks = (0, false, 10)) := ⟨by unfold menuF; rw [if_neg (by rw [HX.out, hwr]; simp; omega), if_pos (by rw [HX.out, HOS.out]; exact g4)]⟩
          have g4i : ((no : Int) != n) = true := by simp; omega
          go_enter Tryz.func15, Tryz.ntmps15
          go_wp2_with (go_at_call 30; refine HW.out.mono ?_; rintro e w1 ⟨rfl, hw⟩; have hw := hw.symm; subst hw)
          refine bodyPost_ret (results_tmp3 rfl _ _ _) rfl ?_
          exact ⟨by rw [HF.out]; rfl, Below.refl _ _⟩
      · have HF : Aside0 (menuF its os at_ ks = (0, false, 1)) := ⟨by unfold menuF; rw [if_pos (.inr (.inr hwr))]⟩
        go_enter Tryz.func15, Tryz.ntmps15
        go_wp2_with (go_at_call 30; refine HW.out.mono ?_; rintro e w1 ⟨rfl, hw⟩; have hw := hw.symm; subst hw)
        refine bodyPost_ret (results_tmp3 rfl _ _ _) rfl ?_
        exact ⟨by rw [HF.out]; rfl, Below.refl _ _⟩
end Go.Proofs.YtnkkccafdbaoeaaGreatDoor.H
