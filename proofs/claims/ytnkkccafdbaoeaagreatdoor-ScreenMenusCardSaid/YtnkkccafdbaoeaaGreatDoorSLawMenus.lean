/-
  The walk of the law ScreenMenus.
-/
import Derived.Test.YtnkkccafdbaoeaaGreatDoorSMenuC
import Derived.Test.YtnkkccafdbaoeaaGreatDoorSKnown
namespace Go.Proofs.YtnkkccafdbaoeaaGreatDoor.H
open Go.RowKit Go.Proofs.YtnkkccafdbaoeaaGreatDoorW.PrintWords Go.Proofs.YtnkkccafdbaoeaaGreatDoorW.PrintLast Go.Proofs.YtnkkccafdbaoeaaGreatDoorW.PrintMore
set_option linter.unusedVariables false
set_option linter.unusedSimpArgs false

set_option maxHeartbeats 4000000 in
set_option maxRecDepth 100000 in
theorem law_menus (A : Option Addr) (n ci : Nat) (its : List ByteArray) (O : Option Addr) (no co : Nat) (os : List Bool) (B : Option Addr) (m cm : Nat) (ks : List Int) (w : World) (hx : its.length = n) (hn : n ≤ 140737488351232) (h1 : Rows w A (strsV its)) (hz : ∀ s ∈ its, s.size ≤ maxLen) (hos : os.length = no) (hno : no ≤ 140737488351232) (h2 : Rows w O (boolsV os)) (hk : ks.length = m) (hm : m ≤ 140737488351232) (hcm : m ≤ cm) (h3 : Rows w B (nums .i64 ks)) :
    Calls Tryz.prog 6 #[.slice A n ci, .slice O no co, .slice B m cm] w (Ret w (.bool true)) := by
  have HKn := Lib.hid known_call
  have HX := Aside0.mk hx
  have HA := Aside0.mk h1
  have HM1 := Lib.hid (fun (B' : Option Addr) (m' cm' : Nat) (at_ : Int) (ks' : List Int) W hm' hk' ha ho hb => menu_call A O B' n ci no co m' cm' its os at_ ks' W hn hx hno hos hm' hk' ha ho hb)
  have HM2 := Lib.hid (fun (B' : Option Addr) (m' cm' : Nat) (at_ : Int) (ks' : List Int) W hm' hk' ha ho hb => rmenu_call A O B' n ci no co m' cm' its os at_ ks' W hn hx hno hos hm' hk' ha ho hb)
  have HO := Aside0.mk h2
  by_cases hm0 : m = 0
  · subst hm0
    have HC1 := Lib.hid (fun W ha ho hb => HM1.out B 0 cm 0 ks W hm hk ha ho hb)
    have HC2 := Lib.hid (fun W ha ho hb => HM2.out B 0 cm 0 ks W hm hk ha ho hb)
    have HB := Aside0.mk h3
    generalize menuF its os 0 ks = r at HC1 HC2
    obtain ⟨ra, rb, rc⟩ := r
    clear h1 h2 h3 hz HM1 HM2
    go_enter Tryz.func6, Tryz.ntmps6
    go_wp2_with (fail)
    go_loopw [8, 9] (fun v i wr => ∃ (k : Nat) (N : Int), v = .int .i64 N ∧ i = .int .i64 k ∧ Aside0 (k ≤ n) ∧ Aside0 (Drawn0 w wr)) (fun _ i _ => n - (intOf i).toNat)
    case atStart => exact ⟨0, _, rfl, rfl, ⟨Nat.zero_le _⟩, ⟨Drawn0.refl _⟩⟩
    case round =>
      obtain ⟨k, N, rfl, rfl, HK, HD⟩ := hrel
      have hk' := HK.out
      have HBd := Aside0.mk (drawn_below HD.out)
      by_cases hlt : k < n
      · have hki : (k : Int) < n := by omega
        obtain ⟨b1, o1, e1, ck1⟩ := (HA.out.below HBd.out).str k (by rw [HX.out]; exact hlt)
        subst e1
        generalize its.getD k ⟨#[]⟩ = s at ck1
        go_wp2_with (fail)
        go_roundw
        case rel => exact ⟨k + 1, _, rfl, by go_num, ⟨by omega⟩, HD⟩
        case measure => simp [intOf]; omega
      · have hki : ¬ (k : Int) < n := by omega
        by_cases hN : (65536 : Int) < N
        · go_wp2_with (go_at_call 9; refine (HKn.out _).mono ?_; rintro e4 w4 ⟨rfl, hb4⟩; have HB4 := Aside0.mk hb4; clear hb4)
          go_ret
          exact ⟨rfl, nx HBd.out HB4.out⟩
        · go_wp2_with (first
            | (go_at_call 15; refine (HC1.out _ (HA.out.below HBd.out) (HO.out.below HBd.out) (HB.out.below HBd.out)).mono ?_; rintro e1 w1 ⟨rfl, hb1⟩; have HB1 := Aside0.mk hb1; clear hb1)
            | (go_at_call 16; refine (HC2.out _ ((HA.out.below HBd.out).below HB1.out) ((HO.out.below HBd.out).below HB1.out) ((HB.out.below HBd.out).below HB1.out)).mono ?_; rintro e2 w2 ⟨rfl, hb2⟩; have HB2 := Aside0.mk hb2; clear hb2)
            | (go_at_call 9; refine (HKn.out _).mono ?_; rintro e4 w4 ⟨rfl, hb4⟩; have HB4 := Aside0.mk hb4; clear hb4))
          go_ret
          exact ⟨by simp, nx (nx (nx HBd.out HB1.out) HB2.out) HB4.out⟩
  · have hmi : (0 : Int) < m := by omega
    obtain ⟨b, o, e1, ck⟩ := h3.int 0 (by omega)
    rw [Nat.add_zero] at ck
    subst e1
    obtain ⟨B2, hB2⟩ : ∃ B2 : Option Addr, B2 = if cm = 1 then some ⟨b, o, none⟩ else some ⟨b, o + 1, none⟩ := ⟨_, rfl⟩
    have hsl : ∀ W, (Instr.slice 30 (.slice (some ⟨b, o, none⟩) m cm) (some (.int .i64 1)) none none).run Tryz.prog W = .ok (.slice B2 (m - 1) (cm - 1)) W := by
      intro W
      rw [run_slice_l W 30 (some ⟨b, o, none⟩) m cm Tryz.underlying30 .i64 1 (by omega) (by omega), show (sizeOf (Tryz.prog.elem 30)).run Tryz.prog W = .ok 1 W from Tryz.sizeOf3 W]
      simp only [Result.andThen, sliced]
      rw [hB2]
      by_cases h : cm = 1
      · rw [if_pos h, if_pos (by rw [h]; rfl)]; rfl
      · rw [if_neg h, if_neg (by intro e; exact h (by rw [e]; rfl))]
        rw [Option.map_some, Nat.mul_one, show (1 : Int).toNat = 1 from rfl, Go.WideShapes.add_plain]
    have hB3 : Rows w B2 (nums .i64 ks.tail) := ⟨fun i hi => by
      have hi' : i + 1 < m := by simp [nums] at hi; omega
      rw [hB2, if_neg (by omega)]
      refine ⟨b, o + 1, rfl, ?_⟩
      have := h3.at_ (i + 1) (by simp [nums, hk]; omega)
      rw [show o + 1 + i = o + (i + 1) by omega]
      refine this.trans ?_
      simp only [nums, List.getElem?_map, List.getElem?_tail]⟩
    clear hB2
    have hkt : ks.tail.length = m - 1 := by rw [List.length_tail, hk]
    have HC1 := Lib.hid (fun W ha ho hb => HM1.out B2 (m - 1) (cm - 1) (ks.getD 0 0) ks.tail W (by omega) hkt ha ho hb)
    have HC2 := Lib.hid (fun W ha ho hb => HM2.out B2 (m - 1) (cm - 1) (ks.getD 0 0) ks.tail W (by omega) hkt ha ho hb)
    have HB := Aside0.mk hB3
    generalize ks.getD 0 0 = at0 at HC1 HC2 ck
    generalize ks.tail = kt at HC1 HC2 HB hkt
    generalize menuF its os at0 kt = r at HC1 HC2
    obtain ⟨ra, rb, rc⟩ := r
    clear h1 h2 h3 hz HM1 HM2 hB3 hkt
    go_enter Tryz.func6, Tryz.ntmps6
    go_wp2_with (fail)
    go_quiet (fail)
    go_wp2_with (fail)
    go_loopw [8, 9] (fun v i wr => ∃ (k : Nat) (N : Int), v = .int .i64 N ∧ i = .int .i64 k ∧ Aside0 (k ≤ n) ∧ Aside0 (Drawn0 w wr)) (fun _ i _ => n - (intOf i).toNat)
    case atStart => exact ⟨0, _, rfl, rfl, ⟨Nat.zero_le _⟩, ⟨(Drawn0.refl _).step _⟩⟩
    case round =>
      obtain ⟨k, N, rfl, rfl, HK, HD⟩ := hrel
      have hk' := HK.out
      have HBd := Aside0.mk (drawn_below HD.out)
      by_cases hlt : k < n
      · have hki : (k : Int) < n := by omega
        obtain ⟨b1, o1, e1, ck1⟩ := (HA.out.below HBd.out).str k (by rw [HX.out]; exact hlt)
        subst e1
        generalize its.getD k ⟨#[]⟩ = s at ck1
        go_wp2_with (fail)
        go_roundw
        case rel => exact ⟨k + 1, _, rfl, by go_num, ⟨by omega⟩, HD⟩
        case measure => simp [intOf]; omega
      · have hki : ¬ (k : Int) < n := by omega
        by_cases hN : (65536 : Int) < N
        · go_wp2_with (go_at_call 9; refine (HKn.out _).mono ?_; rintro e4 w4 ⟨rfl, hb4⟩; have HB4 := Aside0.mk hb4; clear hb4)
          go_ret
          exact ⟨rfl, nx HBd.out HB4.out⟩
        · go_wp2_with (first
            | (go_at_call 15; refine (HC1.out _ (HA.out.below HBd.out) (HO.out.below HBd.out) (HB.out.below HBd.out)).mono ?_; rintro e1 w1 ⟨rfl, hb1⟩; have HB1 := Aside0.mk hb1; clear hb1)
            | (go_at_call 16; refine (HC2.out _ ((HA.out.below HBd.out).below HB1.out) ((HO.out.below HBd.out).below HB1.out) ((HB.out.below HBd.out).below HB1.out)).mono ?_; rintro e2 w2 ⟨rfl, hb2⟩; have HB2 := Aside0.mk hb2; clear hb2)
            | (go_at_call 9; refine (HKn.out _).mono ?_; rintro e4 w4 ⟨rfl, hb4⟩; have HB4 := Aside0.mk hb4; clear hb4))
          go_ret
          exact ⟨by simp, nx (nx (nx HBd.out HB1.out) HB2.out) HB4.out⟩
end Go.Proofs.YtnkkccafdbaoeaaGreatDoor.H
