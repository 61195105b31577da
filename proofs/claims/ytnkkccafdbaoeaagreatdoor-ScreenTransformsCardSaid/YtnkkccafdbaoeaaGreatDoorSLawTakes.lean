/-
  The walks of the laws ScreenTakes and ScreenTransforms.
-/
import Derived.Test.YtnkkccafdbaoeaaGreatDoorSKnown
import Derived.Test.YtnkkccafdbaoeaaGreatDoorSRFilled
namespace Go.Proofs.YtnkkccafdbaoeaaGreatDoor.H
open Go.RowKit Go.Proofs.YtnkkccafdbaoeaaGreatDoorW.PrintWords Go.Proofs.YtnkkccafdbaoeaaGreatDoorW.PrintLast Go.Proofs.YtnkkccafdbaoeaaGreatDoorW.PrintMore
set_option linter.unusedVariables false
set_option linter.unusedSimpArgs false

set_option maxHeartbeats 1000000 in
theorem law_takes (p c : Int) (w : World) : Calls Tryz.prog 3 #[.int .u8 p, .int .i64 c] w (Ret w (.bool true)) := by
  have H1 := Lib.hid (takes_call p c)
  have H2 := Lib.hid (rtakes_call p c)
  have HK := Lib.hid known_call
  generalize tkk p c = r at H1 H2
  obtain ⟨a, is⟩ := r
  go_enter Tryz.func3, Tryz.ntmps3
  go_wp2_with (first
    | (go_at_call 7; refine (H1.out _).mono ?_; rintro e w1 ⟨rfl, hd⟩; have HB1 := Aside0.mk (drawn_below hd); clear hd)
    | (go_at_call 8; refine (H2.out _).mono ?_; rintro e w2 ⟨rfl, hd⟩; have HB2 := Aside0.mk (drawn_below hd); clear hd)
    | (go_at_call 9; refine (HK.out _).mono ?_; rintro e w3 ⟨rfl, hb⟩; have HB3 := Aside0.mk hb; clear hb))
  go_ret
  exact ⟨by simp, nx (nx HB1.out HB2.out) HB3.out⟩
set_option maxHeartbeats 1000000 in
theorem law_transforms (s p : ByteArray) (w : World) (hs : s.size ≤ maxLen) (hp : p.size ≤ maxLen) : Calls Tryz.prog 4 #[.string s, .string p] w (Ret w (.bool true)) := by
  unfold maxLen at hs hp
  have H1 := Lib.hid (fun w => transform_call s p w (by omega))
  have H2 := Lib.hid (fun w => rtransform_call s p w (by omega) (by omega))
  have HK := Lib.hid known_call
  generalize transF s p = r at H1 H2
  obtain ⟨a, e⟩ := r
  by_cases h1 : s.size ≤ 65536
  · have h1i : (s.size : Int) ≤ 65536 := by omega
    by_cases h2 : p.size ≤ 65536
    · have h2i : (p.size : Int) ≤ 65536 := by omega
      go_enter Tryz.func4, Tryz.ntmps4
      go_wp2_with (first
        | (go_at_call 10; refine (H1.out _).mono ?_; rintro e w1 ⟨rfl, hb⟩; have HB1 := Aside0.mk hb; clear hb)
        | (go_at_call 11; refine (H2.out _).mono ?_; rintro e w2 ⟨rfl, hb⟩; have HB2 := Aside0.mk hb; clear hb)
        | (go_at_call 9; refine (HK.out _).mono ?_; rintro e w3 ⟨rfl, hb⟩; have HB3 := Aside0.mk hb; clear hb))
      go_ret
      exact ⟨by simp, nx (nx HB1.out HB2.out) HB3.out⟩
    · have h2i : ¬ (p.size : Int) ≤ 65536 := by omega
      go_enter Tryz.func4, Tryz.ntmps4
      go_wp2_with (go_at_call 9; refine (HK.out _).mono ?_; rintro e w3 ⟨rfl, hb⟩; have HB3 := Aside0.mk hb; clear hb)
      go_ret
      exact ⟨rfl, HB3.out⟩
  · have h1i : ¬ (s.size : Int) ≤ 65536 := by omega
    go_enter Tryz.func4, Tryz.ntmps4
    go_wp2_with (go_at_call 9; refine (HK.out _).mono ?_; rintro e w3 ⟨rfl, hb⟩; have HB3 := Aside0.mk hb; clear hb)
    go_ret
    exact ⟨rfl, HB3.out⟩
end Go.Proofs.YtnkkccafdbaoeaaGreatDoor.H
