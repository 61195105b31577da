/-
  The walk of the law ScreenBrowses.
-/
import Derived.Test.YtnkkccafdbaoeaaGreatDoorSBrowseZ
namespace Go.Proofs.YtnkkccafdbaoeaaGreatDoor.H
open Go.RowKit Go.Proofs.YtnkkccafdbaoeaaGreatDoorW.PrintWords Go.Proofs.YtnkkccafdbaoeaaGreatDoorW.PrintLast Go.Proofs.YtnkkccafdbaoeaaGreatDoorW.PrintMore
set_option linter.unusedVariables false
set_option linter.unusedSimpArgs false

theorem upTo_len (xs : List Int) (page : Int) (ks : List Int) : (brF xs page ks).2.1.length ≤ xs.length := by
  unfold brF
  split
  · split
    · exact Nat.zero_le _
    · simp only [List.length_take, List.length_drop]; omega
  · exact Nat.zero_le _
set_option maxHeartbeats 2000000 in
theorem law_browses (A : Option Addr) (n c : Nat) (xs : List Int) (page : Int) (B : Option Addr) (m d : Nat) (ks : List Int) (w : World) (hx : xs.length = n) (hn : n ≤ 140737488351232) (hc : n ≤ c) (h1 : Rows w A (nums .i64 xs)) (hk : ks.length = m) (hm : m ≤ 140737488351232) (hd : m ≤ d) (h2 : Rows w B (nums .i64 ks)) :
    Calls Tryz.prog 5 #[.slice A n c, .int .i64 page, .slice B m d] w (Ret w (.bool true)) := by
  have HK := Lib.hid known_call
  by_cases hs : n + m ≤ 65536
  · have hsi : (n : Int) + m ≤ 65536 := by omega
    have HC1 := Lib.hid (browse_call A B n c m d xs ks page w hx hk hs hc h1 h2)
    have HC2 := Lib.hid (fun W hb1 hb2 => rbrowse_call A B n c m d xs ks page W hx hk hs hc hb1 hb2)
    have H1 := Aside0.mk h1
    have H2 := Aside0.mk h2
    have HLn := upTo_len xs page ks
    generalize brF xs page ks = r at HC1 HC2 HLn
    obtain ⟨a, l, e⟩ := r
    simp only at HLn
    have hl : l.length ≤ 9223372036854775807 := by omega
    have HSI := Lib.hid (fun A B c d W => sameInts_call A B l.length c d l W hl rfl)
    clear h1 h2
    go_enter Tryz.func5, Tryz.ntmps5
    go_wp2_with (first
      | (go_at_call 12; refine HC1.out.mono ?_; rintro e1 w1 ⟨v1, rfl, ho1, hb1⟩; obtain ⟨A1, c1, rfl⟩ := own_slice ho1; have HB1 := Aside0.mk hb1; have HR1 := Aside0.mk (own_rows ho1 (by simp [nums])); clear ho1 hb1)
      | (go_at_call 13; refine (HC2.out _ (H1.out.below HB1.out) (H2.out.below HB1.out)).mono ?_; rintro e2 w2 ⟨v2, rfl, ho2, hb2⟩; obtain ⟨A2, c2, rfl⟩ := own_slice ho2; have HB2 := Aside0.mk hb2; have HR2 := Aside0.mk (own_rows ho2 (by simp [nums])); have HR1' := Aside0.mk (HR1.out.below hb2); clear ho2 hb2)
      | (go_at_call 14; refine (HSI.out _ _ _ _ _ HR1'.out HR2.out).mono ?_; rintro e3 w3 ⟨rfl, hd3⟩; have HB3 := Aside0.mk (drawn_below hd3); clear hd3)
      | (go_at_call 9; refine (HK.out _).mono ?_; rintro e4 w4 ⟨rfl, hb4⟩; have HB4 := Aside0.mk hb4; clear hb4))
    go_ret
    exact ⟨by simp, nx (nx (nx HB1.out HB2.out) HB3.out) HB4.out⟩
  · have hsi : ¬ (n : Int) + m ≤ 65536 := by omega
    go_enter Tryz.func5, Tryz.ntmps5
    go_wp2_with (go_at_call 9; refine (HK.out _).mono ?_; rintro e4 w4 ⟨rfl, hb4⟩; have HB4 := Aside0.mk hb4; clear hb4)
    go_ret
    exact ⟨rfl, HB4.out⟩
end Go.Proofs.YtnkkccafdbaoeaaGreatDoor.H
