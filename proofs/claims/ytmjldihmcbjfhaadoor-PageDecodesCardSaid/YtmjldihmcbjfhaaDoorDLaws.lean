/-
  The walks of the laws PageEncodes and PageDecodes.
-/
import Derived.Test.YtmjldihmcbjfhaaDoorDBack
namespace Go.Proofs.YtmjldihmcbjfhaaDoor.H
open Go.RowKit Go.Proofs.YtmjldihmcbjfhaaDoorW.PrintWords Go.Proofs.YtmjldihmcbjfhaaDoorW.PrintLast Go.Proofs.YtmjldihmcbjfhaaDoorW.PrintMore Go.Proofs.YtmjldihmcbjfhaaDoor.PPageEncodes
set_option linter.unusedVariables false
set_option linter.unusedSimpArgs false
theorem nx {w w1 w2 : World} (h : Below w.heap.size w w1) (k : Below w1.heap.size w1 w2) : Below w.heap.size w w2 := h.trans (k.mono h.size)

set_option maxHeartbeats 2000000 in
theorem law_encodes (s : ByteArray) (p : Int) (w : World) (hs : s.size ≤ maxLen) (hTb : Tabs w) :
    Calls Tryd.prog 3 #[.string s, .int .i64 p] w fun e w' => e = .returned (.bool true) ∧ Below w.heap.size w w' := by
  unfold maxLen at hs
  have HO := Lib.hid (fun w => over_call s w)
  have HK := Lib.hid (fun w => known_call w)
  have H1 := Lib.hid (fun w h => encode_call s p w (by omega) h)
  have H2 := Lib.hid (fun w h => rencode_call s p w (by omega) h)
  have HT := Aside0.mk hTb
  generalize encF s p = r1 at H1 H2
  obtain ⟨a1, a2⟩ := r1
  generalize decide ((s.size : Int) > 16384) = o1 at HO
  clear hs hTb
  cases o1
  · go_enter Tryd.func3, Tryd.ntmps3
    go_wp2_with (first | (go_at_call 5; with_reducible refine (HO.out _).mono ?_; rintro e w0 ⟨rfl, hd⟩; have HB0 := Aside0.mk (drawn_below hd); have HT0 := Aside0.mk (HT.out.below HB0.out); clear hd) | (go_at_call 7; refine (H1.out _ HT0.out).mono ?_; rintro e w1 ⟨rfl, hb1⟩; have HB1 := Aside0.mk hb1; have HT1 := Aside0.mk (HT0.out.below hb1); clear hb1) | (go_at_call 8; refine (H2.out _ HT1.out).mono ?_; rintro e w2 ⟨rfl, hb2⟩; have HB2 := Aside0.mk hb2; clear hb2) | (go_at_call 6; refine (HK.out _).mono ?_; rintro e w9 ⟨rfl, hb9⟩; have HB9 := Aside0.mk hb9; clear hb9))
    go_ret
    exact ⟨by simp, nx (nx (nx HB0.out HB1.out) HB2.out) HB9.out⟩
  · go_enter Tryd.func3, Tryd.ntmps3
    go_wp2_with (first | (go_at_call 5; with_reducible refine (HO.out _).mono ?_; rintro e w0 ⟨rfl, hd⟩; have HB0 := Aside0.mk (drawn_below hd); clear hd) | (go_at_call 6; refine (HK.out _).mono ?_; rintro e w9 ⟨rfl, hb9⟩; have HB9 := Aside0.mk hb9; clear hb9))
    go_ret
    exact ⟨rfl, nx HB0.out HB9.out⟩

theorem decF_size (s : ByteArray) (p : Int) : (decF s p).1.size ≤ 8192 := by
  unfold decF
  by_cases hq : askP s.size p = 0
  · rw [if_pos hq]
    obtain ⟨h3, h4, h5⟩ := askQ_zero (most := 2048) hq
    by_cases hv : validL p.toNat (bytesOf s) = true
    · rw [if_pos hv]
      have := decL_len p.toNat (bytesOf s)
      rw [bytesOf_length] at this
      show (strOfNums _).size ≤ _
      rw [strOfNums_size]
      omega
    · rw [if_neg hv]; exact Nat.zero_le _
  · rw [if_neg hq]; exact Nat.zero_le _

set_option maxHeartbeats 2000000 in
theorem law_decodes (s : ByteArray) (p : Int) (w : World) (hs : s.size ≤ maxLen) (hTb : Tabs w) :
    Calls Tryd.prog 4 #[.string s, .int .i64 p] w fun e w' => e = .returned (.bool true) ∧ Below w.heap.size w w' := by
  have HO := Lib.hid (fun w => over_call s w)
  have HK := Lib.hid (fun w => known_call w)
  have H1 := Lib.hid (fun w => decode_call s p w)
  have H2 := Lib.hid (fun w => rdecode_call s p w)
  have H3 := Lib.hid (fun w => valid_call s p w)
  have H4 := Lib.hid (fun w => rvalid_call s p w)
  have HS := decF_size s p
  have H5 := Lib.hid (fun w h => encode_call (decF s p).1 p w (by omega) h)
  have HBk := Lib.hid (back s p)
  clear HS
  have HT := Aside0.mk hTb
  generalize decF s p = r1 at H1 H2 H5 HBk
  generalize validF s p = r2 at H3 H4
  obtain ⟨a1, a2⟩ := r1
  obtain ⟨b1, b2⟩ := r2
  generalize decide ((s.size : Int) > 16384) = o1 at HO
  clear hs hTb
  cases o1
  · by_cases h0 : a2 = 0
    · subst h0
      rw [show encF (a1, (0 : Int)).1 p = (s, 0) from HBk.out rfl] at H5
      clear HBk
      go_enter Tryd.func4, Tryd.ntmps4
      go_wp2_with (first
        | (go_at_call 5; with_reducible refine (HO.out _).mono ?_; rintro e w0 ⟨rfl, hd⟩; have HB0 := Aside0.mk (drawn_below hd); clear hd)
        | (go_at_call 9; refine (H1.out _).mono ?_; rintro e w1 ⟨rfl, hb1⟩; have HB1 := Aside0.mk (nx HB0.out hb1); clear hb1)
        | (go_at_call 10; refine (H2.out _).mono ?_; rintro e w2 ⟨rfl, hb2⟩; have HB2 := Aside0.mk (nx HB1.out hb2); clear hb2)
        | (go_at_call 11; refine (H3.out _).mono ?_; rintro e w3 ⟨rfl, hb3⟩; have HB3 := Aside0.mk (nx HB2.out hb3); clear hb3)
        | (go_at_call 12; refine (H4.out _).mono ?_; rintro e w4 ⟨rfl, hb4⟩; have HB4 := Aside0.mk (nx HB3.out hb4); have HT4 := Aside0.mk (HT.out.below HB4.out); clear hb4)
        | (go_at_call 7; refine (H5.out _ HT4.out).mono ?_; rintro e w5 ⟨rfl, hb5⟩; have HB5 := Aside0.mk (nx HB4.out hb5); clear hb5)
        | (go_at_call 6; refine (HK.out _).mono ?_; rintro e w9 ⟨rfl, hb9⟩; have HB9 := Aside0.mk hb9; clear hb9))
      go_ret
      exact ⟨by simp, nx HB5.out HB9.out⟩
    · have h0' : (a2 != 0) = true := bne_iff_ne.2 h0
      clear H5 HBk h0
      go_enter Tryd.func4, Tryd.ntmps4
      go_wp2_with (first
        | (go_at_call 5; with_reducible refine (HO.out _).mono ?_; rintro e w0 ⟨rfl, hd⟩; have HB0 := Aside0.mk (drawn_below hd); clear hd)
        | (go_at_call 9; refine (H1.out _).mono ?_; rintro e w1 ⟨rfl, hb1⟩; have HB1 := Aside0.mk (nx HB0.out hb1); clear hb1)
        | (go_at_call 10; refine (H2.out _).mono ?_; rintro e w2 ⟨rfl, hb2⟩; have HB2 := Aside0.mk (nx HB1.out hb2); clear hb2)
        | (go_at_call 11; refine (H3.out _).mono ?_; rintro e w3 ⟨rfl, hb3⟩; have HB3 := Aside0.mk (nx HB2.out hb3); clear hb3)
        | (go_at_call 12; refine (H4.out _).mono ?_; rintro e w4 ⟨rfl, hb4⟩; have HB4 := Aside0.mk (nx HB3.out hb4); clear hb4)
        | (go_at_call 6; refine (HK.out _).mono ?_; rintro e w9 ⟨rfl, hb9⟩; have HB9 := Aside0.mk hb9; clear hb9))
      go_ret
      exact ⟨by simp, nx HB4.out HB9.out⟩
  · go_enter Tryd.func4, Tryd.ntmps4
    go_wp2_with (first | (go_at_call 5; with_reducible refine (HO.out _).mono ?_; rintro e w0 ⟨rfl, hd⟩; have HB0 := Aside0.mk (drawn_below hd); clear hd) | (go_at_call 6; refine (HK.out _).mono ?_; rintro e w9 ⟨rfl, hb9⟩; have HB9 := Aside0.mk hb9; clear hb9))
    go_ret
    exact ⟨rfl, nx HB0.out HB9.out⟩
end Go.Proofs.YtmjldihmcbjfhaaDoor.H
