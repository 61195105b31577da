/-
  Several steps of the proof in one text: SPicture, SRPicture, SRFilled.
-/
import Derived.Test.YtnkkccafdbaoeaaGreatDoorSPlaces
/- Which texts may be pictures: the walk of the program's. -/
namespace Go.Proofs.YtnkkccafdbaoeaaGreatDoor.H
open Go.RowKit Go.Proofs.YtnkkccafdbaoeaaGreatDoorW.PrintWords Go.Proofs.YtnkkccafdbaoeaaGreatDoorW.PrintLast Go.Proofs.YtnkkccafdbaoeaaGreatDoorW.PrintMore
set_option linter.unusedVariables false
set_option linter.unusedSimpArgs false

theorem drawn_trans {a b c : World} (h : Drawn0 a b) (k : Drawn0 b c) : Drawn0 a c := by
  obtain ⟨n, rfl⟩ := h.out
  obtain ⟨m, rfl⟩ := k.out
  exact ⟨n + m, World.drewN_drewN _ _ _⟩
def chB (c : Int) : Bool := decide (32 ≤ c) && decide (c ≤ 126)
theorem isChar_call (c : Int) (w : World) : Calls Tryz.prog 17 #[.int .i64 c] w fun e w' => e = .returned (.bool (chB c)) ∧ Drawn0 w w' := by
  refine PScreenTakes.screen_isChar.calls c _ w ?_
  unfold PScreenTakes.screen_isChar.f chB
  by_cases h : c ≥ 32
  · rw [if_pos h, decide_eq_true (show 32 ≤ c from h), Bool.true_and]
  · rw [if_neg h, decide_eq_false (show ¬ 32 ≤ c from h), Bool.false_and]
set_option maxHeartbeats 400000 in
theorem bad_call (c : Nat) (hc : c < 256) (w : World) : Calls Tryz.prog 45 #[.int .u8 c] w fun e w' => e = .returned (.bool (!chB c)) ∧ Drawn0 w w' := by
  have H := Lib.hid (fun w => isChar_call c w)
  have h0 : (0 : Int) ≤ (c : Int) := by omega
  have h1 : (c : Int) ≤ 255 := by omega
  generalize chB c = r at H ⊢
  go_enter Tryz.func45, Tryz.ntmps45
  go_wp2_with (go_at_call 17; refine (H.out _).mono ?_; rintro e w1 ⟨rfl, hd⟩; have HD := Aside0.mk hd; clear hd)
  go_ret
  exact ⟨rfl, HD.out⟩
def allCh (xs : List Int) : Bool := xs.all chB
def IdxBad (ok : Bool) (w : World) (e : Ending) (w' : World) : Prop := ∃ n : Int, e = .returned (.int .i64 n) ∧ decide (0 ≤ n) = !ok ∧ Drawn0 w w'
set_option maxHeartbeats 1000000 in
theorem idx_bad_call (s : ByteArray) (g cap : Nat) (w : World) (hs : s.size ≤ 16384) (hb : Buf w g 5 (nums .u8 (bytesOf s))) :
    Calls Tryz.prog 67 #[.slice (some ⟨g, 0, none⟩) s.size cap, .func (.func 45) #[] #[]] w (IdxBad (allCh (bytesOf s)) w) := by
  have HL := Lib.hid (bytesOf_length s)
  have HB := Lib.hid bad_call
  have HBuf := Aside0.mk hb
  clear hb
  go_enter Tryz.func67, Tryz.ntmps67
  go_wp2
  go_loopw [8] (fun i wr => ∃ k : Nat, i = .int .i64 k ∧ Aside0 (k ≤ s.size) ∧ Aside0 (allCh ((bytesOf s).take k) = true) ∧ Aside0 (Drawn0 w wr)) (fun i _ => s.size - (intOf i).toNat)
  case atStart => exact ⟨0, rfl, ⟨by omega⟩, ⟨rfl⟩, ⟨Drawn0.refl _⟩⟩
  case round =>
    obtain ⟨k, rfl, HK, HV, HD⟩ := hrel
    have hk := HK.out
    by_cases hlt : k < s.size
    · obtain ⟨B, hB, hB2⟩ := byte_nat s k hlt
      have hc := (HBuf.out.drawn HD.out).int k (by rw [HL.out]; exact hlt)
      have HTK := Aside0.mk (bytes_take s k hlt)
      have HIN := Aside0.mk (bytes_split s k hlt)
      rw [hB] at hc HTK HIN
      have HX := Lib.hid (HB.out B hB2)
      clear hB HB
      have HCB : Aside0 (chB (B : Int) = chB (B : Int)) := ⟨rfl⟩
      generalize hq : chB (B : Int) = ok at HX
      have HQ := Aside0.mk hq
      clear hq HCB
      cases ok
      · have HF : Aside0 (allCh (bytesOf s) = false) := ⟨by rw [HIN.out]; unfold allCh; rw [List.all_append, List.all_cons, HQ.out]; simp⟩
        go_wp2_with (go_at_call 45; refine (HX.out _).mono ?_; rintro e w2 ⟨rfl, hd2⟩; have HD2 := Aside0.mk hd2; clear hd2)
        go_ret
        refine ⟨(k : Int), rfl, ?_, drawn_trans HD.out HD2.out⟩
        rw [HF.out]; simp
      · go_wp2_with (go_at_call 45; refine (HX.out _).mono ?_; rintro e w2 ⟨rfl, hd2⟩; have HD2 := Aside0.mk hd2; clear hd2)
        go_roundw
        case rel => exact ⟨k + 1, by go_num, ⟨by omega⟩, ⟨by rw [HTK.out]; unfold allCh; rw [List.all_append]; unfold allCh at HV; rw [HV.out]; simp [HQ.out]⟩, ⟨drawn_trans HD.out HD2.out⟩⟩
        case measure => simp [intOf]; omega
    · have hke : k = s.size := by omega
      have HT : Aside0 (allCh (bytesOf s) = true) := ⟨by
        have := HV.out
        rwa [hke, bytes_all] at this⟩
      clear hke
      go_wp2
      go_ret
      refine ⟨-1, rfl, ?_, HD.out⟩
      rw [HT.out]; rfl
set_option maxHeartbeats 1000000 in
theorem has_bad_call (s : ByteArray) (g cap : Nat) (w : World) (hs : s.size ≤ 16384) (hb : Buf w g 5 (nums .u8 (bytesOf s))) :
    Calls Tryz.prog 44 #[.slice (some ⟨g, 0, none⟩) s.size cap, .func (.func 45) #[] #[]] w fun e w' => e = .returned (.bool (!allCh (bytesOf s))) ∧ Drawn0 w w' := by
  have H := Lib.hid (fun W (h : Buf W g 5 (nums .u8 (bytesOf s))) => idx_bad_call s g cap W hs h)
  have HBuf := Aside0.mk hb
  clear hb
  generalize allCh (bytesOf s) = ok at H ⊢
  go_enter Tryz.func44, Tryz.ntmps44
  go_wp2_with (go_at_call 67; refine (H.out _ HBuf.out).mono ?_; rintro e w2 ⟨n, rfl, hn, hd2⟩; have HN := Aside0.mk hn; have HD2 := Aside0.mk hd2; clear hd2 hn)
  go_ret
  exact ⟨congrArg (fun b => Ending.returned (.bool b)) HN.out, HD2.out⟩
/-- Whether a text may be a picture. -/
def isPic (s : ByteArray) : Bool := decide (1 ≤ s.size) && decide (s.size ≤ 40) && allCh (bytesOf s)
set_option maxHeartbeats 1000000 in
theorem isPicture_call (s : ByteArray) (w : World) : Calls Tryz.prog 23 #[.string s] w fun e w' => e = .returned (.bool (isPic s)) ∧ Below w.heap.size w w' := by
  have hcv := fun W => print_bytes (P := Tryz.prog) 9 73 5 Tryz.underlying9 Tryz.underlying73 Tryz.underlying5 s W
  have HDF := Aside0.mk (show isPic s = (decide (1 ≤ s.size) && decide (s.size ≤ 40) && allCh (bytesOf s)) from rfl)
  generalize isPic s = R at HDF ⊢
  by_cases h1 : 1 ≤ s.size
  · have h1i : (1 : Int) ≤ (s.size : Int) := by omega
    by_cases h2 : s.size ≤ 40
    · have h2i : (s.size : Int) ≤ 40 := by omega
      have H := Lib.hid (fun W => has_bad_call s W.heap.size (grownCap W s.size 0 5) _ (by omega) (buf_bytesWorld W 5 s))
      have HR : Aside0 (R = allCh (bytesOf s)) := ⟨by rw [HDF.out, decide_eq_true h1, decide_eq_true h2]; rfl⟩
      clear HDF h1 h2
      generalize allCh (bytesOf s) = ok at H HR
      go_enter Tryz.func23, Tryz.ntmps23
      go_wp2_with (go_at_call 44; refine (H.out _).mono ?_; rintro e w2 ⟨rfl, hd2⟩; have HD2 := Aside0.mk hd2; clear hd2)
      go_ret
      refine ⟨?_, (bytes_below (Below.refl w.heap.size w) (Nat.le_refl _) 5 s).trans ((drawn_below HD2.out).mono (Below.size (bytes_below (Below.refl w.heap.size w) (Nat.le_refl _) 5 s)))⟩
      rw [HR.out]; simp
    · have h2i : ¬ (s.size : Int) ≤ 40 := by omega
      have HR : Aside0 (R = false) := ⟨by rw [HDF.out, decide_eq_false h2]; simp⟩
      clear HDF h1 h2
      go_enter Tryz.func23, Tryz.ntmps23
      go_wp2
      go_ret
      exact ⟨by rw [HR.out]; rfl, Below.refl _ _⟩
  · have h1i : ¬ (1 : Int) ≤ (s.size : Int) := by omega
    have HR : Aside0 (R = false) := ⟨by rw [HDF.out, decide_eq_false h1]; simp⟩
    clear HDF h1
    go_enter Tryz.func23, Tryz.ntmps23
    go_wp2
    go_ret
    exact ⟨by rw [HR.out]; rfl, Below.refl _ _⟩
end Go.Proofs.YtnkkccafdbaoeaaGreatDoor.H

/- The places of a picture, which texts may be pictures, and a picture that is filled: the walks of the reference's. -/
namespace Go.Proofs.YtnkkccafdbaoeaaGreatDoor.H
open Go.RowKit Go.Proofs.YtnkkccafdbaoeaaGreatDoorW.PrintWords Go.Proofs.YtnkkccafdbaoeaaGreatDoorW.PrintLast Go.Proofs.YtnkkccafdbaoeaaGreatDoorW.PrintMore Go.Proofs.YtnkkccafdbaoeaaGreatDoor.PScreenTakes
set_option linter.unusedVariables false
set_option linter.unusedSimpArgs false

set_option maxHeartbeats 400000 in
theorem risPlace_call (c : Nat) (w : World) : Calls Tryz.prog 69 #[.int .u8 c] w fun e w' => e = .returned (.bool (isPl c)) ∧ w' = w := by
  have HD : isPl (c : Int) = ((((((c : Int) == 57) || ((c : Int) == 65)) || ((c : Int) == 78)) || ((c : Int) == 88)) || ((c : Int) == 33)) := rfl
  generalize isPl (c : Int) = r at *
  go_enter Tryz.func69, Tryz.ntmps69
  by_cases h1 : (c : Int) = 57
  · have e1 : ((c : Int) == 57) = true := beq_iff_eq.2 h1
    have HR : r = true := by rw [HD, e1]; rfl
    go_wp2
    go_ret
    exact ⟨by rw [HR]; rfl, rfl⟩
  · have e1 : ((c : Int) == 57) = false := beq_eq_false_iff_ne.2 h1
    by_cases h2 : (c : Int) = 65
    · have e2 : ((c : Int) == 65) = true := beq_iff_eq.2 h2
      have HR : r = true := by rw [HD, e1, e2]; rfl
      go_wp2
      go_ret
      exact ⟨by rw [HR]; rfl, rfl⟩
    · have e2 : ((c : Int) == 65) = false := beq_eq_false_iff_ne.2 h2
      by_cases h3 : (c : Int) = 78
      · have e3 : ((c : Int) == 78) = true := beq_iff_eq.2 h3
        have HR : r = true := by rw [HD, e1, e2, e3]; rfl
        go_wp2
        go_ret
        exact ⟨by rw [HR]; rfl, rfl⟩
      · have e3 : ((c : Int) == 78) = false := beq_eq_false_iff_ne.2 h3
        by_cases h4 : (c : Int) = 88
        · have e4 : ((c : Int) == 88) = true := beq_iff_eq.2 h4
          have HR : r = true := by rw [HD, e1, e2, e3, e4]; rfl
          go_wp2
          go_ret
          exact ⟨by rw [HR]; rfl, rfl⟩
        · have e4 : ((c : Int) == 88) = false := beq_eq_false_iff_ne.2 h4
          have HR : r = ((c : Int) == 33) := by rw [HD, e1, e2, e3, e4]; rfl
          go_wp2
          go_ret
          exact ⟨by rw [HR]; rfl, rfl⟩

set_option maxHeartbeats 1000000 in
theorem rplaces_call (s : ByteArray) (w : World) (hs : s.size ≤ 16384) : Calls Tryz.prog 47 #[.string s] w (OwnInts w (placesL s)) := by
  have HL := Lib.hid (bytesOf_length s)
  have HP := Lib.hid risPlace_call
  go_enter Tryz.func47, Tryz.ntmps47
  go_wp2
  go_loopw [3, 4] (fun v i wr => ∃ (k : Nat) (L : List Int), i = .int .i64 k ∧ Aside0 (k ≤ s.size ∧ L.length ≤ k) ∧ Aside0 (L = plc (bytesOf s) k) ∧ Aside0 (wr.ownsRow w.heap.size 3 1 v L.length (nums .i64 L)) ∧ Aside0 (Below w.heap.size w wr)) (fun _ i _ => s.size - (intOf i).toNat)
  case atStart => exact ⟨0, [], rfl, ⟨⟨by omega, by simp⟩⟩, ⟨rfl⟩, ⟨⟨rfl, Or.inl ⟨rfl, rfl⟩⟩⟩, ⟨Below.refl _ _⟩⟩
  case round =>
    obtain ⟨k, L, rfl, HK, HL1, HO, HB⟩ := hrel
    have hk := HK.out.1
    have hln := HK.out.2
    obtain ⟨ao, cap, rfl⟩ := own_slice HO.out
    by_cases hlt : k < s.size
    · obtain ⟨B, hB, hB2⟩ := byte_nat s k hlt
      have hbt := getElem_bt s k hlt
      rw [hB] at hbt
      have HX := Lib.hid (HP.out B)
      have HS : Aside0 (plc (bytesOf s) (k + 1) = L ++ if isPl B = true then [(k : Int)] else []) := ⟨by rw [HL1.out, ← hB]; rfl⟩
      clear hB HP
      generalize isPl (B : Int) = ok at HX HS
      cases ok
      · go_wp2_with (go_at_call 69; refine (HX.out _).mono ?_; rintro e w2 ⟨rfl, rfl⟩)
        go_roundw
        case rel => exact ⟨k + 1, L, by go_num, ⟨⟨by omega, by omega⟩⟩, ⟨by rw [HS.out]; simp⟩, HO, HB⟩
        case measure => simp [intOf]; omega
      · go_wp2_with (first
          | (go_at_call 69; refine (HX.out _).mono ?_; rintro e w2 ⟨rfl, rfl⟩)
          | (at_builtin; (refine print_append_num (w0 := w) w.heap.size rfl (.tmp 15) (.tmp 17) 30 3 .i64 8 rfl Tryz.underlying30 info_int (by decide) _ L (k : Int) rfl rfl ?h1 ?h2 ?h3 ?h4 ?_); (case h1 => exact HO.out); (case h2 => exact HB.out); (case h3 => exact HB.out.size); (case h4 => omega); (intro v1 w8 ho hb hg hat); (have HV := Aside0.mk (And.intro ho (And.intro hb hg))); clear ho hb hg hat))
        go_roundw
        case rel =>
          obtain ⟨ho, hb, hgr⟩ := HV.out
          exact ⟨k + 1, L ++ [(k : Int)], by go_num, ⟨⟨by omega, by rw [List.length_append, List.length_singleton]; omega⟩⟩, ⟨by rw [HS.out]; simp⟩, ⟨ho⟩, ⟨hb⟩⟩
        case measure => simp [intOf]; omega
    · have hke : k = s.size := by omega
      have HE : Aside0 (placesL s = L) := ⟨by rw [HL1.out, hke]; rfl⟩
      clear hke
      go_wp2
      go_ret
      exact ⟨_, rfl, by rw [HE.out]; exact HO.out, HB.out⟩

set_option maxHeartbeats 1000000 in
theorem risPicture_call (s : ByteArray) (w : World) (hs : s.size ≤ 9223372036854775807) : Calls Tryz.prog 25 #[.string s] w fun e w' => e = .returned (.bool (isPic s)) ∧ w' = w := by
  have HL := Lib.hid (bytesOf_length s)
  have HDF := Aside0.mk (show isPic s = (decide (1 ≤ s.size) && decide (s.size ≤ 40) && allCh (bytesOf s)) from rfl)
  generalize isPic s = R at HDF ⊢
  go_enter Tryz.func25, Tryz.ntmps25
  go_wp2
  go_loopw [3] (fun i wr => ∃ k : Nat, i = .int .i64 k ∧ Aside0 (k ≤ s.size) ∧ Aside0 (allCh ((bytesOf s).take k) = true) ∧ Aside0 (wr = w)) (fun i _ => s.size - (intOf i).toNat)
  case atStart => exact ⟨0, rfl, ⟨by omega⟩, ⟨rfl⟩, ⟨rfl⟩⟩
  case round =>
    obtain ⟨k, rfl, HK, HV, HW⟩ := hrel
    have hk := HK.out
    by_cases hlt : k < s.size
    · obtain ⟨B, hB, hB2⟩ := byte_nat s k hlt
      have hbt := getElem_bt s k hlt
      have HTK := Aside0.mk (bytes_take s k hlt)
      have HIN := Aside0.mk (bytes_split s k hlt)
      rw [hB] at hbt HTK HIN
      clear hB
      by_cases h1 : (B : Int) < 32
      · have HF : Aside0 (R = false) := ⟨by rw [HDF.out, HIN.out]; unfold allCh; rw [List.all_append, List.all_cons]; simp [chB]; omega⟩
        go_wp2
        go_ret
        exact ⟨by rw [HF.out]; rfl, HW.out⟩
      · by_cases h2 : (B : Int) > 126
        · have HF : Aside0 (R = false) := ⟨by rw [HDF.out, HIN.out]; unfold allCh; rw [List.all_append, List.all_cons]; simp [chB]; omega⟩
          go_wp2
          go_ret
          exact ⟨by rw [HF.out]; rfl, HW.out⟩
        · have HQ : Aside0 (chB (B : Int) = true) := ⟨by simp [chB]; omega⟩
          go_wp2
          go_roundw
          case rel => exact ⟨k + 1, by go_num, ⟨by omega⟩, ⟨by rw [HTK.out]; unfold allCh; rw [List.all_append]; unfold allCh at HV; rw [HV.out]; simp [HQ.out]⟩, HW⟩
          case measure => simp [intOf]; omega
    · have hke : k = s.size := by omega
      have HT : Aside0 (R = (decide (1 ≤ s.size) && decide (s.size ≤ 40))) := ⟨by
        have := HV.out
        rw [hke, bytes_all] at this
        rw [HDF.out, this, Bool.and_true]⟩
      clear hke
      by_cases h1 : 1 ≤ s.size
      · have h1i : (1 : Int) ≤ (s.size : Int) := by omega
        by_cases h2 : s.size ≤ 40
        · have h2i : (s.size : Int) ≤ 40 := by omega
          go_wp2
          go_ret
          exact ⟨by rw [HT.out]; simp [h1, h2], HW.out⟩
        · have h2i : ¬ (s.size : Int) ≤ 40 := by omega
          go_wp2
          go_ret
          exact ⟨by rw [HT.out]; simp [h1, h2], HW.out⟩
      · have h1i : ¬ (1 : Int) ≤ (s.size : Int) := by omega
        go_wp2
        go_ret
        exact ⟨by rw [HT.out]; simp [h1], HW.out⟩
end Go.Proofs.YtnkkccafdbaoeaaGreatDoor.H

/- A picture that is filled by the reference; Transform on both sides. -/
namespace Go.Proofs.YtnkkccafdbaoeaaGreatDoor.H
open Go.RowKit Go.Proofs.YtnkkccafdbaoeaaGreatDoorW.PrintWords Go.Proofs.YtnkkccafdbaoeaaGreatDoorW.PrintLast Go.Proofs.YtnkkccafdbaoeaaGreatDoorW.PrintMore Go.Proofs.YtnkkccafdbaoeaaGreatDoor.PScreenTakes
set_option linter.unusedVariables false
set_option linter.unusedSimpArgs false

theorem wrap_byte (c : Nat) (hc : c < 256) : wrap64 (c : Int) = c := by
  unfold wrap64; omega
theorem tkn_off {p : Int} {c : Nat} (hc : c < 256) (h : screen_isChar.f c = some false) : tkn p c = (0, false) := by
  unfold tkn screen_taken.f
  rw [wrap_byte c hc, h]; rfl
theorem takes_unf (p c : Int) : screen_Takes.f p c = (screen_isChar.f c).bind fun t => if t = true then ((screen_taken.f p (c % 256)).bind fun b => if b.2 = true then some (b.1, true) else some (0, false)) else some (0, false) := by
  unfold screen_Takes.f; rfl
theorem takes_off {p c : Int} (h : screen_isChar.f c = some false) : screen_Takes.f p c = some (0, false) := by
  rw [takes_unf, h]; simp
theorem takes_on {p c : Int} {r : Int × Bool} (h : screen_isChar.f c = some true) (k : screen_taken.f p (c % 256) = some r) : screen_Takes.f p c = if r.2 = true then some (r.1, true) else some (0, false) := by
  rw [takes_unf, h, Option.bind_some, if_pos rfl, k, Option.bind_some]
theorem tkk_tkn (p : Int) (c : Nat) (hc : c < 256) : tkk p c = if (tkn p c).2 = true then ((tkn p c).1, true) else (0, false) := by
  obtain ⟨b, hb⟩ : ∃ b, screen_isChar.f c = some b := ⟨_, some_of_isSome false (isChar_some _)⟩
  unfold tkk
  cases b
  · rw [takes_off hb, tkn_off hc hb]; simp
  · have e : screen_taken.f p c = some (tkn p c) := some_of_isSome (0, false) (taken_some p c)
    have hm : (c : Int) % 256 = c := Int.emod_eq_of_lt (by omega) (by omega)
    rw [takes_on hb (by rw [hm]; exact e)]
    generalize tkn p c = r
    obtain ⟨y, ok⟩ := r
    cases ok <;> simp
/-- What stands at a place, by the reference's words. -/
theorem fillC_key (pic s : List Int) (i n c : Nat) (hn : n < s.length) (hs : s.getD n 0 = c) (hc : c < 256) : fillC pic s i n = if (tkk (pic.getD i 0) c).2 = true then (tkk (pic.getD i 0) c).1 else 32 := by
  unfold fillC
  rw [if_pos hn, hs, tkk_tkn _ _ hc]
  generalize tkn (pic.getD i 0) c = r
  obtain ⟨y, ok⟩ := r
  cases ok <;> rfl

set_option maxHeartbeats 2000000 in
theorem rfilled_call (s pic : ByteArray) (w : World) (hp : pic.size ≤ 16384) (hs : s.size ≤ 9223372036854775807) : Calls Tryz.prog 26 #[.string pic, .string s] w fun e w' =>
    e = .returned (.string (strOfNums (filledL s pic))) ∧ Below w.heap.size w w' := by
  have HL := Lib.hid (bytesOf_length pic)
  have HP := Lib.hid (fun w => rplaces_call pic w hp)
  have HT := Lib.hid rtakes_call
  have HPR := Lib.hid (plc_range (bytesOf pic) pic.size)
  have hcv := fun W => print_bytes (P := Tryz.prog) 9 73 5 Tryz.underlying9 Tryz.underlying73 Tryz.underlying5 pic W
  have HDF := Aside0.mk (show filledL s pic = fillK (bytesOf pic) (bytesOf s) (placesL pic) (placesL pic).length from rfl)
  have hpl := plc_len (bytesOf pic) pic.size
  rw [show plc (bytesOf pic) pic.size = placesL pic from rfl] at hpl HPR
  generalize placesL pic = pl at *
  go_enter Tryz.func26, Tryz.ntmps26
  go_wp2_with (go_at_call 47; refine (HP.out _).mono ?_; rintro e w2 ⟨v, rfl, ho, hb⟩; obtain ⟨ao, cap, rfl⟩ := own_slice ho; have HO := Aside0.mk (And.intro ho hb); clear ho hb)
  have HO2 := Aside0.mk (HO.out.1)
  have HB1 := Aside0.mk (bytes_below (Below.refl w.heap.size w) (Nat.le_refl _) 5 pic)
  have hsz1 : w.heap.size < (Lib.bytesWorld w 5 pic).heap.size := (buf_bytesWorld w 5 pic).lt
  have HBuf := Aside0.mk (((buf_bytesWorld w 5 pic).below HO.out.2))
  have HB2 := Aside0.mk (nx HB1.out HO.out.2)
  clear HO HB1 hcv
  generalize (Lib.bytesWorld w 5 pic).heap.size = b1 at *
  go_loopw [7] (fun i wr => ∃ (k : Nat) (out : List Int), i = .int .i64 k ∧ Aside0 (k ≤ pl.length) ∧ Aside0 (out = fillK (bytesOf pic) (bytesOf s) pl k) ∧ Aside0 (wr.ownsRow b1 3 1 (.slice ao pl.length cap) pl.length (nums .i64 pl)) ∧ Aside0 (Buf wr w.heap.size 5 (nums .u8 out)) ∧ Aside0 (Below w.heap.size w wr)) (fun i _ => pl.length - (intOf i).toNat)
  case atStart => exact ⟨0, bytesOf pic, rfl, ⟨by omega⟩, ⟨rfl⟩, HO2, HBuf, HB2⟩
  case round =>
    clear HB2 HO2 HBuf
    obtain ⟨k, out, rfl, HK, HF, HO, HBuf, HB⟩ := hrel
    have hk := HK.out
    have HFL : Aside0 (out.length = pic.size) := ⟨by rw [HF.out, fillK_len, HL.out]⟩
    by_cases hlt : k < pl.length
    · obtain ⟨g, hao, hgb, hbp⟩ := own_buf HO.out (by omega)
      have hpr := HPR.out (pl.getD k 0) (by rw [List.getD_eq_getElem?_getD, List.getElem?_eq_getElem hlt]; simp)
      obtain ⟨P, hP⟩ : ∃ P : Nat, pl.getD k 0 = P := Int.eq_ofNat_of_zero_le hpr.1
      have hcp := hbp.int k hlt
      rw [hP] at hpr hcp
      have hPl : P < pic.size := by omega
      obtain ⟨PB, hPB, hPB2⟩ := byte_nat pic P hPl
      have hbtp := getElem_bt pic P hPl
      have hcell := HBuf.out.cell P (by simpa [nums, HFL.out] using hPl)
      have hfr := HBuf.out.frozen P (by simpa [nums, HFL.out] using hPl)
      obtain ⟨old, hold⟩ : ∃ old, (nums .u8 out)[P]? = some old := ⟨_, List.getElem?_eq_getElem (by simpa [nums, HFL.out] using hPl)⟩
      rw [hold] at hcell
      have hne := buf_ne HBuf.out HO.out (by decide)
      have HNE := Aside0.mk hne
      have HSC : Aside0 (∀ c, fillC (bytesOf pic) (bytesOf s) P k = c → fillK (bytesOf pic) (bytesOf s) pl (k + 1) = out.set P c) := ⟨fun c hc => by
        show (fillK (bytesOf pic) (bytesOf s) pl k).set (pl.getD k 0).toNat (fillC (bytesOf pic) (bytesOf s) (pl.getD k 0).toNat k) = _
        rw [hP, Int.toNat_natCast, hc, ← HF.out]⟩
      subst hao
      have hgne : g ≠ w.heap.size := fun e => hne (by simp [Value.ownBlock, e])
      rw [hPB] at hbtp
      have HO1 : Aside0 ((wr.setCell ⟨w.heap.size, P, none⟩ (.int .u8 32)).ownsRow b1 3 1 (.slice (some ⟨g, 0, none⟩) pl.length cap) pl.length (nums .i64 pl)) := ⟨own_setCell HO.out (a := ⟨w.heap.size, P, none⟩) hne _⟩
      have HB1 : Aside0 (Buf (wr.setCell ⟨w.heap.size, P, none⟩ (.int .u8 32)) w.heap.size 5 (nums .u8 (out.set P 32))) := ⟨HBuf.out.set_int P 32⟩
      have HBW : Aside0 (Below w.heap.size w (wr.setCell ⟨w.heap.size, P, none⟩ (.int .u8 32))) := ⟨HB.out.setCell (Nat.le_refl _) _⟩
      have hcp1 := (hbp.set_far (p := ⟨w.heap.size, P, none⟩) hgne (.int .u8 32)).int k hlt
      have hfr1 := HB1.out.frozen P (by simpa [nums, HFL.out] using hPl)
      have hcell1 := HB1.out.cell P (by simpa [nums, HFL.out] using hPl)
      obtain ⟨old1, hold1⟩ : ∃ old, (nums .u8 (out.set P 32))[P]? = some old := ⟨_, List.getElem?_eq_getElem (by simpa [nums, HFL.out] using hPl)⟩
      rw [hold1] at hcell1
      rw [hP] at hcp1
      clear hold hpr hbp hne hold1
      by_cases hn : k < s.size
      · obtain ⟨SB, hSB, hSB2⟩ := byte_nat s k hn
        have hbts := getElem_bt s k hn
        rw [hSB] at hbts
        have hFC := fillC_key (bytesOf pic) (bytesOf s) P k SB (by rw [bytesOf_length]; exact hn) hSB hSB2
        rw [hPB] at hFC
        have HFC := Aside0.mk hFC
        have HT2 := Lib.hid (fun W => calls_draws (HT.out PB SB W))
        clear hFC hPB hSB hP HT
        generalize tkk (PB : Int) SB = r at HFC HT2
        obtain ⟨y, ok⟩ := r
        generalize hwq : wr.setCell ⟨w.heap.size, P, none⟩ (.int .u8 32) = wq at *
        cases ok
        · have hy : fillC (bytesOf pic) (bytesOf s) P k = 32 := by rw [HFC.out]; simp
          have HS2 := Aside0.mk (HSC.out _ hy)
          clear hy
          go_wp2
          try rw [hwq]
          go_quiet ((go_at_call 8; exact Calls.quiet_of (HT2.out _)))
          go_wp2
          go_roundw
          case rel => exact ⟨k + 1, out.set P 32, by go_num, ⟨by omega⟩, ⟨HS2.out.symm⟩, ⟨own_drewN HO1.out _⟩, ⟨HB1.out.drewN _⟩, ⟨pw_below_drewN HBW.out _⟩⟩
          case measure => simp [intOf]; omega
        · have hy : fillC (bytesOf pic) (bytesOf s) P k = y := by rw [HFC.out]; simp
          have HS2 := Aside0.mk (HSC.out _ hy)
          clear hy
          go_wp2
          try rw [hwq]
          go_quiet ((go_at_call 8; exact Calls.quiet_of (HT2.out _)))
          go_wp2
          go_roundw
          case rel => exact ⟨k + 1, out.set P y, by go_num, ⟨by omega⟩, ⟨HS2.out.symm⟩, ⟨own_setCell (own_drewN HO1.out _) (a := ⟨w.heap.size, P, none⟩) HNE.out _⟩, ⟨by simpa using (HB1.out.drewN _).set_int P y⟩, ⟨(pw_below_drewN HBW.out _).setCell (Nat.le_refl _) _⟩⟩
          case measure => simp [intOf]; omega
      · have hy : fillC (bytesOf pic) (bytesOf s) P k = 32 := by unfold fillC; rw [if_neg (by rw [bytesOf_length]; exact hn)]
        have HS2 := Aside0.mk (HSC.out _ hy)
        clear hy hPB hP
        go_wp2
        go_roundw
        case rel => exact ⟨k + 1, out.set P 32, by go_num, ⟨by omega⟩, ⟨HS2.out.symm⟩, HO1, HB1, HBW⟩
        case measure => simp [intOf]; omega
    · have hke : k = pl.length := by omega
      have HE : Aside0 (filledL s pic = out) := ⟨by rw [HDF.out, HF.out, hke]⟩
      have hstr := HBuf.out.string (src := 73) (dst := 9) (cap := grownCap w pic.size 0 5) (n := pic.size) Tryz.underlying73 Tryz.underlying5 Tryz.underlying9 HFL.out
      clear hke
      go_wp2
      go_ret
      exact ⟨by rw [HE.out]; rfl, HB.out⟩
/-- What Transform answers. -/
def transF (s pic : ByteArray) : ByteArray × Int := if s.size ≤ 2048 then (if isPic pic = true then (strOfNums (filledL s pic), 0) else (⟨#[]⟩, 1)) else (⟨#[]⟩, 3)
set_option maxHeartbeats 1000000 in
theorem transform_call (s pic : ByteArray) (w : World) (hm : s.size ≤ 9223372036854775807) : Calls Tryz.prog 10 #[.string s, .string pic] w fun e w' =>
    e = .returned (.tuple #[.string (transF s pic).1, .int .i64 (transF s pic).2]) ∧ Below w.heap.size w w' := by
  have HDF := Aside0.mk (show transF s pic = if s.size ≤ 2048 then (if isPic pic = true then (strOfNums (filledL s pic), 0) else (⟨#[]⟩, 1)) else (⟨#[]⟩, 3) from rfl)
  have HP := Lib.hid (isPicture_call pic)
  have HPS : isPic pic = true → pic.size ≤ 40 := fun h => by simp [isPic] at h; omega
  generalize transF s pic = R at HDF ⊢
  by_cases h1 : s.size ≤ 2048
  · have h1i : (s.size : Int) ≤ 2048 := by omega
    rw [if_pos h1] at HDF
    generalize isPic pic = ok at *
    cases ok
    · go_enter Tryz.func10, Tryz.ntmps10
      go_wp2_with (go_at_call 23; refine (HP.out _).mono ?_; rintro e w1 ⟨rfl, hb⟩; have HB := Aside0.mk hb; clear hb)
      go_ret2
      exact ⟨by rw [HDF.out]; rfl, HB.out⟩
    · have HF := Lib.hid (fun w => filled_call s pic w (by have := HPS rfl; omega) hm)
      clear HPS
      go_enter Tryz.func10, Tryz.ntmps10
      go_wp2_with (first
        | (go_at_call 23; refine (HP.out _).mono ?_; rintro e w1 ⟨rfl, hb⟩; have HB := Aside0.mk hb; clear hb)
        | (go_at_call 24; refine (HF.out _).mono ?_; rintro e w2 ⟨rfl, hb⟩; have HB2 := Aside0.mk hb; clear hb))
      go_ret2
      exact ⟨by rw [HDF.out]; rfl, nx HB.out HB2.out⟩
  · have h1i : ¬ (s.size : Int) ≤ 2048 := by omega
    rw [if_neg h1] at HDF
    clear HPS
    go_enter Tryz.func10, Tryz.ntmps10
    go_wp2
    go_ret2
    exact ⟨by rw [HDF.out]; rfl, Below.refl _ _⟩
set_option maxHeartbeats 1000000 in
theorem rtransform_call (s pic : ByteArray) (w : World) (hm : s.size ≤ 9223372036854775807) (hm2 : pic.size ≤ 9223372036854775807) : Calls Tryz.prog 11 #[.string s, .string pic] w fun e w' =>
    e = .returned (.tuple #[.string (transF s pic).1, .int .i64 (transF s pic).2]) ∧ Below w.heap.size w w' := by
  have HDF := Aside0.mk (show transF s pic = if s.size ≤ 2048 then (if isPic pic = true then (strOfNums (filledL s pic), 0) else (⟨#[]⟩, 1)) else (⟨#[]⟩, 3) from rfl)
  have HP := Lib.hid (fun w => risPicture_call pic w hm2)
  have HPS : isPic pic = true → pic.size ≤ 40 := fun h => by simp [isPic] at h; omega
  generalize transF s pic = R at HDF ⊢
  by_cases h1 : s.size ≤ 2048
  · have h1i : (s.size : Int) ≤ 2048 := by omega
    rw [if_pos h1] at HDF
    generalize isPic pic = ok at *
    cases ok
    · go_enter Tryz.func11, Tryz.ntmps11
      go_wp2_with (go_at_call 25; refine (HP.out _).mono ?_; rintro e w1 ⟨rfl, rfl⟩)
      go_ret2
      exact ⟨by rw [HDF.out]; rfl, Below.refl _ _⟩
    · have HF := Lib.hid (fun w => rfilled_call s pic w (by have := HPS rfl; omega) hm)
      clear HPS
      go_enter Tryz.func11, Tryz.ntmps11
      go_wp2_with (first
        | (go_at_call 25; refine (HP.out _).mono ?_; rintro e w1 ⟨rfl, rfl⟩)
        | (go_at_call 26; refine (HF.out _).mono ?_; rintro e w2 ⟨rfl, hb⟩; have HB2 := Aside0.mk hb; clear hb))
      go_ret2
      exact ⟨by rw [HDF.out]; rfl, HB2.out⟩
  · have h1i : ¬ (s.size : Int) ≤ 2048 := by omega
    rw [if_neg h1] at HDF
    clear HPS
    go_enter Tryz.func11, Tryz.ntmps11
    go_wp2
    go_ret2
    exact ⟨by rw [HDF.out]; rfl, Below.refl _ _⟩
end Go.Proofs.YtnkkccafdbaoeaaGreatDoor.H
