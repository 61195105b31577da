/-
  The walk of Sound.
-/
import Derived.Test.YtmjldihmcbjfhaaDoorHPageX
import Derived.Test.YtmjldihmcbjfhaaDoorHSoundsPure
namespace Go.Proofs.YtmjldihmcbjfhaaDoor.H
open Go.RowKit Go.Proofs.YtmjldihmcbjfhaaDoorW.PrintWords Go.Proofs.YtmjldihmcbjfhaaDoorW.PrintLast Go.Proofs.YtmjldihmcbjfhaaDoorW.PrintMore Go.Proofs.YtmjldihmcbjfhaaDoor.PPageEncodes
attribute [local go_sem] max2_int min2_int max_two min_two
set_option linter.unusedVariables false
set_option linter.unusedSimpArgs false
theorem info_u8 : (Tryd.prog.info? 5).map (fun i => (i.zero, i.size, i.bytes)) = some (some (.int .u8 0), 1, 1) := by kernel_rfl
theorem dig_call (c : Int) (w : World) : Calls Tryd.prog 30 #[.int .u8 c] w fun e w' => e = .returned (.int .i64 (dig c)) ∧ Drawn0 w w' :=
  page_digitOf.calls 6 c _ w (dig_eq c)
def sndAt (s : ByteArray) (k : Nat) : List Int × Int := ((bytesOf s).take k).foldl sndStep ([], 0)
theorem sndAt_succ (s : ByteArray) (k : Nat) (hk : k < s.size) : sndAt s (k + 1) = sndStep (sndAt s k) ((bytesOf s).getD k 0) := by
  have h : k < (bytesOf s).length := by rw [bytesOf_length]; exact hk
  unfold sndAt
  rw [List.take_succ_eq_append_getElem h, List.foldl_append]
  simp [List.getD_eq_getElem?_getD, List.getElem?_eq_getElem h]
theorem sndAt_len (s : ByteArray) (k : Nat) : (sndAt s k).1.length ≤ 4 := by
  unfold sndAt
  generalize (bytesOf s).take k = l
  have : ∀ (l : List Int) (st : List Int × Int), st.1.length ≤ 4 → (l.foldl sndStep st).1.length ≤ 4 := by
    intro l
    induction l with
    | nil => intro st h; exact h
    | cons b l ih =>
      intro st h
      refine ih _ ?_
      unfold sndStep
      repeat' split
      all_goals first | exact h | (simp; done) | (simp; omega)
  exact this l _ (by simp)

def lenOf : Value → Nat | .slice _ n _ => n | _ => 0
theorem buf_app {W w3 : World} {v v1 : Value} {g : Nat} {e : TypeId} {ys : List Value} (HN : some g ≠ v.ownBlock) (HBuf : Buf W g e ys) (hg : W.grownBy w3 v.ownBlock) (hat : v1.ownBlock = v.ownBlock ∨ ∃ b, v1.ownBlock = some b ∧ W.heap.size ≤ b) :
    some g ≠ v1.ownBlock ∧ Buf w3 g e ys := by
  refine ⟨?_, HBuf.keep (hg.block g HBuf.lt HN)⟩
  rcases hat with h | ⟨b, h, hb⟩
  · rw [h]; exact HN
  · rw [h]
    intro e
    have := HBuf.lt
    injection e
    omega
theorem sndStep_letter {xs : List Int} {last : Int} {b : Int} (h : isL b 0 = true) : sndStep (xs, last) b =
    if xs = [] then ([up b 0], max (dig (up b 0)) 0) else if dig (up b 0) < 0 then (xs, last)
    else if 0 < dig (up b 0) ∧ dig (up b 0) ≠ last ∧ xs.length < 4 then (xs ++ [(48 + dig (up b 0)) % 256], dig (up b 0)) else (xs, dig (up b 0)) := by
  unfold sndStep; rw [if_pos h]
theorem dig_up_range (B : Nat) (h : B ≤ 255) : 0 ≤ up B 0 ∧ up B 0 ≤ 255 ∧ -1 ≤ dig (up B 0) ∧ dig (up B 0) ≤ 6 := by
  obtain ⟨h1, h2⟩ := up_range ⟨B, by omega⟩
  obtain ⟨h3, h4⟩ := dig_range ⟨(up B 0).toNat, by simp only at h1 h2; omega⟩
  simp only at h1 h2 h3 h4
  rw [Int.toNat_of_nonneg h1] at h3 h4
  exact ⟨h1, h2, h3, h4⟩

set_option maxHeartbeats 4000000 in
theorem sound_ok (s : ByteArray) (w : World) (hs : s.size ≤ 2048) (hq : askP s.size 0 = 0) :
    Calls Tryd.prog 15 #[.string s] w fun e w' => e = .returned (.tuple #[.string (snd s), .int .i64 0]) ∧ Below w.heap.size w w' := by
  have HA := Lib.hid (fun w => hq ▸ asked_one s 0 w)
  have HL := Lib.hid (bytesOf_length s)
  clear hq
  have hcv := fun W => print_bytes (P := Tryd.prog) 9 36 5 Tryd.underlying9 Tryd.underlying36 Tryd.underlying5 s W
  go_enter Tryd.func15, Tryd.ntmps15
  go_wp2_with (go_at_call 21; refine (HA.out _).mono ?_; rintro e w1 ⟨rfl, hd⟩; have HD := Aside0.mk hd; clear hd)
  have hw1 : w.heap.size ≤ w1.heap.size := by obtain ⟨n1, rfl⟩ := HD.out.out; simp
  have HB1 : Aside0 (Below w.heap.size w (Lib.bytesWorld w1 5 s)) := ⟨by
    obtain ⟨n1, rfl⟩ := HD.out.out
    exact bytes_below (pw_below_drewN (below_alloc (Below.refl _ _) _) _) (by simp) _ _⟩
  clear HD
  go_loopw [5, 6, 20] (fun v l i wr => ∃ (k : Nat) (xs : List Int) (last : Int), i = .int .i64 k ∧ l = .int .i64 last ∧ Aside0 (k ≤ s.size) ∧ Aside0 (sndAt s k = (xs, last)) ∧
      Aside0 (wr.ownsRow w.heap.size 5 1 v xs.length (nums .u8 xs)) ∧ Aside0 (some w1.heap.size ≠ v.ownBlock) ∧ Aside0 (Buf wr w1.heap.size 5 (nums .u8 (bytesOf s))) ∧ Aside0 (Below w.heap.size w wr)) (fun _ _ i _ => s.size - (intOf i).toNat)
  case atStart =>
    exact ⟨0, [], 0, rfl, rfl, ⟨by omega⟩, ⟨rfl⟩, ⟨own_nil _ _ _ _⟩, ⟨by simp [Value.ownBlock]⟩, ⟨buf_bytesWorld _ _ _⟩, HB1⟩
  case round =>
    obtain ⟨k, xs, last, rfl, rfl, HK, HS, HO, HN, HBuf, HB⟩ := hrel
    have hk := HK.out
    by_cases hlt : k < s.size
    · have hc := HBuf.out.int k (by rw [HL.out]; exact hlt)
      have HS1 := Lib.hid (sndAt_succ s k hlt)
      have hsz : k < s.size := hlt
      generalize hb : (bytesOf s).getD k 0 = b at hc HS1
      have HS2 : Aside0 (sndAt s (k + 1) = sndStep (xs, last) b) := ⟨by rw [HS1.out, HS.out]⟩
      have hlen : xs.length ≤ 4 := by have := sndAt_len s k; rw [HS.out] at this; exact this
      have hbr : 0 ≤ b ∧ b ≤ 255 := by
        rw [← hb]
        exact bytesOf_range s _ (by rw [List.getD_eq_getElem?_getD, List.getElem?_eq_getElem (by rw [HL.out]; exact hlt)]; simp)
      clear HS1 HS hb
      obtain ⟨B, rfl⟩ : ∃ B : Nat, b = B := Int.eq_ofNat_of_zero_le hbr.1
      have HI := Lib.hid (fun W => isL_call (B : Int) 0 W)
      by_cases hl : isL B 0 = true
      · rw [hl] at HI
        have HU := Lib.hid (fun W => up_call (B : Int) 0 W)
        have HG := Lib.hid (fun W => dig_call (up (B : Int) 0) W)
        have hr := dig_up_range B (by omega)
        rw [sndStep_letter hl] at HS2
        clear hl
        obtain ⟨A, cp, rfl⟩ := own_slice HO.out
        generalize up (B : Int) 0 = c at HU HG hr HS2
        generalize dig c = d at HG hr HS2
        obtain ⟨hr1, hr2, hr3, hr4⟩ := hr
        by_cases hx : xs = []
        · rw [if_pos hx] at HS2
          have hx0 : ((xs.length : Int) == 0) = true := by rw [hx]; rfl
          have HX := Lib.hid hx
          clear hx
          go_wp2_with (first | (go_at_call 29; refine (HI.out _).mono ?_; rintro e w2 ⟨rfl, ⟨⟨n2, rfl⟩⟩⟩) | (go_at_call 26; refine (HU.out _).mono ?_; rintro e w2 ⟨rfl, ⟨⟨n2, rfl⟩⟩⟩) | (go_at_call 30; refine (HG.out _).mono ?_; rintro e w2 ⟨rfl, ⟨⟨n2, rfl⟩⟩⟩) | (at_builtin; (refine print_append_num (w0 := w) w.heap.size rfl (.tmp 35) (.tmp 37) 36 5 .u8 1 rfl Tryd.underlying36 info_u8 (by decide) _ xs c rfl rfl ?h1 ?h2 ?h3 ?h4 ?_); (case h1 => exact HO.out); (case h2 => exact pw_below_drewN HB.out _); (case h3 => exact HB.out.size); (case h4 => omega); (intro v1 w3 ho hb hg hat); (have HV := Aside0.mk (And.intro ho (And.intro hb (buf_app HN.out (HBuf.out.drewN _) hg hat)))); clear ho hb hg hat))
          go_roundw
          case rel =>
            obtain ⟨ho, hb, hn, hbuf⟩ := HV.out
            exact ⟨k + 1, xs ++ [c], max d 0, by go_num, congrArg (Value.int .i64) (show (if d < 0 then (0 : Int) else d) = max d 0 by split <;> omega), ⟨by omega⟩, ⟨by rw [HS2.out, HX.out]; rfl⟩, ⟨ho⟩, ⟨hn⟩, ⟨hbuf⟩, ⟨hb⟩⟩
          case measure => simp [intOf]; omega
        · rw [if_neg hx] at HS2
          have hx0 : ((xs.length : Int) == 0) = false := by
            cases xs with
            | nil => exact absurd rfl hx
            | cons a l => simp; omega
          clear hx
          by_cases hd0 : d < 0
          · rw [if_pos hd0] at HS2
            go_wp2_with (first | (go_at_call 29; refine (HI.out _).mono ?_; rintro e w2 ⟨rfl, ⟨⟨n2, rfl⟩⟩⟩) | (go_at_call 26; refine (HU.out _).mono ?_; rintro e w2 ⟨rfl, ⟨⟨n2, rfl⟩⟩⟩) | (go_at_call 30; refine (HG.out _).mono ?_; rintro e w2 ⟨rfl, ⟨⟨n2, rfl⟩⟩⟩))
            go_roundw
            case rel => exact ⟨k + 1, xs, last, by go_num, rfl, ⟨by omega⟩, HS2, ⟨HO.out⟩, HN, ⟨HBuf.out.drewN _⟩, ⟨pw_below_drewN HB.out _⟩⟩
            case measure => simp [intOf]; omega
          · rw [if_neg hd0] at HS2
            have hd1 : 0 ≤ d := by omega
            clear hd0
            by_cases hd2 : 0 < d
            · by_cases hd3 : d = last
              · subst hd3
                rw [if_neg (by simp)] at HS2
                go_wp2_with (first | (go_at_call 29; refine (HI.out _).mono ?_; rintro e w2 ⟨rfl, ⟨⟨n2, rfl⟩⟩⟩) | (go_at_call 26; refine (HU.out _).mono ?_; rintro e w2 ⟨rfl, ⟨⟨n2, rfl⟩⟩⟩) | (go_at_call 30; refine (HG.out _).mono ?_; rintro e w2 ⟨rfl, ⟨⟨n2, rfl⟩⟩⟩))
                go_roundw
                case rel => exact ⟨k + 1, xs, d, by go_num, rfl, ⟨by omega⟩, HS2, ⟨HO.out⟩, HN, ⟨HBuf.out.drewN _⟩, ⟨pw_below_drewN HB.out _⟩⟩
                case measure => simp [intOf]; omega
              · by_cases hd4 : xs.length < 4
                · rw [if_pos ⟨hd2, hd3, hd4⟩] at HS2
                  have hd5 : (d != last) = true := bne_iff_ne.2 hd3
                  have hd6 : (48 + d) % 256 = 48 + d := by omega
                  clear hd3
                  go_wp2_with (first | (go_at_call 29; refine (HI.out _).mono ?_; rintro e w2 ⟨rfl, ⟨⟨n2, rfl⟩⟩⟩) | (go_at_call 26; refine (HU.out _).mono ?_; rintro e w2 ⟨rfl, ⟨⟨n2, rfl⟩⟩⟩) | (go_at_call 30; refine (HG.out _).mono ?_; rintro e w2 ⟨rfl, ⟨⟨n2, rfl⟩⟩⟩) | (at_builtin; (refine print_append_num (w0 := w) w.heap.size rfl (.tmp 57) (.tmp 61) 36 5 .u8 1 rfl Tryd.underlying36 info_u8 (by decide) _ xs (48 + d) rfl rfl ?h1 ?h2 ?h3 ?h4 ?_); (case h1 => exact HO.out); (case h2 => exact pw_below_drewN HB.out _); (case h3 => exact HB.out.size); (case h4 => omega); (intro v1 w3 ho hb hg hat); (have HV := Aside0.mk (And.intro ho (And.intro hb (buf_app HN.out (HBuf.out.drewN _) hg hat)))); clear ho hb hg hat))
                  go_roundw
                  case rel =>
                    obtain ⟨ho, hb, hn, hbuf⟩ := HV.out
                    exact ⟨k + 1, xs ++ [48 + d], d, by go_num, rfl, ⟨by omega⟩, ⟨by rw [HS2.out, hd6]⟩, ⟨ho⟩, ⟨hn⟩, ⟨hbuf⟩, ⟨hb⟩⟩
                  case measure => simp [intOf]; omega
                · rw [if_neg (by omega)] at HS2
                  have hd5 : (d != last) = true := bne_iff_ne.2 hd3
                  clear hd3
                  go_wp2_with (first | (go_at_call 29; refine (HI.out _).mono ?_; rintro e w2 ⟨rfl, ⟨⟨n2, rfl⟩⟩⟩) | (go_at_call 26; refine (HU.out _).mono ?_; rintro e w2 ⟨rfl, ⟨⟨n2, rfl⟩⟩⟩) | (go_at_call 30; refine (HG.out _).mono ?_; rintro e w2 ⟨rfl, ⟨⟨n2, rfl⟩⟩⟩))
                  go_roundw
                  case rel => exact ⟨k + 1, xs, d, by go_num, rfl, ⟨by omega⟩, HS2, ⟨HO.out⟩, HN, ⟨HBuf.out.drewN _⟩, ⟨pw_below_drewN HB.out _⟩⟩
                  case measure => simp [intOf]; omega
            · rw [if_neg (by omega)] at HS2
              have hd3 : d = 0 := by omega
              subst hd3
              go_wp2_with (first | (go_at_call 29; refine (HI.out _).mono ?_; rintro e w2 ⟨rfl, ⟨⟨n2, rfl⟩⟩⟩) | (go_at_call 26; refine (HU.out _).mono ?_; rintro e w2 ⟨rfl, ⟨⟨n2, rfl⟩⟩⟩) | (go_at_call 30; refine (HG.out _).mono ?_; rintro e w2 ⟨rfl, ⟨⟨n2, rfl⟩⟩⟩))
              go_roundw
              case rel => exact ⟨k + 1, xs, 0, by go_num, rfl, ⟨by omega⟩, HS2, ⟨HO.out⟩, HN, ⟨HBuf.out.drewN _⟩, ⟨pw_below_drewN HB.out _⟩⟩
              case measure => simp [intOf]; omega
      · have hl' : isL B 0 = false := by simpa using hl
        rw [hl'] at HI
        have HS3 : Aside0 (sndAt s (k + 1) = (xs, last)) := ⟨by rw [HS2.out]; unfold sndStep; rw [if_neg hl]⟩
        clear hl hl' HS2
        go_wp2_with (go_at_call 29; refine (HI.out _).mono ?_; rintro e w2 ⟨rfl, ⟨⟨n2, rfl⟩⟩⟩)
        go_roundw
        case rel => exact ⟨k + 1, xs, last, by go_num, rfl, ⟨by omega⟩, HS3, ⟨HO.out⟩, HN, ⟨HBuf.out.drewN _⟩, ⟨pw_below_drewN HB.out _⟩⟩
        case measure => simp [intOf]; omega
    · have hke : k = s.size := by omega
      subst hke
      have hout : Aside0 (snd s = strOfNums (sndPad xs)) := ⟨by
        unfold snd
        have : sndAt s s.size = (bytesOf s).foldl sndStep ([], 0) := by unfold sndAt; rw [← HL.out, List.take_length]
        rw [← this, HS.out]⟩
      have hlen : xs.length ≤ 4 := by have := sndAt_len s s.size; rw [HS.out] at this; exact this
      clear HK HS HBuf
      obtain ⟨A, cp, rfl⟩ := own_slice HO.out
      obtain ⟨v0, hv0⟩ : ∃ v0, v0 = Value.slice A xs.length cp := ⟨_, rfl⟩
      rw [← hv0] at HO
      have HV0 := Aside0.mk hv0
      clear hv0
      go_wp2
      go_loopw [5] (fun v wq => ∃ (ys : List Int) (A : Option Addr) (cp : Nat), v = .slice A ys.length cp ∧ Aside0 (sndPad ys = sndPad xs) ∧ Aside0 (ys.length ≤ 4) ∧
          Aside0 (wq.ownsRow w.heap.size 5 1 v ys.length (nums .u8 ys)) ∧ Aside0 (Below w.heap.size w wq)) (fun v _ => 4 - lenOf v)
      case atStart => exact ⟨xs, A, cp, rfl, ⟨rfl⟩, ⟨hlen⟩, ⟨by rw [← HV0.out]; exact HO.out⟩, HB⟩
      case round =>
        obtain ⟨ys, A, cp, rfl, HP, HY, HO, HB⟩ := hrel
        have hy := HY.out
        by_cases hy0 : ys = []
        · have hp : sndPad xs = [] := by rw [← HP.out, hy0]; rfl
          have hy1 : ¬ (0 : Int) < (ys.length : Int) := by rw [hy0]; simp
          have hstr := own_string (src := 36) (dst := 9) Tryd.underlying36 Tryd.underlying5 Tryd.underlying9 HO.out
          rw [show strOfNums ys = snd s by rw [hout.out, hp, hy0]] at hstr
          clear hy0 hp
          go_wp2
          go_ret2
          exact ⟨rfl, HB.out⟩
        · have hy1 : 0 < ys.length := List.length_pos_iff.2 hy0
          by_cases hy4 : ys.length < 4
          · have HP2 : Aside0 (sndPad (ys ++ [48]) = sndPad xs) := ⟨by
              rw [← HP.out]
              unfold sndPad
              rw [if_neg (by simp), if_neg hy0, List.append_assoc]
              congr 1
              simp only [List.length_append, List.length_singleton]
              rw [show 4 - ys.length = (4 - (ys.length + 1)) + 1 by omega, List.replicate_succ]
              rfl⟩
            clear hy0
            go_wp2_with (at_builtin; refine print_append_num (w0 := w) w.heap.size rfl (.tmp 73) (.tmp 74) 36 5 .u8 1 rfl Tryd.underlying36 info_u8 (by decide) _ ys 48 rfl rfl ?h1 ?h2 ?h3 ?h4 ?_; (case h1 => exact HO.out); (case h2 => exact HB.out); (case h3 => exact HB.out.size); (case h4 => omega); intro v1 w3 ho hb hg hat; have HV := Aside0.mk (And.intro ho hb); clear ho hb hg hat)
            obtain ⟨A1, c1, hv1⟩ := own_slice HV.out.1
            go_roundw
            case rel =>
              exact ⟨ys ++ [48], A1, c1, hv1, HP2, ⟨by simp; omega⟩, ⟨HV.out.1⟩, ⟨HV.out.2⟩⟩
            case measure =>
              rw [hv1]
              simp [lenOf]; omega
          · have hp : sndPad xs = ys := by
              rw [← HP.out]
              unfold sndPad
              rw [if_neg hy0, show 4 - ys.length = 0 by omega]
              simp
            have hstr := own_string (src := 36) (dst := 9) Tryd.underlying36 Tryd.underlying5 Tryd.underlying9 HO.out
            rw [show strOfNums ys = snd s by rw [hout.out, hp]] at hstr
            clear hy0 hp
            go_wp2
            go_ret2
            exact ⟨rfl, HB.out⟩

set_option maxHeartbeats 400000 in
theorem sound_call (s : ByteArray) (w : World) : Calls Tryd.prog 15 #[.string s] w fun e w' =>
    e = .returned (.tuple #[.string (soundF s).1, .int .i64 (soundF s).2]) ∧ Below w.heap.size w w' := by
  unfold soundF
  by_cases h : askP s.size 0 = 0
  · rw [if_pos h]
    exact sound_ok s w (by have := askP_le h; omega) h
  · rw [if_neg h]
    have HA := Lib.hid (fun w => asked_one s 0 w)
    have hb : (askP s.size 0 != 0) = true := bne_iff_ne.2 h
    clear h
    generalize askP s.size 0 = q at HA hb ⊢
    go_enter Tryd.func15, Tryd.ntmps15
    go_wp2_with (go_at_call 21; refine (HA.out _).mono ?_; rintro e w1 ⟨rfl, ⟨⟨n1, rfl⟩⟩⟩)
    go_ret2
    exact ⟨rfl, (pw_below_drewN (below_alloc (Below.refl _ _) _) _)⟩

/-! ### what the laws know for certain -/
theorem up_E4_1 : mapF up ⟨#[228]⟩ 1 = (⟨#[196]⟩, 0) := by decide +kernel
theorem up_E4_2 : mapF up ⟨#[228]⟩ 2 = (⟨#[148]⟩, 0) := by decide +kernel
theorem wt_E9 : weightsF ⟨#[233]⟩ 1 1 = (⟨#[69]⟩, 0) := by decide +kernel
theorem snd_Tym : soundF ⟨#[84, 121, 109, 99, 122, 97, 107]⟩ = (⟨#[84, 53, 50, 50]⟩, 0) := by decide +kernel
set_option maxHeartbeats 1000000 in
theorem known_call (w : World) : Calls Tryd.prog 6 #[] w fun e w' => e = .returned (.bool true) ∧ Below w.heap.size w w' := by
  have H1 := Lib.hid (fun w => up_E4_1 ▸ upper_call ⟨#[228]⟩ 1 w)
  have H2 := Lib.hid (fun w => up_E4_2 ▸ upper_call ⟨#[228]⟩ 2 w)
  have H3 := Lib.hid (fun w => wt_E9 ▸ Weights_call ⟨#[233]⟩ 1 1 w)
  have H4 := Lib.hid (fun w => snd_Tym ▸ sound_call ⟨#[84, 121, 109, 99, 122, 97, 107]⟩ w)
  go_enter Tryd.func6, Tryd.ntmps6
  go_wp2_with (first | (go_at_call 13; with_reducible refine (H1.out _).mono ?_; rintro e w1 ⟨rfl, hb1⟩; have HB1 := Aside0.mk hb1; clear hb1) | (go_at_call 13; with_reducible refine (H2.out _).mono ?_; rintro e w2 ⟨rfl, hb2⟩; have HB2 := Aside0.mk hb2; clear hb2) | (go_at_call 14; refine (H3.out _).mono ?_; rintro e w3 ⟨rfl, hb3⟩; have HB3 := Aside0.mk hb3; clear hb3) | (go_at_call 15; refine (H4.out _).mono ?_; rintro e w4 ⟨rfl, hb4⟩; have HB4 := Aside0.mk hb4; clear hb4))
  go_ret
  exact ⟨rfl, ((HB1.out.trans (HB2.out.mono HB1.out.size)).trans (HB3.out.mono (Nat.le_trans HB1.out.size HB2.out.size))).trans (HB4.out.mono (Nat.le_trans HB1.out.size (Nat.le_trans HB2.out.size HB3.out.size)))⟩

/-! ### the law -/
theorem over_call (s : ByteArray) (w : World) : Calls Tryd.prog 5 #[.string s] w fun e w' => e = .returned (.bool (decide ((s.size : Int) > 16384))) ∧ Drawn0 w w' :=
  cabinetrylaw02_over.calls s _ w rfl
end Go.Proofs.YtmjldihmcbjfhaaDoor.H
