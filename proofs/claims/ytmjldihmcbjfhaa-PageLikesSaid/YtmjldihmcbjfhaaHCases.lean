/-
  The walk of the reference's Proper; and the law on capitals, small letters and counts: the plain law, the walk of the law's function.
-/
import Derived.Test.YtmjldihmcbjfhaaHRef
import Derived.Test.YtmjldihmcbjfhaaHFolds
namespace Go.Proofs.Ytmjldihmcbjfhaa.H
open Go.RowKit Go.Proofs.YtmjldihmcbjfhaaW.PrintWords Go.Proofs.YtmjldihmcbjfhaaW.PrintLast Go.Proofs.YtmjldihmcbjfhaaW.PrintMore Go.Proofs.Ytmjldihmcbjfhaa.PPageCases
set_option linter.unusedVariables false
set_option linter.unusedSimpArgs false

def rpropL (p : Int) : Bool → List Int → List Int
  | _, [] => []
  | st, b :: l => (if st = true then rlo b p else rup b p) :: rpropL p (risL b p) l
theorem rpropL_length (p : Int) (l : List Int) : ∀ st, (rpropL p st l).length = l.length := by
  induction l with
  | nil => intro st; rfl
  | cons b l ih => intro st; simp [rpropL, ih]
def rstAt (p : Int) (st : Bool) (xs : List Int) (k : Nat) : Bool := if k = 0 then st else risL (xs.getD (k - 1) 0) p
theorem rpropL_get (p : Int) (l : List Int) : ∀ (st : Bool) (k : Nat), k < l.length → (rpropL p st l).getD k 0 = if rstAt p st l k = true then rlo (l.getD k 0) p else rup (l.getD k 0) p := by
  induction l with
  | nil => intro st k h; simp at h
  | cons b l ih =>
    intro st k h
    cases k with
    | zero => simp [rpropL, rstAt]
    | succ k =>
      have := ih (risL b p) k (by simpa using h)
      simp only [rpropL, List.getD_cons_succ, this]
      have e : rstAt p (risL b p) l k = rstAt p st (b :: l) (k + 1) := by
        unfold rstAt
        cases k with
        | zero => simp
        | succ k => simp
      rw [e]

set_option maxHeartbeats 4000000 in
theorem rProper_ok (s : ByteArray) (p : Int) (w : World) (hs : s.size ≤ 2048) (hq : askC s.size p 0 = 0) :
    Calls Try.prog 25 #[.string s, .int .i64 p] w fun e w' =>
      e = .returned (.tuple #[.string (strOfNums (rpropL p false (bytesOf s))), .int .i64 0]) ∧ Below w.heap.size w w' := by
  have HA := Lib.hid (fun w => hq ▸ rasked_one s p 0 w)
  have HU := Lib.hid (fun b W => rup_call b p W)
  have HO := Lib.hid (fun b W => rlo_call b p W)
  have HL := Lib.hid (bytesOf_length s)
  have HLO := Lib.hid (rpropL_length p (bytesOf s) false)
  clear hq
  have hcv := fun W => print_bytes (P := Try.prog) 9 44 5 Try.underlying9 Try.underlying44 Try.underlying5 s W
  go_enter Try.func25, Try.ntmps25
  go_wp2_with (go_at_call 39; refine (HA.out _).mono ?_; rintro e w1 ⟨rfl, hd⟩; have HD := Aside0.mk hd; clear hd)
  have hw1 : w.heap.size ≤ w1.heap.size := by obtain ⟨n1, rfl⟩ := HD.out.out; simp; omega
  have HB1 : Aside0 (Below w.heap.size w (Lib.bytesWorld w1 5 s)) := ⟨by
    obtain ⟨n1, rfl⟩ := HD.out.out
    exact bytes_below (pw_below_drewN (below_alloc (below_alloc (Below.refl _ _) _) _) _) (by simp; omega) _ _⟩
  clear HD
  go_loopw [8] (fun i wr => ∃ k : Nat, i = .int .i64 k ∧ Aside0 (k ≤ s.size) ∧ Aside0 (Buf wr w1.heap.size 5 (nums .u8 (mix (rpropL p false (bytesOf s)) (bytesOf s) k))) ∧ Aside0 (Below w.heap.size w wr)) (fun i _ => s.size - (intOf i).toNat)
  case atStart =>
    refine ⟨0, rfl, ⟨by omega⟩, ⟨?_⟩, HB1⟩
    rw [mix_zero]; exact buf_bytesWorld _ _ _
  case round =>
    obtain ⟨k, rfl, HK, HBuf, HB⟩ := hrel
    have hk := HK.out
    by_cases hlt : k < s.size
    · have HC := Lib.hid (HBuf.out.int k (by rw [mix_length _ _ _ HLO.out, HL.out]; exact hlt))
      have hf := HBuf.out.frozen k (by simpa [nums, mix_length _ _ _ HLO.out, HL.out] using hlt)
      have hc := HC.out
      rw [mix_get _ _ _ HLO.out (by rw [HL.out]; exact hlt)] at hc
      clear HC
      have hbt := getElem_bt s k hlt
      have HGT := Lib.hid (rpropL_get p (bytesOf s) false k (by rw [HL.out]; exact hlt))
      have HST : Aside0 (Buf (wr.setCell ⟨w1.heap.size, k, none⟩ (.int .u8 (if rstAt p false (bytesOf s) k = true then rlo ((bytesOf s).getD k 0) p else rup ((bytesOf s).getD k 0) p))) w1.heap.size 5 (nums .u8 (mix (rpropL p false (bytesOf s)) (bytesOf s) (k + 1)))) := ⟨by
        have h := HBuf.out.set_int k ((rpropL p false (bytesOf s)).getD k 0)
        rw [mix_succ _ _ _ HLO.out (by rw [HL.out]; exact hlt), HGT.out] at h
        exact h⟩
      clear HGT
      by_cases hk0 : k = 0
      · have HE : Aside0 (rstAt p false (bytesOf s) k = false) := ⟨by unfold rstAt; rw [if_pos hk0]⟩
        rw [HE.out] at HST
        have hk1 : ¬ (0 : Int) < (k : Int) := by omega
        clear hk0 HE
        go_wp2_with (first | (go_at_call 35; refine (HU.out _ _).mono ?_; rintro e w2 ⟨rfl, ⟨⟨n2, rfl⟩⟩⟩))
        go_roundw
        case rel => exact ⟨k + 1, by go_num, ⟨by omega⟩, ⟨HST.out.drewN _⟩, ⟨pw_below_drewN (HB.out.setCell hw1 _) _⟩⟩
        case measure => simp [intOf]; omega
      · have hk1 : (0 : Int) < (k : Int) := by omega
        have hlt1 : k - 1 < s.size := by omega
        have HI := Lib.hid (fun W => risL_call ((bytesOf s).getD (k - 1) 0) p W)
        have HE : Aside0 (rstAt p false (bytesOf s) k = risL ((bytesOf s).getD (k - 1) 0) p) := ⟨by unfold rstAt; rw [if_neg hk0]⟩
        rw [HE.out] at HST
        have hbt1 := getElem_bt s (k - 1) hlt1
        have hk2 : ((k : Int) - 1).toNat = k - 1 := by omega
        clear hk0 HE
        generalize risL ((bytesOf s).getD (k - 1) 0) p = st at HI HST
        cases st
        · go_wp2_with (first | (go_at_call 34; refine (HI.out _).mono ?_; rintro e w2 ⟨rfl, ⟨⟨n2, rfl⟩⟩⟩) | (go_at_call 35; refine (HU.out _ _).mono ?_; rintro e w2 ⟨rfl, ⟨⟨n2, rfl⟩⟩⟩) | (go_at_call 46; refine (HO.out _ _).mono ?_; rintro e w2 ⟨rfl, ⟨⟨n2, rfl⟩⟩⟩))
          go_roundw
          case rel => exact ⟨k + 1, by go_num, ⟨by omega⟩, ⟨HST.out.drewN _⟩, ⟨pw_below_drewN (HB.out.setCell hw1 _) _⟩⟩
          case measure => simp [intOf]; omega
        · go_wp2_with (first | (go_at_call 34; refine (HI.out _).mono ?_; rintro e w2 ⟨rfl, ⟨⟨n2, rfl⟩⟩⟩) | (go_at_call 35; refine (HU.out _ _).mono ?_; rintro e w2 ⟨rfl, ⟨⟨n2, rfl⟩⟩⟩) | (go_at_call 46; refine (HO.out _ _).mono ?_; rintro e w2 ⟨rfl, ⟨⟨n2, rfl⟩⟩⟩))
          go_roundw
          case rel => exact ⟨k + 1, by go_num, ⟨by omega⟩, ⟨HST.out.drewN _⟩, ⟨pw_below_drewN (HB.out.setCell hw1 _) _⟩⟩
          case measure => simp [intOf]; omega
    · have hke : k = s.size := by omega
      have hstr := HBuf.out.string (src := 44) (dst := 9) (cap := grownCap w1 s.size 0 5) (n := s.size) Try.underlying44 Try.underlying5 Try.underlying9 (by rw [mix_length _ _ _ HLO.out, HL.out])
      rw [hke, ← HL.out, mix_all _ _ HLO.out, HL.out] at hstr
      subst hke
      go_wp2
      go_ret2
      exact ⟨rfl, HB.out⟩

/-! ### the plain law -/
theorem ref_bytes (p : Fin 3) (b : Fin 256) : rup b.val p.val = up b.val p.val ∧ rlo b.val p.val = lo b.val p.val ∧ risL b.val p.val = isL b.val p.val := by
  revert p b; decide +kernel
theorem ref_at (p : Fin 3) (y : Int) (h0 : 0 ≤ y) (h1 : y ≤ 255) : rup y p.val = up y p.val ∧ rlo y p.val = lo y p.val ∧ risL y p.val = isL y p.val := by
  have := ref_bytes p ⟨y.toNat, by omega⟩
  simp only [Int.toNat_of_nonneg h0] at this
  exact this
theorem askP_page {n p : Int} (h : askP n p = 0) : ∃ q : Fin 3, p = (q.val : Int) := by
  unfold askP at h
  split at h
  · omega
  · split at h
    · omega
    · split at h
      · omega
      · exact ⟨⟨p.toNat, by omega⟩, by simp only; omega⟩
theorem mapF_up (s : ByteArray) (p : Int) : mapF rup s p = mapF up s p := by
  unfold mapF
  by_cases h : askP s.size p = 0
  · obtain ⟨q, rfl⟩ := askP_page h
    rw [if_pos h, if_pos h]
    congr 2
    exact List.map_congr_left fun x hx => (ref_at q x (bytesOf_range s x hx).1 (bytesOf_range s x hx).2).1
  · rw [if_neg h, if_neg h]
theorem mapF_lo (s : ByteArray) (p : Int) : mapF rlo s p = mapF lo s p := by
  unfold mapF
  by_cases h : askP s.size p = 0
  · obtain ⟨q, rfl⟩ := askP_page h
    rw [if_pos h, if_pos h]
    congr 2
    exact List.map_congr_left fun x hx => (ref_at q x (bytesOf_range s x hx).1 (bytesOf_range s x hx).2).2.1
  · rw [if_neg h, if_neg h]
theorem rprop_eq (p : Fin 3) (l : List Int) : ∀ (st : Bool), (∀ x, x ∈ l → 0 ≤ x ∧ x ≤ 255) → rpropL p.val st l = propL p.val st l := by
  induction l with
  | nil => intro st _; rfl
  | cons y l ih =>
    intro st h
    obtain ⟨h0, h1⟩ := h y (by simp)
    obtain ⟨e1, e2, e3⟩ := ref_at p y h0 h1
    simp only [rpropL, propL, e1, e2, e3]
    rw [ih _ (fun x hx => h x (by simp [hx]))]
theorem rProper_call (s : ByteArray) (p : Int) (w : World) : Calls Try.prog 25 #[.string s, .int .i64 p] w fun e w' =>
    e = .returned (.tuple #[.string (properF s p).1, .int .i64 (properF s p).2]) ∧ Below w.heap.size w w' := by
  unfold properF
  have hz := askC_zero s.size p
  by_cases h : askP s.size p = 0
  · obtain ⟨q, rfl⟩ := askP_page h
    rw [if_pos h, ← rprop_eq q _ false (bytesOf_range s)]
    exact rProper_ok s q.val w (by have := askP_le h; omega) (by rw [hz]; exact h)
  · rw [if_neg h]
    exact rProper_bad s p w _ hz (bne_iff_ne.2 h)

theorem isL_ref (s : ByteArray) (q : Fin 3) (i : Int) (k : Nat) (hk : 20 ≤ k) : cabinetryref02_IsLetter.f k (bt s i) q.val = some (isL (bt s i) q.val) := by
  obtain ⟨h0, h1⟩ := bt_range s i
  rw [← (ref_at q _ h0 h1).2.2]
  exact at_rounds (cabinetryref02_IsLetter.mono _ _) hk (risL_eq _ _)
theorem count_loop (s : ByteArray) (q : Fin 3) (hs : s.size ≤ 2048) (n : Nat) : ∀ (k i : Nat), i ≤ s.size → s.size - i = n → n + 30 < k →
    cabinetryref02_Count.l0 k s q.val (cntL q.val ((bytesOf s).take i)) (cntD q.val ((bytesOf s).take i)) (i : Int) = some (cntL q.val (bytesOf s), cntD q.val (bytesOf s), s.size - cntL q.val (bytesOf s) - cntD q.val (bytesOf s), 0) := by
  induction n with
  | zero =>
    intro k i hi hn hk
    obtain ⟨k, rfl⟩ : ∃ m, k = m + 1 := ⟨k - 1, by omega⟩
    have hie : i = (bytesOf s).length := by rw [bytesOf_length]; omega
    have hl := cntL_bd q.val (bytesOf s)
    have hd := cntD_bd q.val (bytesOf s)
    rw [bytesOf_length] at hl hd
    simp only [cabinetryref02_Count.l0]
    rw [if_neg (by omega), hie, List.take_length]
    rw [show wrap64 ((s.size : Int) - cntL q.val (bytesOf s)) = (s.size : Int) - cntL q.val (bytesOf s) by unfold wrap64; omega]
    rw [show wrap64 ((s.size : Int) - cntL q.val (bytesOf s) - cntD q.val (bytesOf s)) = (s.size : Int) - cntL q.val (bytesOf s) - cntD q.val (bytesOf s) by unfold wrap64; omega]
  | succ n ih =>
    intro k i hi hn hk
    obtain ⟨k, rfl⟩ : ∃ m, k = m + 1 := ⟨k - 1, by omega⟩
    have hlt : i < s.size := by omega
    have hl := cntL_bd q.val ((bytesOf s).take i)
    have hd := cntD_bd q.val ((bytesOf s).take i)
    rw [List.length_take, bytesOf_length] at hl hd
    have ht := take_snoc (bytesOf s) i (by rw [bytesOf_length]; exact hlt)
    have h1 := cntL_snoc q.val ((bytesOf s).take i) ((bytesOf s).getD i 0)
    have h2 := cntD_snoc q.val ((bytesOf s).take i) ((bytesOf s).getD i 0)
    rw [← ht] at h1 h2
    have ih' := ih k (i + 1) (by omega) (by omega) (by omega)
    have hb := isL_ref s q i k (by omega)
    rw [bt_getD] at hb
    simp only [cabinetryref02_Count.l0]
    rw [bt_getD, if_pos (by omega), if_pos (by omega), hb]
    simp only [Option.bind_some]
    have hw : wrap64 ((i : Int) + 1) = ((i + 1 : Nat) : Int) := by unfold wrap64; omega
    rw [hw]
    generalize (bytesOf s).getD i 0 = b at *
    by_cases c1 : isL b q.val = true
    · rw [if_pos c1]
      rw [c1] at h1 h2
      simp only [if_true] at h1 h2
      rw [show wrap64 (cntL q.val ((bytesOf s).take i) + 1) = cntL q.val ((bytesOf s).take (i + 1)) by rw [h1]; unfold wrap64; omega]
      rw [show cntD q.val ((bytesOf s).take i) = cntD q.val ((bytesOf s).take (i + 1)) by rw [h2]; omega]
      exact ih'
    · rw [if_neg c1]
      rw [if_neg c1] at h1 h2
      by_cases c2 : isD b = true
      · have c3 : 48 ≤ b ∧ b ≤ 57 := by unfold isD at c2; exact of_decide_eq_true c2
        rw [if_pos c2] at h2
        rw [if_pos (show b ≥ 48 from c3.1), if_pos c3.2]
        rw [show wrap64 (cntD q.val ((bytesOf s).take i) + 1) = cntD q.val ((bytesOf s).take (i + 1)) by rw [h2]; unfold wrap64; omega]
        rw [show cntL q.val ((bytesOf s).take i) = cntL q.val ((bytesOf s).take (i + 1)) by rw [h1]; omega]
        exact ih'
      · have c3 : ¬ (48 ≤ b ∧ b ≤ 57) := by intro hh; apply c2; unfold isD; exact decide_eq_true hh
        rw [if_neg c2] at h2
        rw [show cntL q.val ((bytesOf s).take i) = cntL q.val ((bytesOf s).take (i + 1)) by rw [h1]; omega, show cntD q.val ((bytesOf s).take i) = cntD q.val ((bytesOf s).take (i + 1)) by rw [h2]; omega]
        by_cases c4 : b ≥ 48
        · rw [if_pos c4, if_neg (by omega)]; exact ih'
        · rw [if_neg c4]; exact ih'
theorem ref_count (s : ByteArray) (p : Int) : ∃ k, cabinetryref02_Count.f k s p = some (countF s p) := by
  refine ⟨s.size + 32, ?_⟩
  have ha : cabinetryref02_asked.f (s.size + 32) 2048 [s] 0 [p] = some (askP s.size p) := by
    rw [← askC_zero]; exact at_rounds (cabinetryref02_asked.mono _ _ _ _) (by omega) (rasked_f s p 0)
  unfold cabinetryref02_Count.f countF
  rw [ha]
  simp only [Option.bind_some]
  by_cases h : askP s.size p = 0
  · obtain ⟨q, rfl⟩ := askP_page h
    rw [if_pos h, if_pos h]
    exact count_loop s q (by have := askP_le h; omega) s.size (s.size + 32) 0 (by omega) (by omega) (by omega)
  · rw [if_neg h, if_neg h]
theorem rcount_call (s : ByteArray) (p : Int) (w : World) : Calls Try.prog 27 #[.string s, .int .i64 p] w fun e w' =>
    e = .returned (.tuple #[.int .i64 (countF s p).1, .int .i64 (countF s p).2.1, .int .i64 (countF s p).2.2.1, .int .i64 (countF s p).2.2.2]) ∧ Below w.heap.size w w' := by
  obtain ⟨k, hk⟩ := ref_count s p
  exact cabinetryref02_Count.calls k s p _ _ _ _ w hk

set_option maxHeartbeats 4000000 in
theorem law_cases (s : ByteArray) (p : Int) (w : World) (_hs : s.size ≤ maxLen) (_hp : (Lit.int .i64 p).wf = true) :
    Calls Try.prog 8 #[.string s, .int .i64 p] w fun e w' => e = .returned (.bool true) ∧ Below w.heap.size w w' := by
  have HO := Lib.hid (fun w => over_call s w)
  have HK := Lib.hid (fun w => known_call w)
  have H1 := Lib.hid (fun w => upper_call s p w)
  have H2 := Lib.hid (fun w => mapF_up s p ▸ rUpper_call s p w)
  have H3 := Lib.hid (fun w => lower_call s p w)
  have H4 := Lib.hid (fun w => mapF_lo s p ▸ rLower_call s p w)
  have H5 := Lib.hid (fun w => proper_call s p w)
  have H6 := Lib.hid (fun w => rProper_call s p w)
  have H7 := Lib.hid (fun w => count_call s p w)
  have H8 := Lib.hid (fun w => rcount_call s p w)
  generalize mapF up s p = r1 at H1 H2
  generalize mapF lo s p = r2 at H3 H4
  generalize properF s p = r3 at H5 H6
  generalize countF s p = r4 at H7 H8
  obtain ⟨a1, a2⟩ := r1
  obtain ⟨b1, b2⟩ := r2
  obtain ⟨c1, c2⟩ := r3
  obtain ⟨d1, d2, d3, d4⟩ := r4
  by_cases ho : decide ((s.size : Int) > 16384) = true
  · rw [ho] at HO
    clear ho
    go_enter Try.func8, Try.ntmps8
    go_wp2_with (first | (go_at_call 10; refine (HO.out _).mono ?_; rintro e w1 ⟨rfl, ⟨⟨n1, rfl⟩⟩⟩) | (go_at_call 11; refine (HK.out _).mono ?_; rintro e w4 ⟨rfl, hb4⟩; have HB4 := Aside0.mk hb4; clear hb4))
    go_ret
    exact ⟨rfl, (pw_below_drewN (Below.refl _ _) _).trans HB4.out⟩
  · have ho' : decide ((s.size : Int) > 16384) = false := by simpa using ho
    rw [ho'] at HO
    clear ho ho'
    go_enter Try.func8, Try.ntmps8
    go_wp2_with (first | (go_at_call 10; refine (HO.out _).mono ?_; rintro e w0 ⟨rfl, ⟨⟨n1, rfl⟩⟩⟩) | (go_at_call 18; refine (H1.out _).mono ?_; rintro e w1 ⟨rfl, hb1⟩; have HB1 := Aside0.mk hb1; clear hb1) | (go_at_call 23; refine (H2.out _).mono ?_; rintro e w2 ⟨rfl, hb2⟩; have HB2 := Aside0.mk hb2; clear hb2) | (go_at_call 19; refine (H3.out _).mono ?_; rintro e w3 ⟨rfl, hb3⟩; have HB3 := Aside0.mk hb3; clear hb3) | (go_at_call 24; refine (H4.out _).mono ?_; rintro e w4 ⟨rfl, hb4⟩; have HB4 := Aside0.mk hb4; clear hb4) | (go_at_call 20; refine (H5.out _).mono ?_; rintro e w5 ⟨rfl, hb5⟩; have HB5 := Aside0.mk hb5; clear hb5) | (go_at_call 25; refine (H6.out _).mono ?_; rintro e w6 ⟨rfl, hb6⟩; have HB6 := Aside0.mk hb6; clear hb6) | (go_at_call 26; refine (H7.out _).mono ?_; rintro e w7 ⟨rfl, hb7⟩; have HB7 := Aside0.mk hb7; clear hb7) | (go_at_call 27; refine (H8.out _).mono ?_; rintro e w8 ⟨rfl, hb8⟩; have HB8 := Aside0.mk hb8; clear hb8) | (go_at_call 11; refine (HK.out _).mono ?_; rintro e w9 ⟨rfl, hb9⟩; have HB9 := Aside0.mk hb9; clear hb9))
    go_ret
    exact ⟨by simp, nx (nx (nx (nx (nx (nx (nx (nx ((pw_below_drewN (Below.refl _ _) _).trans HB1.out) HB2.out) HB3.out) HB4.out) HB5.out) HB6.out) HB7.out) HB8.out) HB9.out⟩
end Go.Proofs.Ytmjldihmcbjfhaa.H
