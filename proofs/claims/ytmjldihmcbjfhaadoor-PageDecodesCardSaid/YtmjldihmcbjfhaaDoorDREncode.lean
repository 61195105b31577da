/-
  Encode: the walk of the reference's, and both with their errors.
-/
import Derived.Test.YtmjldihmcbjfhaaDoorDEncode
namespace Go.Proofs.YtmjldihmcbjfhaaDoor.H
open Go.RowKit Go.Proofs.YtmjldihmcbjfhaaDoorW.PrintWords Go.Proofs.YtmjldihmcbjfhaaDoorW.PrintLast Go.Proofs.YtmjldihmcbjfhaaDoorW.PrintMore Go.Proofs.YtmjldihmcbjfhaaDoor.PPageEncodes
set_option linter.unusedVariables false
set_option linter.unusedSimpArgs false

def encP : Option (List Int) → ByteArray × Int
  | none => (⟨#[]⟩, 10)
  | some l => if l.length > 2048 then (⟨#[]⟩, 3) else (strOfNums l, 0)
theorem encA_P (o : Option (List Int)) : encA o = .tuple #[.string (encP o).1, .int .i64 (encP o).2] := by
  cases o with
  | none => rfl
  | some l =>
    by_cases h : l.length > 2048
    · rw [encA_big h, show encP (some l) = (⟨#[]⟩, 3) from if_pos h]
    · rw [encA_small h, show encP (some l) = (strOfNums l, 0) from if_neg h]
def encF (s : ByteArray) (p : Int) : ByteArray × Int :=
  if askQ 6144 s.size p = 0 then (if Lib.validD s.data.toList = true then encP (encTo p.toNat [] (rsF s s.size 0)) else (⟨#[]⟩, 2)) else (⟨#[]⟩, askQ 6144 s.size p)
set_option maxHeartbeats 1000000 in
theorem encode_call (s : ByteArray) (p : Int) (w : World) (hm : s.size ≤ 9223372036854775807) (hTb : Tabs w) : Calls Tryd.prog 7 #[.string s, .int .i64 p] w fun e w' =>
    e = .returned (.tuple #[.string (encF s p).1, .int .i64 (encF s p).2]) ∧ Below w.heap.size w w' := by
  unfold encF
  by_cases h : askQ 6144 s.size p = 0
  · rw [if_pos h]
    obtain ⟨h3, h4, h5⟩ := askQ_zero h
    obtain ⟨T, rfl⟩ : ∃ B : Nat, p = B := Int.eq_ofNat_of_zero_le h4
    rw [Int.toNat_natCast]
    by_cases hv : Lib.validD s.data.toList = true
    · rw [if_pos hv, ← encA_P]
      exact encode_ok s T w (by omega) (by omega) hTb hv
    · rw [if_neg hv]
      have hv2 : Lib.validD s.data.toList = false := by simpa using hv
      have HV := Lib.hid (fun w (hT : Tabs w) => hv2 ▸ isValid_call s w hm hT)
      have HTb := Aside0.mk hTb
      clear h hv hv2 hTb
      have hT0 : (0 : Int) ≤ (T : Int) := by omega
      go_enter Tryd.func7, Tryd.ntmps7
      go_wp2_with (go_at_call 16; refine (HV.out _ HTb.out).mono ?_; rintro e w1 ⟨rfl, hd⟩; have HB1 := Aside0.mk hd; clear hd)
      go_ret2
      exact ⟨rfl, HB1.out⟩
  · rw [if_neg h]
    clear hTb
    by_cases h1 : (6144 : Int) < s.size
    · have e : askQ 6144 s.size p = 3 := if_pos h1
      rw [e]
      clear h e
      go_enter Tryd.func7, Tryd.ntmps7
      go_wp2
      go_ret2
      exact ⟨rfl, Below.refl _ _⟩
    · have h1' : (s.size : Int) ≤ 6144 := by omega
      by_cases h2 : p < 0
      · have e : askQ 6144 s.size p = 1 := by unfold askQ; rw [if_neg (by omega), if_pos h2]
        rw [e]
        clear h e h1
        go_enter Tryd.func7, Tryd.ntmps7
        go_wp2
        go_ret2
        exact ⟨rfl, Below.refl _ _⟩
      · have h3 : 2 < p := by
          by_cases h3 : 2 < p
          · exact h3
          · exact absurd (show askQ 6144 s.size p = 0 by unfold askQ; rw [if_neg (by omega), if_neg h2, if_neg h3]) h
        have e : askQ 6144 s.size p = 1 := by unfold askQ; rw [if_neg (by omega), if_neg h2, if_pos h3]
        rw [e]
        clear h e h1
        have h2' : 0 ≤ p := by omega
        go_enter Tryd.func7, Tryd.ntmps7
        go_wp2
        go_ret2
        exact ⟨rfl, Below.refl _ _⟩

/-! ### the reference -/
theorem runes_eq (s : ByteArray) : ∀ (f i : Nat) (acc : List Int), Conv.runesFrom s f i (nums .i32 acc).toArray = (nums .i32 (acc ++ rsF s f i)).toArray
  | 0, i, acc => by simp [Conv.runesFrom, rsF]
  | f + 1, i, acc => by
    unfold Conv.runesFrom rsF
    by_cases h : i < s.size
    · rw [if_pos h, if_pos h]
      have ih := runes_eq s f (i + (Utf8.decode s i).2) (acc ++ [((Utf8.decode s i).1 : Int)])
      rw [List.append_assoc] at ih
      rw [← List.singleton_append, ← ih]
      simp [nums]
    · rw [if_neg h, if_neg h]
      simp
theorem runes_all (s : ByteArray) : Conv.runesFrom s s.size 0 #[] = (nums .i32 (rsF s s.size 0)).toArray := by
  have := runes_eq s s.size 0 []
  simpa [nums] using this
theorem rsF_len (s : ByteArray) : ∀ f pos, (rsF s f pos).length ≤ f
  | 0, _ => by simp [rsF]
  | f + 1, pos => by
    have ih := rsF_len s f (pos + (Utf8.decode s pos).2)
    unfold rsF
    split
    · rw [List.length_cons]; omega
    · simp
theorem decode_max (s : ByteArray) (pos : Nat) : (Utf8.decode s pos).1 ≤ 2147483647 := by
  have := decode_le s pos
  omega
theorem rsF_range (s : ByteArray) : ∀ f pos, ∀ c ∈ rsF s f pos, 0 ≤ c ∧ c ≤ 2147483647
  | 0, _ => by simp [rsF]
  | f + 1, pos => by
    intro c hc
    unfold rsF at hc
    by_cases h : pos < s.size
    · rw [if_pos h] at hc
      rcases List.mem_cons.1 hc with rfl | hc
      · have := decode_max s pos
        omega
      · exact rsF_range s f _ c hc
    · rw [if_neg h] at hc; simp at hc
theorem rbyteOf_call (P : Nat) (c : Int) (hP : P < 3) (hc : 0 ≤ c) (w : World) : Calls Tryd.prog 20 #[.int .i64 c, .int .i64 P] w fun e w' => e = .returned (.tuple #[.int .u8 (bo (pageL P) c).1, .bool (bo (pageL P) c).2]) ∧ Drawn0 w w' :=
  PPageEncodes.cabinetryref02_byteOf.calls 260 c P _ _ w (rbyteOf_eq P 260 hP c hc (Nat.le_refl _))
theorem encTo_split (T : Nat) (acc : List Int) (c : Int) (rs : List Int) : encTo T acc (c :: rs) = if (bo (pageL T) c).2 = true then encTo T (acc ++ [(bo (pageL T) c).1]) rs else none := rfl
theorem drop_cons {xs : List Int} {k : Nat} (h : k < xs.length) : xs.drop k = xs.getD k 0 :: xs.drop (k + 1) := by
  rw [List.drop_eq_getElem_cons h, List.getD_eq_getElem?_getD, List.getElem?_eq_getElem h]
  rfl

theorem drawn_below {w w' : World} (h : Drawn0 w w') : Below w.heap.size w w' := by
  obtain ⟨n, rfl⟩ := h.out
  exact pw_below_drewN (Below.refl _ _) _
theorem runes_row (w : World) (e : TypeId) (rs : List Int) (n : Nat) (he : e ≠ 5 := by decide) :
    Buf (w.alloc (.cells ((nums .i32 rs).toArray ++ Array.replicate n (.int .i32 0)) e)).drew w.heap.size e (nums .i32 rs) ∧ ∃ o, (w.alloc (.cells ((nums .i32 rs).toArray ++ Array.replicate n (.int .i32 0)) e)).drew.heap[w.heap.size]? = some o ∧ ∀ cur, o ≠ .cells cur 5 (0, 0) := by
  refine ⟨⟨_, 0, 0, heap_alloc_new w _, ?_, Or.inr (Nat.le_refl _)⟩, _, heap_alloc_new w _, fun cur h => ?_⟩
  · intro j hj
    rw [Array.getElem?_append_left (by simpa using hj)]
    simp
  · simp at h
    exact he h.2

set_option maxHeartbeats 4000000 in
set_option maxRecDepth 100000 in
theorem rencode_ok (s : ByteArray) (T : Nat) (w : World) (hs : s.size ≤ 6144) (hT : T < 3) (hq : askQ 6144 s.size T = 0) (hTb : Tabs w) (hval : Lib.validD s.data.toList = true) :
    Calls Tryd.prog 8 #[.string s, .int .i64 T] w fun e w' =>
      e = .returned (encA (encTo T [] (rsF s s.size 0))) ∧ Below w.heap.size w w' := by
  have HA := Lib.hid (fun w => hq ▸ raskedQ 6144 s T w)
  have HV := Lib.hid (fun w (hT : Tabs w) => hval ▸ isValid_call s w (by omega) hT)
  have HTb := Aside0.mk hTb
  have HCH := Lib.hid (fun c hc w => rbyteOf_call T c hT hc w)
  have hlen := rsF_len s s.size 0
  have HRR := Lib.hid (rsF_range s s.size 0)
  have hrn := runes_all s
  have hcv := fun W => run_runes_of_string (P := Tryd.prog) W 9 41 21 s Tryd.underlying9 Tryd.underlying41 Tryd.underlying21 (by rw [hrn, List.size_toArray, nums_len]; omega)
  rw [hrn] at hcv
  simp only [List.size_toArray, nums_len] at hcv
  clear hval hTb hq hrn
  generalize rsF s s.size 0 = rs at *
  obtain ⟨ANS, hA⟩ : ∃ ANS, encTo T [] rs = ANS := ⟨_, rfl⟩
  rw [hA]
  have HANS := Aside0.mk hA
  clear hA
  have hrl : rs.length ≤ 6144 := by omega
  clear hlen
  go_enter Tryd.func8, Tryd.ntmps8
  go_wp2_with (first
    | (go_at_call 19; refine (HA.out _).mono ?_; rintro e w1 ⟨rfl, hd⟩; have HD := Aside0.mk hd; (have hTw1 : Tabs w1 := HTb.out.below (by obtain ⟨n1, rfl⟩ := hd.out; exact pw_below_drewN (below_alloc (below_alloc (Below.refl _ _) _) _) _)); have HT1 := Aside0.mk hTw1; clear hd hTw1)
    | (go_at_call 16; refine (HV.out _ HT1.out).mono ?_; rintro e w2 ⟨rfl, hd⟩; have HB2 := Aside0.mk hd; clear hd))
  have HB1 : Aside0 (Below w.heap.size w w2) := ⟨by
    obtain ⟨n1, rfl⟩ := HD.out.out
    exact (pw_below_drewN (below_alloc (below_alloc (Below.refl _ _) _) _) _).trans (HB2.out.mono (by simp; omega))⟩
  have hO := runes_row w2 21 rs (grownCap w2 rs.length 0 21 - rs.length)
  have HB6 : Aside0 (Below w.heap.size w (w2.alloc (.cells ((nums .i32 rs).toArray ++ Array.replicate (grownCap w2 rs.length 0 21 - rs.length) (.int .i32 0)) 21)).drew) := ⟨(HB1.out.alloc HB1.out.size _).drew⟩
  have hg := HB1.out.size
  generalize (w2.alloc (.cells ((nums .i32 rs).toArray ++ Array.replicate (grownCap w2 rs.length 0 21 - rs.length) (.int .i32 0)) 21)).drew = w6 at hO HB6 ⊢
  obtain ⟨hbuf, ho6⟩ := hO
  have HBuf6 := Aside0.mk hbuf
  have HO6 := Aside0.mk ho6
  clear hbuf ho6 HB1 HB2 HD HT1 hcv HA HV
  generalize w2.heap.size = h at *
  go_loopw [7, 9] (fun v i wr => ∃ (k : Nat) (acc : List Int), i = .int .i64 k ∧ Aside0 (k ≤ rs.length ∧ acc.length ≤ k) ∧ Aside0 (wr.ownsRow w.heap.size 5 1 v acc.length (nums .u8 acc)) ∧ Aside0 (wr.heap[h]? = w6.heap[h]?) ∧ Aside0 (encTo T acc (rs.drop k) = ANS) ∧ Aside0 (Below w.heap.size w wr)) (fun _ i _ => rs.length - (intOf i).toNat)
  case atStart => exact ⟨0, [], rfl, ⟨⟨by omega, by simp⟩⟩, ⟨⟨rfl, Or.inl ⟨rfl, rfl⟩⟩⟩, ⟨rfl⟩, HANS, HB6⟩
  case round =>
    clear HB6 HANS
    obtain ⟨k, acc, rfl, HK, HO, HR, HE, HB⟩ := hrel
    obtain ⟨ao, cap, rfl⟩ := own_slice HO.out
    have hk := HK.out.1
    have hal := HK.out.2
    by_cases hlt : k < rs.length
    · have hc := (HBuf6.out.keep HR.out).int k hlt
      have hcr := HRR.out (rs.getD k 0) (by rw [List.getD_eq_getElem?_getD, List.getElem?_eq_getElem hlt]; simp)
      have HE2 := Aside0.mk (show encTo T acc (rs.getD k 0 :: rs.drop (k + 1)) = ANS by rw [← drop_cons hlt]; exact HE.out)
      generalize rs.getD k 0 = c at *
      obtain ⟨hc0, hc1⟩ := hcr
      have HX := Lib.hid (HCH.out c hc0)
      have HSP := Aside0.mk (encTo_split T acc c (rs.drop (k + 1)))
      clear HCH
      generalize bo (pageL T) c = r at HX HSP
      obtain ⟨y, ok⟩ := r
      cases ok
      · have HN : Aside0 (ANS = none) := ⟨by rw [← HE2.out, HSP.out]; simp⟩
        go_wp2_with (first
          | (go_at_call 20; refine (HX.out _).mono ?_; rintro e w7 ⟨rfl, ⟨⟨n7, rfl⟩⟩⟩))
        go_ret2
        exact ⟨by rw [HN.out]; rfl, pw_below_drewN HB.out _⟩
      · have HN : Aside0 (encTo T (acc ++ [y]) (rs.drop (k + 1)) = ANS) := ⟨by rw [← HE2.out, HSP.out]; simp⟩
        go_wp2_with (first
          | (go_at_call 20; refine (HX.out _).mono ?_; rintro e w7 ⟨rfl, hd⟩; have HB7 := Aside0.mk (drawn_below hd); clear hd)
          | (at_builtin; (refine print_append_num (w0 := w) w.heap.size rfl (.tmp 43) (.tmp 45) 36 5 .u8 1 rfl Tryd.underlying36 info_u8 (by decide) _ acc y rfl rfl ?h1 ?h2 ?h3 ?h4 ?_); (case h1 => exact own_below HO.out HB7.out); (case h2 => exact HB.out.trans (HB7.out.mono HB.out.size)); (case h3 => exact Nat.le_trans HB.out.size HB7.out.size); (case h4 => omega); (intro v1 w8 ho hb hg hat); (have HV := Aside0.mk (And.intro ho (And.intro hb hg))); clear ho hb hg hat))
        go_roundw
        case rel =>
          obtain ⟨ho, hb, hgr⟩ := HV.out
          obtain ⟨o6, ho6, ho6n⟩ := HO6.out
          have hr0 := HR.out.trans ho6
          have hO7 := own_below HO.out HB7.out
          have hr7 := (HB7.out.block h (blkl hr0)).trans hr0
          exact ⟨k + 1, acc ++ [y], by go_num, ⟨⟨by omega, by rw [List.length_append, List.length_singleton]; omega⟩⟩, ⟨ho⟩, ⟨((hgr.block h (blkl hr7) (fun e => own_ne hO7 hr7 ho6n e.symm)).trans hr7).trans ho6.symm⟩, HN, ⟨hb⟩⟩
        case measure => simp [intOf]; omega
    · have hke : k = rs.length := by omega
      have HN : Aside0 (ANS = some acc) := ⟨by rw [← HE.out, hke, List.drop_length]; rfl⟩
      clear hke
      by_cases hl : acc.length > 2048
      · have hl2 : (2048 : Int) < (acc.length : Int) := by omega
        go_wp2
        go_ret2
        exact ⟨by rw [HN.out, encA_big hl]; rfl, HB.out⟩
      · have hl2 : (acc.length : Int) ≤ 2048 := by omega
        have hstr := own_string (P := Tryd.prog) (src := 36) (dst := 9) Tryd.underlying36 Tryd.underlying5 Tryd.underlying9 HO.out
        go_wp2
        go_ret2
        exact ⟨by rw [HN.out, encA_small hl]; rfl, HB.out⟩

set_option maxHeartbeats 1000000 in
theorem rencode_call (s : ByteArray) (p : Int) (w : World) (hm : s.size ≤ 9223372036854775807) (hTb : Tabs w) : Calls Tryd.prog 8 #[.string s, .int .i64 p] w fun e w' =>
    e = .returned (.tuple #[.string (encF s p).1, .int .i64 (encF s p).2]) ∧ Below w.heap.size w w' := by
  unfold encF
  by_cases h : askQ 6144 s.size p = 0
  · rw [if_pos h]
    obtain ⟨h3, h4, h5⟩ := askQ_zero h
    obtain ⟨T, rfl⟩ : ∃ B : Nat, p = B := Int.eq_ofNat_of_zero_le h4
    rw [Int.toNat_natCast]
    by_cases hv : Lib.validD s.data.toList = true
    · rw [if_pos hv, ← encA_P]
      exact rencode_ok s T w (by omega) (by omega) h hTb hv
    · rw [if_neg hv]
      have hv2 : Lib.validD s.data.toList = false := by simpa using hv
      have HA := Lib.hid (fun w => h ▸ raskedQ 6144 s T w)
      have HV := Lib.hid (fun w (hT : Tabs w) => hv2 ▸ isValid_call s w hm hT)
      have HTb := Aside0.mk hTb
      clear h hv hv2 hTb
      go_enter Tryd.func8, Tryd.ntmps8
      go_wp2_with (first
        | (go_at_call 19; refine (HA.out _).mono ?_; rintro e w1 ⟨rfl, hd⟩; have HD := Aside0.mk hd; (have hTw1 : Tabs w1 := HTb.out.below (by obtain ⟨n1, rfl⟩ := hd.out; exact pw_below_drewN (below_alloc (below_alloc (Below.refl _ _) _) _) _)); have HT1 := Aside0.mk hTw1; clear hd hTw1)
        | (go_at_call 16; refine (HV.out _ HT1.out).mono ?_; rintro e w2 ⟨rfl, hd⟩; have HB2 := Aside0.mk hd; clear hd))
      go_ret2
      refine ⟨rfl, ?_⟩
      obtain ⟨n1, rfl⟩ := HD.out.out
      exact (pw_below_drewN (below_alloc (below_alloc (Below.refl _ _) _) _) _).trans (HB2.out.mono (by simp; omega))
  · rw [if_neg h]
    have HA := Lib.hid (fun w => raskedQ 6144 s p w)
    have hb : (askQ 6144 s.size p != 0) = true := bne_iff_ne.2 h
    clear h hTb
    generalize askQ 6144 s.size p = q at HA hb ⊢
    go_enter Tryd.func8, Tryd.ntmps8
    go_wp2_with (go_at_call 19; refine (HA.out _).mono ?_; rintro e w1 ⟨rfl, ⟨⟨n1, rfl⟩⟩⟩)
    go_ret2
    exact ⟨rfl, pw_below_drewN (below_alloc (below_alloc (Below.refl _ _) _) _) _⟩
end Go.Proofs.YtmjldihmcbjfhaaDoor.H
