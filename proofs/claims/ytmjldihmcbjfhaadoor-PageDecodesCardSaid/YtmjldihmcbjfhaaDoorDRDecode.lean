/-
  Decode: the walk of the reference's, and both with their errors.
-/
import Derived.Test.YtmjldihmcbjfhaaDoorDDecode
namespace Go.Proofs.YtmjldihmcbjfhaaDoor.H
open Go.RowKit Go.Proofs.YtmjldihmcbjfhaaDoorW.PrintWords Go.Proofs.YtmjldihmcbjfhaaDoorW.PrintLast Go.Proofs.YtmjldihmcbjfhaaDoorW.PrintMore Go.Proofs.YtmjldihmcbjfhaaDoor.PPageEncodes
set_option linter.unusedVariables false
set_option linter.unusedSimpArgs false

theorem enc_eq (r : Nat) (h : r ≤ 1103) : Utf8.encode (r : Int) = strOfNums (Lib.encodeRuneZ r) := by
  have hv : Utf8.valid (r : Int) = true := by simp [Utf8.valid]; omega
  unfold Utf8.encode
  rw [hv]
  by_cases h1 : r < 128
  · rw [Lib.encodeRuneZ_one (by omega) (by omega)]
    simp [strOfNums, h1]
  · rw [Lib.encodeRuneZ_two (by omega) (by omega)]
    have e1 : (192 + (r : Int) / 64).toNat = 192 + r / 64 := by omega
    have e2 : (128 + (r : Int) % 64).toNat = 128 + r % 64 := by omega
    simp [strOfNums, h1, show r < 2048 by omega, e1, e2]
def decF (s : ByteArray) (p : Int) : ByteArray × Int := if askP s.size p = 0 then (if validL p.toNat (bytesOf s) = true then (strOfNums (decL p.toNat (bytesOf s)), 0) else (⟨#[]⟩, 2)) else (⟨#[]⟩, askP s.size p)
set_option maxHeartbeats 1000000 in
theorem decode_call (s : ByteArray) (p : Int) (w : World) : Calls Tryd.prog 9 #[.string s, .int .i64 p] w fun e w' =>
    e = .returned (.tuple #[.string (decF s p).1, .int .i64 (decF s p).2]) ∧ Below w.heap.size w w' := by
  unfold decF
  by_cases h : askP s.size p = 0
  · rw [if_pos h]
    obtain ⟨h3, h4, h5⟩ := askQ_zero (most := 2048) h
    obtain ⟨T, rfl⟩ : ∃ B : Nat, p = B := Int.eq_ofNat_of_zero_le h4
    refine (decode_ok s T w (by omega) (by omega) h).mono ?_
    rintro e w' ⟨rfl, hb⟩
    refine ⟨?_, hb⟩
    rw [Int.toNat_natCast]
    by_cases hv : validL T (bytesOf s) = true
    · rw [if_pos hv, if_pos hv]
    · rw [if_neg hv, if_neg hv]
  · rw [if_neg h]
    have HA := Lib.hid (fun w => asked_one s p w)
    have hb : (askP s.size p != 0) = true := bne_iff_ne.2 h
    clear h
    generalize askP s.size p = q at HA hb ⊢
    go_enter Tryd.func9, Tryd.ntmps9
    go_wp2_with (go_at_call 21; refine (HA.out _).mono ?_; rintro e w1 ⟨rfl, ⟨⟨n1, rfl⟩⟩⟩)
    go_ret2
    exact ⟨rfl, pw_below_drewN (below_alloc (Below.refl _ _) _) _⟩

set_option maxHeartbeats 1000000 in
theorem rdecode_call (s : ByteArray) (p : Int) (w : World) : Calls Tryd.prog 10 #[.string s, .int .i64 p] w fun e w' =>
    e = .returned (.tuple #[.string (decF s p).1, .int .i64 (decF s p).2]) ∧ Below w.heap.size w w' := by
  unfold decF
  have HA := Lib.hid (fun w => raskedQ 2048 s p w)
  simp only [askQ_P] at HA
  by_cases h : askP s.size p = 0
  · rw [if_pos h]
    rw [h] at HA
    obtain ⟨h3, h4, h5⟩ := askQ_zero (most := 2048) h
    clear h
    obtain ⟨T, rfl⟩ : ∃ B : Nat, p = B := Int.eq_ofNat_of_zero_le h4
    have hT : T < 3 := by omega
    have hs : s.size ≤ 2048 := by omega
    have HCH := Lib.hid (fun B hB w => char_call T B hT hB w)
    rw [Int.toNat_natCast]
    obtain ⟨R, hR⟩ : ∃ R : ByteArray × Int, R = (if validL T (bytesOf s) = true then (strOfNums (decL T (bytesOf s)), 0) else (⟨#[]⟩, 2)) := ⟨_, rfl⟩
    rw [← hR]
    have HR := Lib.hid hR
    clear hR
    clear h3 h4 h5
    go_enter Tryd.func10, Tryd.ntmps10
    go_wp2_with (go_at_call 19; refine (HA.out _).mono ?_; rintro e w1 ⟨rfl, hd⟩; have HD := Aside0.mk hd; clear hd)
    have HB1 : Aside0 (Below w.heap.size w w1) := ⟨by
      obtain ⟨n1, rfl⟩ := HD.out.out
      exact pw_below_drewN (below_alloc (below_alloc (Below.refl _ _) _) _) _⟩
    clear HD HA
    go_loopw [7, 8] (fun o i wr => ∃ k : Nat, i = .int .i64 k ∧ o = .string (strOfNums (decL T ((bytesOf s).take k))) ∧ Aside0 (k ≤ s.size) ∧ Aside0 (validL T ((bytesOf s).take k) = true) ∧ Aside0 (Below w.heap.size w wr)) (fun _ i _ => s.size - (intOf i).toNat)
    case atStart => exact ⟨0, rfl, rfl, ⟨by omega⟩, ⟨rfl⟩, HB1⟩
    case round =>
      clear HB1
      obtain ⟨k, rfl, rfl, HK, HV, HB⟩ := hrel
      have hk := HK.out
      by_cases hlt : k < s.size
      · obtain ⟨B, hB, hB2⟩ := byte_nat s k hlt
        have HTK := Aside0.mk (bytes_take s k hlt)
        have HIN := Aside0.mk (bytes_split s k hlt)
        have hbt := getElem_bt s k hlt
        rw [hB] at hbt HTK HIN
        have HC := Lib.hid (HCH.out B hB2)
        have HOK := Aside0.mk (okP_chP T B)
        have HX := Aside0.mk (pg3_range T B hT hB2)
        have HDL := Aside0.mk (decL_snoc T ((bytesOf s).take k) (B : Int))
        have HCP := Aside0.mk (show chP T B = if 0 ≤ pg3 240 (T * 256 + B) then (pg3 240 (T * 256 + B), true) else (0, false) from rfl)
        rw [Int.toNat_natCast] at HDL
        clear hB HCH
        generalize pg3 240 (T * 256 + B) = x at HX HDL HCP
        have hLl : (decL T (List.take k (bytesOf s))).length ≤ 8192 := by
          have h1 := decL_len T ((bytesOf s).take k)
          have h2 := List.length_take_le k (bytesOf s)
          omega
        generalize decL T (List.take k (bytesOf s)) = L at *
        by_cases h0 : 0 ≤ x
        · rw [HCP.out, if_pos h0] at HC HOK
          have hx1 : x ≤ 1103 := HX.out.2
          obtain ⟨X, rfl⟩ : ∃ B : Nat, x = B := Int.eq_ofNat_of_zero_le h0
          have HE := Aside0.mk (enc_eq X (by omega))
          have hsz : ¬ 9223372036854775807 < (strOfNums L).size + (Utf8.encode (X : Int)).size := by
            rw [HE.out, strOfNums_size, strOfNums_size]
            have := encZ_le (X : Int)
            omega
          clear hLl
          go_wp2_with (go_at_call 24; refine (HC.out _).mono ?_; rintro e w2 ⟨rfl, ⟨⟨n2, rfl⟩⟩⟩)
          go_roundw
          case rel =>
            refine ⟨k + 1, by go_num, ?_, ⟨by omega⟩, ⟨by rw [HTK.out]; unfold validL; rw [List.all_append]; unfold validL at HV; rw [HV.out]; simp [HOK.out]⟩, ⟨pw_below_drewN HB.out _⟩⟩
            rw [HTK.out, HDL.out, HE.out]
            simp [strOf_append]
          case measure => simp [intOf]; omega
        · rw [HCP.out, if_neg h0] at HC HOK
          have HVF : Aside0 (validL T (bytesOf s) = false) := ⟨by rw [HIN.out]; unfold validL; rw [List.all_append, List.all_cons, HOK.out]; simp⟩
          have HRV : Aside0 (R = (⟨#[]⟩, 2)) := ⟨by rw [HR.out, if_neg]; rw [HVF.out]; simp⟩
          go_wp2_with (go_at_call 24; refine (HC.out _).mono ?_; rintro e w2 ⟨rfl, ⟨⟨n2, rfl⟩⟩⟩)
          go_ret2
          exact ⟨by rw [HRV.out]; rfl, pw_below_drewN HB.out _⟩
      · have hke : k = s.size := by omega
        subst hke
        have HVT : Aside0 (validL T (bytesOf s) = true) := ⟨by
          have := HV.out
          rwa [bytes_all] at this⟩
        have HRV : Aside0 (R = (strOfNums (decL T (bytesOf s)), 0)) := ⟨by rw [HR.out, if_pos HVT.out]⟩
        have HTA := Aside0.mk (bytes_all s)
        go_wp2
        go_ret2
        refine ⟨?_, HB.out⟩
        rw [HRV.out]
        show Ending.returned (.tuple #[.string (strOfNums (decL T ((bytesOf s).take s.size))), _]) = _
        rw [HTA.out]
        rfl
  · rw [if_neg h]
    have hb : (askP s.size p != 0) = true := bne_iff_ne.2 h
    clear h
    generalize askP s.size p = q at HA hb ⊢
    go_enter Tryd.func10, Tryd.ntmps10
    go_wp2_with (go_at_call 19; refine (HA.out _).mono ?_; rintro e w1 ⟨rfl, ⟨⟨n1, rfl⟩⟩⟩)
    go_ret2
    exact ⟨rfl, pw_below_drewN (below_alloc (below_alloc (Below.refl _ _) _) _) _⟩
end Go.Proofs.YtmjldihmcbjfhaaDoor.H
