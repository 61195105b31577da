/-
  The code of sounds of a text: the reference's loops answer the same as a fold over the bytes. Plain Lean, no program in sight.
-/
import Derived.Test.YtmjldihmcbjfhaaHPage
import Derived.Test.YtmjldihmcbjfhaaPPageSoundsx5
namespace Go.Proofs.Ytmjldihmcbjfhaa.H
open Go.RowKit Go.Proofs.YtmjldihmcbjfhaaW.PrintWords Go.Proofs.YtmjldihmcbjfhaaW.PrintLast Go.Proofs.YtmjldihmcbjfhaaW.PrintMore Go.Proofs.Ytmjldihmcbjfhaa.PPageCases
set_option linter.unusedVariables false
set_option linter.unusedSimpArgs false

def dig (c : Int) : Int := ((page_digitOf.f 6 c).getD 0)
theorem dig_eq (c : Int) : page_digitOf.f 6 c = some (dig c) := some_of_isSome _ (by
  unfold page_digitOf.f
  repeat first | exact rfl | unfold page_digitOf.j0 | unfold page_digitOf.j1 | unfold page_digitOf.j2 | unfold page_digitOf.j3 | refine isSome_ite ?_ ?_ | refine isSome_bind ?_ (fun _ => ?_))

def sndStep (st : List Int × Int) (b : Int) : List Int × Int :=
  if isL b 0 = true then
    if st.1 = [] then ([up b 0], max (dig (up b 0)) 0)
    else if dig (up b 0) < 0 then st
    else if 0 < dig (up b 0) ∧ dig (up b 0) ≠ st.2 ∧ st.1.length < 4 then (st.1 ++ [(48 + dig (up b 0)) % 256], dig (up b 0))
    else (st.1, dig (up b 0))
  else st
def sndPad (l : List Int) : List Int := if l = [] then [] else l ++ List.replicate (4 - l.length) 48
def snd (s : ByteArray) : ByteArray := strOfNums (sndPad ((bytesOf s).foldl sndStep ([], 0)).1)

theorem ref_isL (b : Fin 256) : PPageSounds.cabinetryref02_IsLetter.f 20 (b.val : Int) 0 = some (isL b.val 0) := by
  revert b; decide +kernel
theorem ref_up (b : Fin 256) : PPageSounds.cabinetryref02_upper.f 20 (b.val : Int) 0 = some (up b.val 0) := by
  revert b; decide +kernel
theorem ref_dig (b : Fin 256) : PPageSounds.cabinetryref02_digit.f 60 (b.val : Int) = some (dig b.val) := by
  revert b; decide +kernel
theorem up_range (b : Fin 256) : 0 ≤ up b.val 0 ∧ up b.val 0 ≤ 255 := by
  revert b; decide +kernel
theorem dig_range (b : Fin 256) : -1 ≤ dig b.val ∧ dig b.val ≤ 6 := by
  revert b; decide +kernel

open PPageSounds
theorem bt_range' (s : ByteArray) (i : Int) : ∃ b : Fin 256, bt s i = (b.val : Int) := by
  obtain ⟨h0, h1⟩ := bt_range s i
  exact ⟨⟨(bt s i).toNat, by omega⟩, by simp only; omega⟩
theorem up_fin (b : Fin 256) : ∃ c : Fin 256, up b.val 0 = (c.val : Int) := by
  obtain ⟨h0, h1⟩ := up_range b
  exact ⟨⟨(up b.val 0).toNat, by omega⟩, by simp only; omega⟩
theorem isL_at (s : ByteArray) (i : Int) (k : Nat) (hk : 60 ≤ k) : cabinetryref02_IsLetter.f k (bt s i) 0 = some (isL (bt s i) 0) := by
  obtain ⟨b, hb⟩ := bt_range' s i
  rw [hb]; exact at_rounds (cabinetryref02_IsLetter.mono _ _) (by omega) (ref_isL b)
theorem up_at (s : ByteArray) (i : Int) (k : Nat) (hk : 60 ≤ k) : cabinetryref02_upper.f k (bt s i) 0 = some (up (bt s i) 0) := by
  obtain ⟨b, hb⟩ := bt_range' s i
  rw [hb]; exact at_rounds (cabinetryref02_upper.mono _ _) (by omega) (ref_up b)
theorem dig_at (s : ByteArray) (i : Int) (k : Nat) (hk : 60 ≤ k) : cabinetryref02_digit.f k (up (bt s i) 0) = some (dig (up (bt s i) 0)) ∧ -1 ≤ dig (up (bt s i) 0) ∧ dig (up (bt s i) 0) ≤ 6 := by
  obtain ⟨b, hb⟩ := bt_range' s i
  rw [hb]
  obtain ⟨c, hc⟩ := up_fin b
  rw [hc]; exact ⟨at_rounds (cabinetryref02_digit.mono _) hk (ref_dig c), dig_range c⟩

theorem strOf_nil (xs : List Int) : ((strOfNums xs).toList = ([] : List UInt8)) = (xs = []) := by
  rw [ByteArray.toList_eq, strOfNums_data]
  simp
theorem strOf_append (xs ys : List Int) : strOfNums xs ++ strOfNums ys = strOfNums (xs ++ ys) := by
  apply ByteArray.ext
  apply Array.toList_inj.1
  rw [ByteArray.data_append, Array.toList_append, strOfNums_data, strOfNums_data, strOfNums_data, List.map_append]

theorem ref_pad (xs : List Int) (n : Nat) (hx : 4 - xs.length = n) : ∀ k, n < k → cabinetryref02_Sound.l1 k (strOfNums xs) = some (strOfNums (sndPad xs), 0) := by
  induction n generalizing xs with
  | zero =>
    intro k hk
    obtain ⟨k, rfl⟩ : ∃ m, k = m + 1 := ⟨k - 1, by omega⟩
    have hne : ¬ xs = [] := by intro e; rw [e] at hx; simp at hx
    simp only [cabinetryref02_Sound.l1, strOf_nil, strOfNums_size]
    rw [if_neg hne, if_neg (by omega)]
    unfold sndPad
    rw [if_neg hne, hx]
    simp
  | succ n ih =>
    intro k hk
    obtain ⟨k, rfl⟩ : ∃ m, k = m + 1 := ⟨k - 1, by omega⟩
    simp only [cabinetryref02_Sound.l1, strOf_nil, strOfNums_size]
    by_cases hne : xs = []
    · rw [if_pos hne]; unfold sndPad; rw [if_pos hne, hne]
    · rw [if_neg hne, if_pos (by omega), if_pos (by omega)]
      have h48 : (⟨#[48]⟩ : ByteArray) = strOfNums [48] := rfl
      rw [h48, strOf_append, ih (xs ++ [48]) (by simp; omega) k (by omega)]
      unfold sndPad
      rw [if_neg (by simp), if_neg hne, hx, List.append_assoc]
      congr 4
      rw [List.replicate_succ]
      congr 2
      simp; omega

theorem drop_bytes (s : ByteArray) (i : Nat) (h : i < s.size) : (bytesOf s).drop i = bt s i :: (bytesOf s).drop (i + 1) := by
  have hl : i < (bytesOf s).length := by rw [bytesOf_length]; exact h
  rw [List.drop_eq_getElem_cons hl]
  congr 1
  have := rd_bytesOf s i
  simp only [rd, Int.toNat_natCast, List.getD_eq_getElem?_getD, List.getElem?_eq_getElem hl, Option.getD_some] at this
  exact this
theorem wrap_succ (i : Nat) (h : (i : Int) < 9223372036854775807) : wrap64 ((i : Int) + 1) = ((i + 1 : Nat) : Int) := by
  unfold wrap64; omega
theorem sndStep_len (st : List Int × Int) (b : Int) (h : st.1.length ≤ 4) : (sndStep st b).1.length ≤ 4 := by
  unfold sndStep
  repeat' split
  all_goals first | exact h | (simp; done) | (simp; omega)
theorem ref_loop (s : ByteArray) (hs : s.size ≤ 2048) (n : Nat) : ∀ (k i : Nat) (xs : List Int) (last : Int), i ≤ s.size → s.size - i = n → n + 70 < k → xs.length ≤ 4 →
    cabinetryref02_Sound.l0 k s (strOfNums xs) last (i : Int) = some (strOfNums (sndPad (((bytesOf s).drop i).foldl sndStep (xs, last)).1), 0) := by
  induction n with
  | zero =>
    intro k i xs last hi hn hk hx
    obtain ⟨k, rfl⟩ : ∃ m, k = m + 1 := ⟨k - 1, by omega⟩
    simp only [cabinetryref02_Sound.l0]
    rw [if_neg (by omega), List.drop_eq_nil_of_le (by rw [bytesOf_length]; omega)]
    exact ref_pad xs _ rfl k (by omega)
  | succ n ih =>
    intro k i xs last hi hn hk hx
    obtain ⟨k, rfl⟩ : ∃ m, k = m + 1 := ⟨k - 1, by omega⟩
    have hlt : i < s.size := by omega
    rw [drop_bytes s i hlt, List.foldl_cons]
    simp only [cabinetryref02_Sound.l0]
    rw [if_pos (by omega), if_pos (by omega), isL_at s i k (by omega)]
    simp only [Option.bind_some]
    have hw := wrap_succ i (by omega)
    by_cases hl : isL (bt s i) 0 = true
    · rw [if_pos hl, up_at s i k (by omega)]
      obtain ⟨hd, hd1, hd2⟩ := dig_at s i k (by omega)
      simp only [Option.bind_some]
      rw [hd]
      simp only [Option.bind_some, strOf_nil, strOfNums_size, hw]
      have hst : sndStep (xs, last) (bt s i) = if xs = [] then ([up (bt s i) 0], max (dig (up (bt s i) 0)) 0) else if dig (up (bt s i) 0) < 0 then (xs, last)
          else if 0 < dig (up (bt s i) 0) ∧ dig (up (bt s i) 0) ≠ last ∧ xs.length < 4 then (xs ++ [(48 + dig (up (bt s i) 0)) % 256], dig (up (bt s i) 0)) else (xs, dig (up (bt s i) 0)) := by
        unfold sndStep; rw [if_pos hl]
      rw [hst]
      generalize up (bt s i) 0 = c at hd1 hd2 ⊢
      generalize dig c = d at hd1 hd2 ⊢
      by_cases h1 : xs = []
      · rw [if_pos h1, if_pos h1, ih k (i + 1) [c] (mx d 0) (by omega) (by omega) (by omega) (by simp)]
        rw [show mx d 0 = max d 0 from by unfold mx; omega]
      · rw [if_neg h1, if_neg h1]
        by_cases h2 : d < 0
        · rw [if_pos h2, if_pos h2, ih k (i + 1) xs last (by omega) (by omega) (by omega) hx]
        · rw [if_neg h2, if_neg h2]
          by_cases h3 : 0 < d
          · rw [if_pos (show d > 0 from h3)]
            by_cases h4 : d = last
            · rw [if_pos h4, if_neg (by omega), ih k (i + 1) xs d (by omega) (by omega) (by omega) hx]
            · rw [if_neg h4]
              by_cases h5 : xs.length < 4
              · rw [if_pos (by omega), if_pos (by simp; omega), if_pos ⟨h3, h4, h5⟩, strOf_append]
                rw [show wrap64 (48 + d) = 48 + d from by unfold wrap64; omega]
                rw [ih k (i + 1) _ d (by omega) (by omega) (by omega) (by simp; omega)]
              · rw [if_neg (by omega), if_neg (by omega), ih k (i + 1) xs d (by omega) (by omega) (by omega) hx]
          · rw [if_neg (show ¬ d > 0 from h3), if_neg (by omega), ih k (i + 1) xs d (by omega) (by omega) (by omega) hx]
    · have hst : sndStep (xs, last) (bt s i) = (xs, last) := by unfold sndStep; rw [if_neg hl]
      rw [if_neg hl, hw, hst]
      exact ih k (i + 1) xs last (by omega) (by omega) (by omega) hx
def soundF (s : ByteArray) : ByteArray × Int := if askP s.size 0 = 0 then (snd s, 0) else (⟨#[]⟩, askP s.size 0)
theorem ref_sound (s : ByteArray) : ∃ k, cabinetryref02_Sound.f k s = some (soundF s) := by
  refine ⟨s.size + 72, ?_⟩
  unfold cabinetryref02_Sound.f soundF
  by_cases h : (s.size : Int) > 2048
  · have : askP s.size 0 = 3 := by unfold askP; rw [if_pos h]
    rw [if_pos h, this, if_neg (by omega)]
  · have : askP s.size 0 = 0 := by unfold askP; rw [if_neg h, if_neg (by omega), if_neg (by omega)]
    rw [if_neg h, this, if_pos rfl]
    exact ref_loop s (by omega) s.size (s.size + 72) 0 [] 0 (by omega) (by omega) (by omega) (by simp)
end Go.Proofs.Ytmjldihmcbjfhaa.H
