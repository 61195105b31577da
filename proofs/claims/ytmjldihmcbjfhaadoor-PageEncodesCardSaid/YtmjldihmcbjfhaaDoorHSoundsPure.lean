/-
  The code of sounds of a text: the reference's loops answer the same as a fold over the bytes. Plain Lean, no program in sight.
-/
import Derived.Test.YtmjldihmcbjfhaaDoorHPage
namespace Go.Proofs.YtmjldihmcbjfhaaDoor.H
open Go.RowKit Go.Proofs.YtmjldihmcbjfhaaDoorW.PrintWords Go.Proofs.YtmjldihmcbjfhaaDoorW.PrintLast Go.Proofs.YtmjldihmcbjfhaaDoorW.PrintMore Go.Proofs.YtmjldihmcbjfhaaDoor.PPageEncodes
set_option linter.unusedVariables false
set_option linter.unusedSimpArgs false

def dig (c : Int) : Int := ((page_digitOf.f 6 c).getD 0)
theorem dig_eq (c : Int) : page_digitOf.f 6 c = some (dig c) := some_of_isSome _ (by
  unfold page_digitOf.f
  repeat first | exact rfl | unfold page_digitOf.j0 | unfold page_digitOf.j1 | unfold page_digitOf.j2 | unfold page_digitOf.j3 | refine isSome_ite ?_ ?_ | refine isSome_bind ?_ (fun _ => ?_))

def sndStep (st : List Int × Int) (b : Int) : List Int × Int :=
  if isL b 0 = true then
    if st.1 = [] then ([up b 0], max (dig (up b 0)) 0)
    else if dig (up b 0) < 0 then st
    else if 0 < dig (up b 0) ∧ dig (up b 0) ≠ st.2 ∧ st.1.length < 4 then (st.1 ++ [(48 + dig (up b 0)) % 256], dig (up b 0))
    else (st.1, dig (up b 0))
  else st
def sndPad (l : List Int) : List Int := if l = [] then [] else l ++ List.replicate (4 - l.length) 48
def snd (s : ByteArray) : ByteArray := strOfNums (sndPad ((bytesOf s).foldl sndStep ([], 0)).1)

theorem up_range (b : Fin 256) : 0 ≤ up b.val 0 ∧ up b.val 0 ≤ 255 := by
  revert b; decide +kernel
theorem dig_range (b : Fin 256) : -1 ≤ dig b.val ∧ dig b.val ≤ 6 := by
  revert b; decide +kernel

theorem bt_range' (s : ByteArray) (i : Int) : ∃ b : Fin 256, bt s i = (b.val : Int) := by
  obtain ⟨h0, h1⟩ := bt_range s i
  exact ⟨⟨(bt s i).toNat, by omega⟩, by simp only; omega⟩
theorem up_fin (b : Fin 256) : ∃ c : Fin 256, up b.val 0 = (c.val : Int) := by
  obtain ⟨h0, h1⟩ := up_range b
  exact ⟨⟨(up b.val 0).toNat, by omega⟩, by simp only; omega⟩
theorem strOf_nil (xs : List Int) : ((strOfNums xs).toList = ([] : List UInt8)) = (xs = []) := by
  rw [ByteArray.toList_eq, strOfNums_data]
  simp
theorem strOf_append (xs ys : List Int) : strOfNums xs ++ strOfNums ys = strOfNums (xs ++ ys) := by
  apply ByteArray.ext
  apply Array.toList_inj.1
  rw [ByteArray.data_append, Array.toList_append, strOfNums_data, strOfNums_data, strOfNums_data, List.map_append]

theorem drop_bytes (s : ByteArray) (i : Nat) (h : i < s.size) : (bytesOf s).drop i = bt s i :: (bytesOf s).drop (i + 1) := by
  have hl : i < (bytesOf s).length := by rw [bytesOf_length]; exact h
  rw [List.drop_eq_getElem_cons hl]
  congr 1
  have := rd_bytesOf s i
  simp only [rd, Int.toNat_natCast, List.getD_eq_getElem?_getD, List.getElem?_eq_getElem hl, Option.getD_some] at this
  exact this
theorem wrap_succ (i : Nat) (h : (i : Int) < 9223372036854775807) : wrap64 ((i : Int) + 1) = ((i + 1 : Nat) : Int) := by
  unfold wrap64; omega
theorem sndStep_len (st : List Int × Int) (b : Int) (h : st.1.length ≤ 4) : (sndStep st b).1.length ≤ 4 := by
  unfold sndStep
  repeat' split
  all_goals first | exact h | (simp; done) | (simp; omega)
def soundF (s : ByteArray) : ByteArray × Int := if askP s.size 0 = 0 then (snd s, 0) else (⟨#[]⟩, askP s.size 0)
end Go.Proofs.YtmjldihmcbjfhaaDoor.H
