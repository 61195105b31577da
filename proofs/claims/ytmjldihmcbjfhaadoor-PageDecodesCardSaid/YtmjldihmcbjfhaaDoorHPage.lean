/-
  The functions of package page that the machine's print does not take: what each call answers, and that memory that was there stays as it was.
-/
import Derived.Test.YtmjldihmcbjfhaaDoorHBuf
import Derived.Test.YtmjldihmcbjfhaaDoorPPageEncodesx1
import Derived.Test.YtmjldihmcbjfhaaDoorPPageEncodesx2
import Derived.Test.YtmjldihmcbjfhaaDoorPPageEncodesx3
namespace Go.Proofs.YtmjldihmcbjfhaaDoor.H
open Go.RowKit Go.Proofs.YtmjldihmcbjfhaaDoorW.PrintWords Go.Proofs.YtmjldihmcbjfhaaDoorW.PrintLast Go.Proofs.YtmjldihmcbjfhaaDoorW.PrintMore Go.Proofs.YtmjldihmcbjfhaaDoor.PPageEncodes
set_option linter.unusedVariables false
set_option linter.unusedSimpArgs false

/-! ### the errors -/
def askP (n : Int) (p : Int) : Int := if n > 2048 then 3 else if p < 0 then 1 else if p > 2 then 1 else 0
theorem asked_f (s : ByteArray) (p : Int) : page_asked.f 4 p [s] = some (askP s.size p) := by
  unfold page_asked.f askP
  simp only [page_asked.l0, rdOf, wrap64]
  simp
  split
  · rfl
  · split
    · rfl
    · split <;> rfl
theorem C_str1 (w : World) (s : ByteArray) : Kd.C Kd.string (w.alloc (.cells #[.string s] 9)) (some ⟨w.heap.size, 0, none⟩) 1 [s] := by
  refine ⟨rfl, by decide, fun _ => ⟨_, rfl, fun j p hj => ⟨[.string p], rfl, rfl, fun i u hu => ?_⟩⟩⟩
  have hj0 : j = 0 := by
    have := (List.getElem?_eq_some_iff.1 hj).1
    simp at this; exact this
  subst hj0
  have hp : s = p := by simpa using hj
  subst hp
  cases i with
  | zero =>
    have : Value.string s = u := by simpa using hu
    subst this
    show (w.alloc _).cell? ⟨w.heap.size, 0, none⟩ = _
    rw [cell_of_row _ _ _ _ _ _ (heap_alloc_new w _)]
    rfl
  | succ i => simp at hu
theorem asked_one (s : ByteArray) (p : Int) (w : World) :
    Calls Tryd.prog 21 #[.int .i64 p, .slice (some ⟨w.heap.size, 0, none⟩) 1 1] (w.alloc (.cells #[.string s] 9)) fun e w' => e = .returned (.int .i64 (askP s.size p)) ∧ Drawn0 (w.alloc (.cells #[.string s] 9)) w' :=
  page_asked.calls 4 p _ 1 [s] _ _ (C_str1 w s) (Nat.le_refl _) (asked_f s p)

/-! ### bytes -/
def up (b p : Int) : Int := ((page_upper.f 5 b p).getD 0)
def isL (b p : Int) : Bool := ((page_isLetter.f 5 b p).getD false)
def wt (b p c : Int) : Int := ((page_weight.f 6 b p c).getD 0)
theorem isSome_bind {α β : Type} {a : Option α} {f : α → Option β} (h : a.isSome = true) (k : ∀ x, (f x).isSome = true) : (a.bind f).isSome = true := by
  cases a with
  | none => simp at h
  | some x => simpa using k x
theorem isSome_ite {α : Type} {c : Prop} [Decidable c] {a b : Option α} (h : a.isSome = true) (k : b.isSome = true) : (if c then a else b).isSome = true := by
  split
  · exact h
  · exact k
theorem some_of_isSome {α : Type} {a : Option α} (d : α) (h : a.isSome = true) : a = some (a.getD d) := by
  cases a with
  | none => simp at h
  | some x => rfl
theorem within_some (a b c : Int) : (page_within.f a b c).isSome = true := by
  unfold page_within.f
  exact isSome_ite rfl rfl
theorem capital_j0_some (k : Nat) (a b : Int) (x : Bool) : (page_capital.j0 (k + 1) a b x).isSome = true := by
  unfold page_capital.j0
  repeat first | exact rfl | exact within_some _ _ _ | refine isSome_ite ?_ ?_ | refine isSome_bind ?_ (fun _ => ?_)
theorem capital_some (k : Nat) (a b : Int) : (page_capital.f (k + 1) a b).isSome = true := by
  unfold page_capital.f
  repeat first | exact rfl | exact within_some _ _ _ | exact capital_j0_some _ _ _ _ | refine isSome_ite ?_ ?_ | refine isSome_bind ?_ (fun _ => ?_)
theorem isCapital_some (a b : Int) : (page_isCapital.f a b).isSome = true := by
  unfold page_isCapital.f
  repeat first | exact rfl | exact within_some _ _ _ | refine isSome_ite ?_ ?_ | refine isSome_bind ?_ (fun _ => ?_)
theorem isL_eq (b p : Int) : page_isLetter.f 5 b p = some (isL b p) := some_of_isSome _ (by
  unfold page_isLetter.f
  repeat first | exact rfl | exact capital_some _ _ _ | exact isCapital_some _ _ | refine isSome_ite ?_ ?_ | refine isSome_bind ?_ (fun _ => ?_))
theorem up_eq (b p : Int) : page_upper.f 5 b p = some (up b p) := some_of_isSome _ (by
  unfold page_upper.f
  repeat first | exact rfl | exact capital_some _ _ _ | refine isSome_ite ?_ ?_ | refine isSome_bind ?_ (fun _ => ?_))
theorem up_call (b p : Int) (w : World) : Calls Tryd.prog 26 #[.int .u8 b, .int .i64 p] w fun e w' => e = .returned (.int .u8 (up b p)) ∧ Drawn0 w w' :=
  page_upper.calls 5 b p _ w (up_eq b p)
theorem isL_call (b p : Int) (w : World) : Calls Tryd.prog 29 #[.int .u8 b, .int .i64 p] w fun e w' => e = .returned (.bool (isL b p)) ∧ Drawn0 w w' :=
  page_isLetter.calls 5 b p _ w (isL_eq b p)
end Go.Proofs.YtmjldihmcbjfhaaDoor.H
