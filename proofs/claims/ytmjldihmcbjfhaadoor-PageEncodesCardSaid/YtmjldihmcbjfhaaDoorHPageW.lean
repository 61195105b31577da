/-
  The walks of the functions of package page that change texts byte by byte: mapped with a function that computes, weights, and what calls them.
-/
import Derived.Test.YtmjldihmcbjfhaaDoorHPage
namespace Go.Proofs.YtmjldihmcbjfhaaDoor.H
open Go.RowKit Go.Proofs.YtmjldihmcbjfhaaDoorW.PrintWords Go.Proofs.YtmjldihmcbjfhaaDoorW.PrintLast Go.Proofs.YtmjldihmcbjfhaaDoorW.PrintMore Go.Proofs.YtmjldihmcbjfhaaDoor.PPageEncodes
set_option linter.unusedVariables false
set_option linter.unusedSimpArgs false

/-- The list in which the first k numbers are changed. -/
def part (g : Int → Int) (xs : List Int) (k : Nat) : List Int := (xs.take k).map g ++ xs.drop k
theorem part_zero (g : Int → Int) (xs : List Int) : part g xs 0 = xs := by simp [part]
theorem part_all (g : Int → Int) (xs : List Int) : part g xs xs.length = xs.map g := by simp [part]
theorem part_length (g : Int → Int) (xs : List Int) (k : Nat) : (part g xs k).length = xs.length := by
  simp [part]; omega
theorem part_get (g : Int → Int) (xs : List Int) (k : Nat) (hk : k < xs.length) : (part g xs k).getD k 0 = xs.getD k 0 := by
  have h : ((xs.take k).map g).length = k := by simp; omega
  simp only [part, List.getD_eq_getElem?_getD]
  rw [List.getElem?_append_right (by omega), h, Nat.sub_self, List.getElem?_drop, Nat.add_zero]
theorem part_succ (g : Int → Int) (xs : List Int) (k : Nat) (hk : k < xs.length) : (part g xs k).set k (g (xs.getD k 0)) = part g xs (k + 1) := by
  have h : ((xs.take k).map g).length = k := by simp; omega
  simp only [part]
  rw [List.set_append_right _ _ (by omega), h, Nat.sub_self, List.drop_eq_getElem_cons hk, List.set_cons_zero, List.take_succ_eq_append_getElem hk, List.map_append, List.append_assoc]
  simp [List.getD_eq_getElem?_getD, List.getElem?_eq_getElem hk]

set_option maxHeartbeats 1000000 in
theorem mapped_bad (fv : Value) (s : ByteArray) (p : Int) (w : World) (q : Int) (hq : askP s.size p = q) (h0 : (q != 0) = true) :
    Calls Tryd.prog 25 #[.string s, .int .i64 p, fv] w fun e w' => e = .returned (.tuple #[.string ⟨#[]⟩, .int .i64 q]) ∧ Below w.heap.size w w' := by
  have HA := Lib.hid (fun w => hq ▸ asked_one s p w)
  clear hq
  go_enter Tryd.func25, Tryd.ntmps25
  go_wp2_with (go_at_call 21; refine (HA.out _).mono ?_; rintro e w1 ⟨rfl, ⟨⟨n1, rfl⟩⟩⟩)
  go_ret2
  exact ⟨rfl, pw_below_drewN (below_alloc (Below.refl _ _) _) _⟩

set_option maxHeartbeats 1000000 in
theorem mapped_ok (N : Nat) (g : Int → Int) (s : ByteArray) (p : Int) (w : World) (hs : s.size ≤ 2048) (hq : askP s.size p = 0)
    (hcf : ∀ (args : Array Value) (W : World), (callFunc N args).run Tryd.prog W = .ok (.enter N args) W)
    (hN : ∀ (b : Int) (W : World), Calls Tryd.prog N #[.int .u8 b, .int .i64 p] W fun e W' => e = .returned (.int .u8 (g b)) ∧ Drawn0 W W') :
    Calls Tryd.prog 25 #[.string s, .int .i64 p, .func (.func N) #[] #[]] w fun e w' =>
      e = .returned (.tuple #[.string (strOfNums ((bytesOf s).map g)), .int .i64 0]) ∧ Below w.heap.size w w' := by
  have HA := Lib.hid (fun w => hq ▸ asked_one s p w)
  have HN := Lib.hid hN
  have HL := Lib.hid (bytesOf_length s)
  clear hq hN
  have hcv := fun W => print_bytes (P := Tryd.prog) 9 36 5 Tryd.underlying9 Tryd.underlying36 Tryd.underlying5 s W
  go_enter Tryd.func25, Tryd.ntmps25
  go_wp2_with (go_at_call 21; refine (HA.out _).mono ?_; rintro e w1 ⟨rfl, hd⟩; have HD := Aside0.mk hd; clear hd)
  go_loopw [23] (fun i wr => ∃ k : Nat, i = .int .i64 k ∧ Aside0 (k ≤ s.size) ∧ Aside0 (Buf wr w1.heap.size 5 (nums .u8 (part g (bytesOf s) k))) ∧ Aside0 (Below w.heap.size w wr)) (fun i _ => s.size - (intOf i).toNat)
  case atStart =>
    refine ⟨0, rfl, ⟨by omega⟩, ⟨?_⟩, ⟨?_⟩⟩
    · rw [part_zero]; exact buf_bytesWorld _ _ _
    · obtain ⟨n1, rfl⟩ := HD.out.out
      exact bytes_below (pw_below_drewN (below_alloc (Below.refl _ _) _) _) (by simp) _ _
  case round =>
    obtain ⟨k, rfl, HK, HBuf, HB⟩ := hrel
    have hk := HK.out
    have hw1 : w.heap.size ≤ w1.heap.size := by obtain ⟨n1, rfl⟩ := HD.out.out; simp
    by_cases hlt : k < s.size
    · have hc := HBuf.out.int k (by rw [part_length, HL.out]; exact hlt)
      have hf := HBuf.out.frozen k (by simpa [nums, part_length, HL.out] using hlt)
      rw [part_get _ _ _ (by rw [HL.out]; exact hlt)] at hc
      go_wp2_with (with_reducible refine (HN.out _ _).mono ?_; rintro e w2 ⟨rfl, ⟨⟨n2, rfl⟩⟩⟩)
      go_roundw
      case rel =>
        refine ⟨k + 1, by go_num, ⟨by omega⟩, ⟨?_⟩, ⟨?_⟩⟩
        · have h := HBuf.out.set_int k (g ((bytesOf s).getD k 0))
          rw [part_succ _ _ _ (by rw [HL.out]; exact hlt)] at h
          first | exact h | exact h.drewN _
        · first | exact (HB.out.setCell hw1 _).drewN _ | exact pw_below_drewN (HB.out.setCell hw1 _) _
      case measure => simp [intOf]; omega
    · have hke : k = s.size := by omega
      have hstr := HBuf.out.string (src := 36) (dst := 9) (cap := grownCap w1 s.size 0 5) (n := s.size) Tryd.underlying36 Tryd.underlying5 Tryd.underlying9 (by rw [part_length, HL.out])
      rw [hke, ← HL.out, part_all, HL.out] at hstr
      subst hke
      go_wp2
      go_ret2
      exact ⟨rfl, HB.out⟩


def mapF (g : Int → Int → Int) (s : ByteArray) (p : Int) : ByteArray × Int :=
  if askP s.size p = 0 then (strOfNums ((bytesOf s).map (g · p)), 0) else (⟨#[]⟩, askP s.size p)
theorem askP_le {n p : Int} (h : askP n p = 0) : n ≤ 2048 := by
  unfold askP at h
  split at h <;> first | omega | (split at h <;> omega)
theorem mapped_any (N : Nat) (g : Int → Int → Int) (s : ByteArray) (p : Int) (w : World)
    (hcf : ∀ (args : Array Value) (W : World), (callFunc N args).run Tryd.prog W = .ok (.enter N args) W)
    (hN : ∀ (b p : Int) (W : World), Calls Tryd.prog N #[.int .u8 b, .int .i64 p] W fun e W' => e = .returned (.int .u8 (g b p)) ∧ Drawn0 W W') :
    Calls Tryd.prog 25 #[.string s, .int .i64 p, .func (.func N) #[] #[]] w fun e w' =>
      e = .returned (.tuple #[.string (mapF g s p).1, .int .i64 (mapF g s p).2]) ∧ Below w.heap.size w w' := by
  unfold mapF
  by_cases h : askP s.size p = 0
  · rw [if_pos h]
    exact mapped_ok N (g · p) s p w (by have := askP_le h; omega) h hcf (fun b W => hN b p W)
  · rw [if_neg h]
    exact mapped_bad _ s p w _ rfl (bne_iff_ne.2 h)

set_option maxHeartbeats 400000 in
theorem upper_call (s : ByteArray) (p : Int) (w : World) : Calls Tryd.prog 13 #[.string s, .int .i64 p] w fun e w' =>
    e = .returned (.tuple #[.string (mapF up s p).1, .int .i64 (mapF up s p).2]) ∧ Below w.heap.size w w' := by
  have H := mapped_any 26 up s p w (fun args W => by kernel_rfl) up_call
  generalize mapF up s p = r at H ⊢
  have H := Lib.hid H
  go_enter Tryd.func13, Tryd.ntmps13
  go_wp2_with (go_at_call 25; refine H.out.mono ?_; rintro e w1 ⟨rfl, hb⟩; have HB := Aside0.mk hb; clear hb)
  go_ret2
  exact ⟨rfl, HB.out⟩
end Go.Proofs.YtmjldihmcbjfhaaDoor.H
