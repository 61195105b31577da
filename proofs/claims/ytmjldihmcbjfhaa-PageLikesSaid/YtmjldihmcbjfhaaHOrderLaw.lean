/-
  The reference's Weights; arrays of two numbers and of three texts that came in; and the laws on orders: the walks of the laws' functions.
-/
import Derived.Test.YtmjldihmcbjfhaaHOrders
import Derived.ProofKit
import Derived.OpenShut
import Derived.Lib.SmallJoins
namespace Go.Proofs.Ytmjldihmcbjfhaa.H
open Go.RowKit Go.Proofs.YtmjldihmcbjfhaaW.PrintWords Go.Proofs.YtmjldihmcbjfhaaW.PrintLast Go.Proofs.YtmjldihmcbjfhaaW.PrintMore Go.Proofs.Ytmjldihmcbjfhaa.PPageCases
open Go.ChangeShapes Go.WideShapes
set_option linter.unusedVariables false
set_option linter.unusedSimpArgs false

theorem raskedC (s : ByteArray) (p c : Int) (w : World) :
    Calls Try.prog 39 #[.int .i64 2048, .slice (some ⟨w.heap.size, 0, none⟩) 1 1, .int .i64 c, .slice (some ⟨w.heap.size + 1, 0, none⟩) 1 1] ((w.alloc (.cells #[.string s] 9)).alloc (.cells #[.int .i64 p] 3))
      fun e w' => e = .returned (.int .i64 (askC s.size p c)) ∧ Drawn0 ((w.alloc (.cells #[.string s] 9)).alloc (.cells #[.int .i64 p] 3)) w' := rasked_one s p c w
set_option maxHeartbeats 1000000 in
theorem rWeights_bad (s : ByteArray) (p c : Int) (w : World) (q : Int) (hq : askC s.size p c = q) (h0 : (q != 0) = true) :
    Calls Try.prog 15 #[.string s, .int .i64 p, .int .i64 c] w fun e w' => e = .returned (.tuple #[.string ⟨#[]⟩, .int .i64 q]) ∧ Below w.heap.size w w' := by
  have HA := Lib.hid (fun w => hq ▸ rasked_one s p c w)
  clear hq
  go_enter Try.func15, Try.ntmps15
  go_wp2_with (go_at_call 39; refine (HA.out _).mono ?_; rintro e w1 ⟨rfl, ⟨⟨n1, rfl⟩⟩⟩)
  go_ret2
  exact ⟨rfl, pw_below_drewN (below_alloc (below_alloc (Below.refl _ _) _) _) _⟩
set_option maxHeartbeats 2000000 in
theorem rWeights_ok (s : ByteArray) (p c : Int) (w : World) (hs : s.size ≤ 2048) (hq : askC s.size p c = 0) :
    Calls Try.prog 15 #[.string s, .int .i64 p, .int .i64 c] w fun e w' =>
      e = .returned (.tuple #[.string (strOfNums ((bytesOf s).map (wt · p c))), .int .i64 0]) ∧ Below w.heap.size w w' := by
  have HA := Lib.hid (fun w => hq ▸ rasked_one s p c w)
  have HN : Hid (∀ (k : Nat) W, Calls Try.prog 40 #[.int .u8 ((bytesOf s).getD k 0), .int .i64 p, .int .i64 c] W fun e w' => e = .returned (.int .u8 (wt ((bytesOf s).getD k 0) p c)) ∧ Drawn0 W w') := Lib.hid (fun k W => by
    obtain ⟨⟨q, rfl⟩, d, rfl⟩ := askC_page hq
    have := rwt_at s k q d 24 (Nat.le_refl _)
    rw [bt_getD] at this
    exact PPageOrders.cabinetryref02_weight.calls 24 _ _ _ _ W this)
  have HL := Lib.hid (bytesOf_length s)
  clear hq
  obtain ⟨g, hg⟩ : ∃ g : Int → Int, g = fun b => wt b p c := ⟨_, rfl⟩
  have HN' : Hid (∀ (k : Nat) W, Calls Try.prog 40 #[.int .u8 ((bytesOf s).getD k 0), .int .i64 p, .int .i64 c] W fun e w' => e = .returned (.int .u8 (g ((bytesOf s).getD k 0))) ∧ Drawn0 W w') := by rw [hg]; exact HN
  rw [← hg]
  clear hg HN
  have hcv := fun W => print_bytes (P := Try.prog) 9 44 5 Try.underlying9 Try.underlying44 Try.underlying5 s W
  go_enter Try.func15, Try.ntmps15
  go_wp2_with (go_at_call 39; refine (HA.out _).mono ?_; rintro e w1 ⟨rfl, hd⟩; have HD := Aside0.mk hd; clear hd)
  have hw1 : w.heap.size ≤ w1.heap.size := by obtain ⟨n1, rfl⟩ := HD.out.out; simp; omega
  have HB1 : Aside0 (Below w.heap.size w (Lib.bytesWorld w1 5 s)) := ⟨by
    obtain ⟨n1, rfl⟩ := HD.out.out
    exact bytes_below (pw_below_drewN (below_alloc (below_alloc (Below.refl _ _) _) _) _) (by simp; omega) _ _⟩
  clear HD
  go_loopw [10] (fun i wr => ∃ k : Nat, i = .int .i64 k ∧ Aside0 (k ≤ s.size) ∧ Aside0 (Buf wr w1.heap.size 5 (nums .u8 (part g (bytesOf s) k))) ∧ Aside0 (Below w.heap.size w wr)) (fun i _ => s.size - (intOf i).toNat)
  case atStart =>
    refine ⟨0, rfl, ⟨by omega⟩, ⟨?_⟩, HB1⟩
    rw [part_zero]; exact buf_bytesWorld _ _ _
  case round =>
    obtain ⟨k, rfl, HK, HBuf, HB⟩ := hrel
    have hk := HK.out
    by_cases hlt : k < s.size
    · have hx := HBuf.out.int k (by rw [part_length, HL.out]; exact hlt)
      have hf := HBuf.out.frozen k (by simpa [nums, part_length, HL.out] using hlt)
      rw [part_get _ _ _ (by rw [HL.out]; exact hlt)] at hx
      have hbt := getElem_bt s k hlt
      have HNk := Lib.hid (HN'.out k)
      have HST : Aside0 (Buf (wr.setCell ⟨w1.heap.size, k, none⟩ (.int .u8 (g ((bytesOf s).getD k 0)))) w1.heap.size 5 (nums .u8 (part g (bytesOf s) (k + 1)))) := ⟨by
        have h := HBuf.out.set_int k (g ((bytesOf s).getD k 0))
        rw [part_succ g _ _ (by rw [HL.out]; exact hlt)] at h
        exact h⟩
      clear HN'
      generalize (bytesOf s).getD k 0 = b at hx hbt HNk HST
      go_wp2_with (go_at_call 40; refine (HNk.out _).mono ?_; rintro e w2 ⟨rfl, ⟨⟨n2, rfl⟩⟩⟩)
      go_roundw
      case rel => exact ⟨k + 1, by go_num, ⟨by omega⟩, ⟨HST.out.drewN _⟩, ⟨pw_below_drewN (HB.out.setCell hw1 _) _⟩⟩
      case measure => simp [intOf]; omega
    · have hke : k = s.size := by omega
      have hstr := HBuf.out.string (src := 44) (dst := 9) (cap := grownCap w1 s.size 0 5) (n := s.size) Try.underlying44 Try.underlying5 Try.underlying9 (by rw [part_length, HL.out])
      rw [hke, ← HL.out, part_all, HL.out] at hstr
      subst hke
      go_wp2
      go_ret2
      exact ⟨rfl, HB.out⟩
theorem rWeights_call (s : ByteArray) (p c : Int) (w : World) : Calls Try.prog 15 #[.string s, .int .i64 p, .int .i64 c] w fun e w' =>
    e = .returned (.tuple #[.string (weightsF s p c).1, .int .i64 (weightsF s p c).2]) ∧ Below w.heap.size w w' := by
  unfold weightsF
  by_cases h : askC s.size p c = 0
  · rw [if_pos h]
    exact rWeights_ok s p c w (by have := askC_le h; omega) h
  · rw [if_neg h]
    exact rWeights_bad s p c w _ rfl (bne_iff_ne.2 h)

/-! ### arrays that came in -/
theorem cells_a2 : Try.prog.cellsOf 27 = 2 := by kernel_rfl
theorem cells_a3 : Try.prog.cellsOf 32 = 3 := by kernel_rfl
theorem cells_int : Try.prog.cellsOf 3 = 1 := by kernel_rfl
theorem cells_str : Try.prog.cellsOf 9 = 1 := by kernel_rfl
theorem open_ints2 {T : Type} {enc : TypeId × Value → T} {W : World} {r : Reach} {b0 base : Nat} {spare : Nat → Bool} {held : Bool} {v : Value} {d : DataW T} {p : List MemPlace}
    (hv : Value.okWide Try.prog W r b0 27 v) (h : DataW.Trod enc Try.prog W base spare held 27 v d p) : ∃ a b : Int, v = .agg #[.int .i64 a, .int .i64 b] := by
  simp only [Value.okWide, Try.underlying27] at hv
  obtain ⟨cs, rfl, hsz, _⟩ := hv
  obtain ⟨c0, c1, rfl⟩ := Joins.array2 (hsz.trans cells_a2)
  obtain ⟨fuel, hf⟩ := h
  obtain ⟨xs, m, _, _, _, hl, he⟩ := DataW.trod_array Try.underlying27 hf
  have h0 := he 0 (by omega)
  have h1 := he 1 (by omega)
  match xs, hl with
  | [x0, x1], _ =>
    simp only [cells_int, Value.cells] at h0 h1
    obtain ⟨a, e0, _⟩ := DataW.trod_int Try.underlying3 (x := x0) (by simpa using h0)
    obtain ⟨b, e1, _⟩ := DataW.trod_int Try.underlying3 (x := x1) (by simpa using h1)
    simp at e0 e1
    exact ⟨a, b, by rw [e0, e1]⟩
theorem open_strs3 {T : Type} {enc : TypeId × Value → T} {W : World} {r : Reach} {b0 base : Nat} {spare : Nat → Bool} {held : Bool} {v : Value} {d : DataW T} {p : List MemPlace}
    (hv : Value.okWide Try.prog W r b0 32 v) (h : DataW.Trod enc Try.prog W base spare held 32 v d p) : ∃ a b c : ByteArray, v = .agg #[.string a, .string b, .string c] := by
  simp only [Value.okWide, Try.underlying32] at hv
  obtain ⟨cs, rfl, hsz, _⟩ := hv
  obtain ⟨c0, c1, c2, rfl⟩ := Joins.array3 (hsz.trans cells_a3)
  obtain ⟨fuel, hf⟩ := h
  obtain ⟨xs, m, _, _, _, hl, he⟩ := DataW.trod_array Try.underlying32 hf
  have h0 := he 0 (by omega)
  have h1 := he 1 (by omega)
  have h2 := he 2 (by omega)
  match xs, hl with
  | [x0, x1, x2], _ =>
    simp only [cells_str, Value.cells] at h0 h1 h2
    obtain ⟨a, e0, _⟩ := DataW.trod_string Try.underlying9 (x := x0) (by simpa using h0)
    obtain ⟨b, e1, _⟩ := DataW.trod_string Try.underlying9 (x := x1) (by simpa using h1)
    obtain ⟨c, e2, _⟩ := DataW.trod_string Try.underlying9 (x := x2) (by simpa using h2)
    simp at e0 e1 e2
    exact ⟨a, b, c, by rw [e0, e1, e2]⟩

theorem boxed {w W w1 : World} {g : Nat} {o : Obj} (hb : Below W.heap.size W w1) (h : W.heap[g]? = some o) : w1.heap[g]? = some o := (hb.block g (Array.getElem?_eq_some_iff.1 h).1).trans h

set_option maxHeartbeats 2000000 in
theorem law_orders (s t : ByteArray) (p c : Int) (w : World) (hs : s.size ≤ maxLen) (ht : t.size ≤ maxLen) :
    Calls Try.prog 4 #[.string s, .string t, .agg #[.int .i64 p, .int .i64 c]] w fun e w' => e = .returned (.bool true) ∧ Below w.heap.size w w' := by
  have HO := Lib.hid (fun w => over_call s w)
  have HO2 := Lib.hid (fun w => over_call t w)
  have HK := Lib.hid (fun w => known_call w)
  have H1 := Lib.hid (fun w => Weights_call s p c w)
  have H2 := Lib.hid (fun w => rWeights_call s p c w)
  have H3 := Lib.hid (fun w => order_call s t p c w)
  have H4 := Lib.hid (fun w => rorder_call s t p c w)
  generalize weightsF s p c = r1 at H1 H2
  generalize orderF s t p c = r2 at H3 H4
  obtain ⟨a1, a2⟩ := r1
  obtain ⟨b1, b2⟩ := r2
  generalize decide ((s.size : Int) > 16384) = o1 at HO
  generalize decide ((t.size : Int) > 16384) = o2 at HO2
  clear hs ht
  cases o1
  · cases o2
    · go_enter Try.func4, Try.ntmps4
      go_wp2_with (first | (go_at_call 10; with_reducible refine (HO.out _).mono ?_; rintro e w0 ⟨rfl, ⟨⟨n1, rfl⟩⟩⟩) | (go_at_call 10; with_reducible refine (HO2.out _).mono ?_; rintro e w0 ⟨rfl, ⟨⟨n1, rfl⟩⟩⟩) | (go_at_call 14; refine (H1.out _).mono ?_; rintro e w1 ⟨rfl, hb1⟩; have hx1 := boxed (w := w) (g := w.heap.size) hb1 (heap_alloc_new w _); have c1_0 := (blk_cell hx1 0).trans rfl; have c1_1 := (blk_cell hx1 1).trans rfl; have HX1 := Aside0.mk hx1; clear hx1; have HB1 := Aside0.mk hb1; clear hb1) | (go_at_call 15; refine (H2.out _).mono ?_; rintro e w2 ⟨rfl, hb2⟩; have hx2 := boxed (w := w) (g := w.heap.size) hb2 (HX1.out); have c2_0 := (blk_cell hx2 0).trans rfl; have c2_1 := (blk_cell hx2 1).trans rfl; have HX2 := Aside0.mk hx2; clear hx2; have HB2 := Aside0.mk hb2; clear hb2) | (go_at_call 16; refine (H3.out _).mono ?_; rintro e w3 ⟨rfl, hb3⟩; have hx3 := boxed (w := w) (g := w.heap.size) hb3 (HX2.out); have c3_0 := (blk_cell hx3 0).trans rfl; have c3_1 := (blk_cell hx3 1).trans rfl; have HX3 := Aside0.mk hx3; clear hx3; have HB3 := Aside0.mk hb3; clear hb3) | (go_at_call 17; refine (H4.out _).mono ?_; rintro e w4 ⟨rfl, hb4⟩; have HB4 := Aside0.mk hb4; clear hb4) | (go_at_call 11; refine (HK.out _).mono ?_; rintro e w9 ⟨rfl, hb9⟩; have HB9 := Aside0.mk hb9; clear hb9))
      go_ret
      exact ⟨by simp, nx (nx (nx (nx ((pw_below_drewN (below_alloc (Below.refl _ _) _) _).trans (HB1.out.mono (by simp))) HB2.out) HB3.out) HB4.out) HB9.out⟩
    · go_enter Try.func4, Try.ntmps4
      go_wp2_with (first | (go_at_call 10; with_reducible refine (HO.out _).mono ?_; rintro e w0 ⟨rfl, ⟨⟨n1, rfl⟩⟩⟩) | (go_at_call 10; with_reducible refine (HO2.out _).mono ?_; rintro e w0 ⟨rfl, ⟨⟨n1, rfl⟩⟩⟩) | (go_at_call 11; refine (HK.out _).mono ?_; rintro e w9 ⟨rfl, hb9⟩; have HB9 := Aside0.mk hb9; clear hb9))
      go_ret
      exact ⟨rfl, ((pw_below_drewN (below_alloc (Below.refl _ _) _) _).trans (HB9.out.mono (by simp)))⟩
  · go_enter Try.func4, Try.ntmps4
    go_wp2_with (first | (go_at_call 10; with_reducible refine (HO.out _).mono ?_; rintro e w0 ⟨rfl, ⟨⟨n1, rfl⟩⟩⟩) | (go_at_call 11; refine (HK.out _).mono ?_; rintro e w9 ⟨rfl, hb9⟩; have HB9 := Aside0.mk hb9; clear hb9))
    go_ret
    exact ⟨rfl, ((pw_below_drewN (below_alloc (Below.refl _ _) _) _).trans (HB9.out.mono (by simp)))⟩
end Go.Proofs.Ytmjldihmcbjfhaa.H
