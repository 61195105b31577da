/-
  That the order of texts is one: the plain law on comparing, and the walk of the law's function.
-/
import Derived.Test.YtmjldihmcbjfhaaHOrderLaw
namespace Go.Proofs.Ytmjldihmcbjfhaa.H
open Go.RowKit Go.Proofs.YtmjldihmcbjfhaaW.PrintWords Go.Proofs.YtmjldihmcbjfhaaW.PrintLast Go.Proofs.YtmjldihmcbjfhaaW.PrintMore Go.Proofs.Ytmjldihmcbjfhaa.PPageCases
set_option linter.unusedVariables false
set_option linter.unusedSimpArgs false

theorem cmp_neg : ∀ (xs ys : List Int), cmpI ys xs = - cmpI xs ys
  | [], [] => rfl
  | [], _ :: _ => rfl
  | _ :: _, [] => rfl
  | a :: l, b :: m => by
    have := cmp_neg l m
    simp only [cmpI]
    by_cases h1 : a < b
    · have h2 : ¬ b < a := by omega
      simp [h1, h2]
    · by_cases h2 : b < a
      · simp [h1, h2]
      · simp [h1, h2]; exact this
theorem cmp_trans : ∀ (xs ys zs : List Int), (cmpI xs ys ≤ 0 → cmpI ys zs ≤ 0 → cmpI xs zs ≤ 0) ∧ (cmpI xs ys = 0 → cmpI ys zs = 0 → cmpI xs zs = 0) ∧ (cmpI xs ys < 0 → cmpI ys zs ≤ 0 → cmpI xs zs < 0) ∧ (cmpI xs ys ≤ 0 → cmpI ys zs < 0 → cmpI xs zs < 0)
  | [], [], [] => by simp [cmpI]
  | [], [], _ :: _ => by simp [cmpI]
  | [], _ :: _, [] => by simp [cmpI]
  | [], _ :: _, _ :: _ => by simp [cmpI]
  | _ :: _, [], [] => by simp [cmpI]
  | _ :: _, [], _ :: _ => by simp [cmpI]
  | _ :: _, _ :: _, [] => by simp [cmpI]
  | a :: l, b :: m, c :: n => by
    obtain ⟨h1, h2, h3, h4⟩ := cmp_trans l m n
    simp only [cmpI]
    by_cases e1 : a < b
    · by_cases e2 : b < c
      · simp [e1, e2, show a < c by omega]
      · by_cases e3 : c < b
        · simp [e1, e2, e3]
        · have : b = c := by omega
          subst this
          simp [e1]
    · by_cases e2 : b < a
      · simp [e1, e2]
      · have : a = b := by omega
        subst this
        by_cases e3 : a < c
        · simp [e3]
        · by_cases e4 : c < a
          · simp [e3, e4]
          · have : a = c := by omega
            subst this
            simpa using ⟨h1, h2, h3, h4⟩
theorem cmp_self : ∀ (xs : List Int), cmpI xs xs = 0
  | [] => rfl
  | a :: l => by simp [cmpI, cmp_self l]
theorem wt_up (p : Fin 3) (b : Fin 256) : wt (up b.val p.val) p.val 1 = wt b.val p.val 1 := by
  revert p b; decide +kernel

/-- All that the law's function is told of the orders. -/
theorem sorts (x y z : ByteArray) (p c : Int) (hx : x.size ≤ 2048) (hy : y.size ≤ 2048) (hz : z.size ≤ 2048) (h0 : 0 ≤ p) (h2 : p ≤ 2) (g0 : 0 ≤ c) (g1 : c ≤ 1) :
    ∃ (a b d e : Int) (u : ByteArray), orderF x y p c = (a, 0) ∧ orderF y x p c = (-a, 0) ∧ orderF y z p c = (b, 0) ∧ orderF x z p c = (d, 0) ∧ mapF up x p = (u, 0) ∧ orderF x u p c = (e, 0) ∧
      -1 ≤ a ∧ a ≤ 1 ∧ -1 ≤ b ∧ b ≤ 1 ∧ -1 ≤ d ∧ d ≤ 1 ∧ (a ≤ 0 → b ≤ 0 → d ≤ 0) ∧ (0 ≤ a → 0 ≤ b → 0 ≤ d) ∧ (c = 0 ∨ e = 0) := by
  have hask : ∀ n : Int, n ≤ 2048 → askC n p c = 0 := fun n hn => by
    have : askP n p = 0 := by unfold askP; rw [if_neg (by omega), if_neg (by omega), if_neg (by omega)]
    unfold askC; rw [this, if_neg (by simp), if_neg (by omega), if_neg (by omega)]
  have hap : askP x.size p = 0 := by unfold askP; rw [if_neg (by omega), if_neg (by omega), if_neg (by omega)]
  have su : (strOfNums ((bytesOf x).map (up · p))).size = x.size := by rw [strOfNums_size, List.length_map, bytesOf_length]
  have t1 := cmp_trans (wts x p c) (wts y p c) (wts z p c)
  have t2 := cmp_trans (wts z p c) (wts y p c) (wts x p c)
  have n1 := cmp_neg (wts x p c) (wts y p c)
  have n2 := cmp_neg (wts y p c) (wts z p c)
  have n3 := cmp_neg (wts x p c) (wts z p c)
  have b1 := cmp_bd (wts x p c) (wts y p c)
  have b2 := cmp_bd (wts y p c) (wts z p c)
  have b3 := cmp_bd (wts x p c) (wts z p c)
  refine ⟨cmpI (wts x p c) (wts y p c), cmpI (wts y p c) (wts z p c), cmpI (wts x p c) (wts z p c), cmpI (wts x p c) (wts (strOfNums ((bytesOf x).map (up · p))) p c), strOfNums ((bytesOf x).map (up · p)), ?_, ?_, ?_, ?_, ?_, ?_, b1.1, b1.2, b2.1, b2.2, b3.1, b3.2, ?_, ?_, ?_⟩
  · unfold orderF; rw [if_pos (hask _ (by omega))]
  · unfold orderF; rw [if_pos (hask _ (by omega)), n1]
  · unfold orderF; rw [if_pos (hask _ (by omega))]
  · unfold orderF; rw [if_pos (hask _ (by omega))]
  · unfold mapF; rw [if_pos hap]
  · unfold orderF; rw [if_pos (hask _ (by omega))]
  · exact t1.1
  · intro h h'; have := t2.1 (by omega) (by omega); omega
  · rcases (show c = 0 ∨ c = 1 by omega) with h | h
    · exact .inl h
    · right
      subst h
      obtain ⟨q, rfl⟩ : ∃ q : Fin 3, p = (q.val : Int) := ⟨⟨p.toNat, by omega⟩, by simp only; omega⟩
      have hr := bytesOf_range x
      have : wts (strOfNums ((bytesOf x).map (up · q.val))) q.val 1 = wts x q.val 1 := by
        unfold wts
        rw [bytesOf_strOf _ (up_lo_range _ q hr).1, List.map_map]
        refine List.map_congr_left fun b hb => ?_
        obtain ⟨r0, r1⟩ := hr b hb
        have := wt_up q ⟨b.toNat, by omega⟩
        simp only [Int.toNat_of_nonneg r0] at this
        exact this
      rw [this]
      exact cmp_self _

set_option maxRecDepth 100000 in
set_option maxHeartbeats 4000000 in
theorem law_sorts (x y z : ByteArray) (p c : Int) (w : World) :
    Calls Try.prog 5 #[.agg #[.string x, .string y, .string z], .agg #[.int .i64 p, .int .i64 c]] w fun e w' => e = .returned (.bool true) ∧ Below w.heap.size w w' := by
  have HK := Lib.hid (fun w => known_call w)
  have HX0 : Aside0 (((w.alloc (.cells #[.string x, .string y, .string z] 32)).alloc (.cells #[.int .i64 p, .int .i64 c] 27)).heap[w.heap.size]? = some (.cells #[.string x, .string y, .string z] 32 (0, 0))) :=
    ⟨(heap_alloc_old _ _ (by simp)).trans (heap_alloc_new w _)⟩
  have HY0 : Aside0 (((w.alloc (.cells #[.string x, .string y, .string z] 32)).alloc (.cells #[.int .i64 p, .int .i64 c] 27)).heap[w.heap.size + 1]? = some (.cells #[.int .i64 p, .int .i64 c] 27 (0, 0))) :=
    ⟨by simpa using heap_alloc_new (w.alloc (.cells #[.string x, .string y, .string z] 32)) (.cells #[.int .i64 p, .int .i64 c] 27)⟩
  have c0_0 := (blk_cell HX0.out 0).trans rfl
  have c0_1 := (blk_cell HX0.out 1).trans rfl
  have c0_2 := (blk_cell HX0.out 2).trans rfl
  have e0_0 := (blk_cell HY0.out 0).trans rfl
  have e0_1 := (blk_cell HY0.out 1).trans rfl
  go_enter Try.func5, Try.ntmps5
  go_wp2
  go_loop [5] (fun i => ∃ k : Nat, i = .int .i64 k ∧ Aside0 (k = 0 ∨ (k = 1 ∧ x.size ≤ 2048) ∨ (k = 2 ∧ x.size ≤ 2048 ∧ y.size ≤ 2048) ∨ (k = 3 ∧ x.size ≤ 2048 ∧ y.size ≤ 2048 ∧ z.size ≤ 2048))) (fun i => 3 - (intOf i).toNat)
  case atStart => exact ⟨0, rfl, ⟨.inl rfl⟩⟩
  case round =>
    obtain ⟨k, rfl, HR⟩ := hrel
    rcases HR.out with rfl | ⟨rfl, hx⟩ | ⟨rfl, hx, hy⟩ | ⟨rfl, hx, hy, hz⟩
    · by_cases hx : x.size ≤ 2048
      · go_wp2
        go_round
        case rel => exact ⟨1, rfl, ⟨.inr (.inl ⟨rfl, hx⟩)⟩⟩
        case measure => simp [intOf]
      · have hx2 : 2048 < x.size := by omega
        clear hx
        go_wp2_with (go_at_call 11; refine (HK.out _).mono ?_; rintro e w9 ⟨rfl, hb9⟩; have HB9 := Aside0.mk hb9; clear hb9)
        go_ret
        exact ⟨rfl, (below_alloc (below_alloc (Below.refl _ _) _) _).trans (HB9.out.mono (by simp; omega))⟩
    · by_cases hy : y.size ≤ 2048
      · go_wp2
        go_round
        case rel => exact ⟨2, rfl, ⟨.inr (.inr (.inl ⟨rfl, hx, hy⟩))⟩⟩
        case measure => simp [intOf]
      · have hx2 : 2048 < y.size := by omega
        clear hy
        go_wp2_with (go_at_call 11; refine (HK.out _).mono ?_; rintro e w9 ⟨rfl, hb9⟩; have HB9 := Aside0.mk hb9; clear hb9)
        go_ret
        exact ⟨rfl, (below_alloc (below_alloc (Below.refl _ _) _) _).trans (HB9.out.mono (by simp; omega))⟩
    · by_cases hz : z.size ≤ 2048
      · go_wp2
        go_round
        case rel => exact ⟨3, rfl, ⟨.inr (.inr (.inr ⟨rfl, hx, hy, hz⟩))⟩⟩
        case measure => simp [intOf]
      · have hx2 : 2048 < z.size := by omega
        clear hz
        go_wp2_with (go_at_call 11; refine (HK.out _).mono ?_; rintro e w9 ⟨rfl, hb9⟩; have HB9 := Aside0.mk hb9; clear hb9)
        go_ret
        exact ⟨rfl, (below_alloc (below_alloc (Below.refl _ _) _) _).trans (HB9.out.mono (by simp; omega))⟩
    · clear HR
      by_cases hp : 0 ≤ p ∧ p ≤ 2 ∧ 0 ≤ c ∧ c ≤ 1
      · obtain ⟨h0, h2, g0, g1⟩ := hp
        obtain ⟨a, b, d, e, u, q1, q2, q3, q4, q5, q6, a1, a2, b1, b2, d1, d2, l1, l2, l3⟩ := sorts x y z p c hx hy hz h0 h2 g0 g1
        have H1 := Lib.hid (fun w => q1 ▸ order_call x y p c w)
        have H2 := Lib.hid (fun w => q2 ▸ order_call y x p c w)
        have H3 := Lib.hid (fun w => q3 ▸ order_call y z p c w)
        have H4 := Lib.hid (fun w => q4 ▸ order_call x z p c w)
        have H5 := Lib.hid (fun w => q5 ▸ upper_call x p w)
        have H6 := Lib.hid (fun w => q6 ▸ order_call x u p c w)
        clear q1 q2 q3 q4 q5 q6
        have L1 := Lib.hid l1
        have L2 := Lib.hid l2
        have L3 := Lib.hid l3
        clear l1 l2 l3
        go_wp2_with (first | (go_at_call 16; with_reducible refine (H1.out _).mono ?_; rintro e w1 ⟨rfl, hb1⟩; have hx1 := boxed (w := w) (g := w.heap.size) hb1 (HX0.out); have hy1 := boxed (w := w) (g := w.heap.size + 1) hb1 (HY0.out); have c1_0 := (blk_cell hx1 0).trans rfl; have c1_1 := (blk_cell hx1 1).trans rfl; have c1_2 := (blk_cell hx1 2).trans rfl; have e1_0 := (blk_cell hy1 0).trans rfl; have e1_1 := (blk_cell hy1 1).trans rfl; have HX1 := Aside0.mk hx1; clear hx1; have HY1 := Aside0.mk hy1; clear hy1; have HB1 := Aside0.mk hb1; clear hb1) | (go_at_call 16; with_reducible refine (H2.out _).mono ?_; rintro e w2 ⟨rfl, hb2⟩; have hx2 := boxed (w := w) (g := w.heap.size) hb2 (HX1.out); have hy2 := boxed (w := w) (g := w.heap.size + 1) hb2 (HY1.out); have c2_0 := (blk_cell hx2 0).trans rfl; have c2_1 := (blk_cell hx2 1).trans rfl; have c2_2 := (blk_cell hx2 2).trans rfl; have e2_0 := (blk_cell hy2 0).trans rfl; have e2_1 := (blk_cell hy2 1).trans rfl; have HX2 := Aside0.mk hx2; clear hx2; have HY2 := Aside0.mk hy2; clear hy2; have HB2 := Aside0.mk hb2; clear hb2; clear c1_0 c1_1 c1_2 e1_0 e1_1) | (go_at_call 16; with_reducible refine (H3.out _).mono ?_; rintro e w3 ⟨rfl, hb3⟩; have hx3 := boxed (w := w) (g := w.heap.size) hb3 (HX2.out); have hy3 := boxed (w := w) (g := w.heap.size + 1) hb3 (HY2.out); have c3_0 := (blk_cell hx3 0).trans rfl; have c3_1 := (blk_cell hx3 1).trans rfl; have c3_2 := (blk_cell hx3 2).trans rfl; have e3_0 := (blk_cell hy3 0).trans rfl; have e3_1 := (blk_cell hy3 1).trans rfl; have HX3 := Aside0.mk hx3; clear hx3; have HY3 := Aside0.mk hy3; clear hy3; have HB3 := Aside0.mk hb3; clear hb3; clear c2_0 c2_1 c2_2 e2_0 e2_1) | (go_at_call 16; with_reducible refine (H4.out _).mono ?_; rintro e w4 ⟨rfl, hb4⟩; have hx4 := boxed (w := w) (g := w.heap.size) hb4 (HX3.out); have hy4 := boxed (w := w) (g := w.heap.size + 1) hb4 (HY3.out); have c4_0 := (blk_cell hx4 0).trans rfl; have c4_1 := (blk_cell hx4 1).trans rfl; have c4_2 := (blk_cell hx4 2).trans rfl; have e4_0 := (blk_cell hy4 0).trans rfl; have e4_1 := (blk_cell hy4 1).trans rfl; have HX4 := Aside0.mk hx4; clear hx4; have HY4 := Aside0.mk hy4; clear hy4; have HB4 := Aside0.mk hb4; clear hb4; clear c3_0 c3_1 c3_2 e3_0 e3_1) | (go_at_call 18; with_reducible refine (H5.out _).mono ?_; rintro e w5 ⟨rfl, hb5⟩; have hx5 := boxed (w := w) (g := w.heap.size) hb5 (HX4.out); have hy5 := boxed (w := w) (g := w.heap.size + 1) hb5 (HY4.out); have c5_0 := (blk_cell hx5 0).trans rfl; have c5_1 := (blk_cell hx5 1).trans rfl; have c5_2 := (blk_cell hx5 2).trans rfl; have e5_0 := (blk_cell hy5 0).trans rfl; have e5_1 := (blk_cell hy5 1).trans rfl; have HX5 := Aside0.mk hx5; clear hx5; have HY5 := Aside0.mk hy5; clear hy5; have HB5 := Aside0.mk hb5; clear hb5; clear c4_0 c4_1 c4_2 e4_0 e4_1) | (go_at_call 16; with_reducible refine (H6.out _).mono ?_; rintro e w6 ⟨rfl, hb6⟩; have hx6 := boxed (w := w) (g := w.heap.size) hb6 (HX5.out); have hy6 := boxed (w := w) (g := w.heap.size + 1) hb6 (HY5.out); have c6_0 := (blk_cell hx6 0).trans rfl; have c6_1 := (blk_cell hx6 1).trans rfl; have c6_2 := (blk_cell hx6 2).trans rfl; have e6_0 := (blk_cell hy6 0).trans rfl; have e6_1 := (blk_cell hy6 1).trans rfl; have HX6 := Aside0.mk hx6; clear hx6; have HY6 := Aside0.mk hy6; clear hy6; have HB6 := Aside0.mk hb6; clear hb6; clear c5_0 c5_1 c5_2 e5_0 e5_1) | (go_at_call 11; refine (HK.out _).mono ?_; rintro e w9 ⟨rfl, hb9⟩; have HB9 := Aside0.mk hb9; clear hb9))
        all_goals first | (exfalso; have m1 := L1.out; have m2 := L2.out; have m3 := L3.out; omega) | (go_ret; exact ⟨by simp, nx (nx (nx (nx (nx (nx (below_alloc (below_alloc (Below.refl _ _) _) _ |>.trans (HB1.out.mono (by simp; omega))) HB2.out) HB3.out) HB4.out) HB5.out) HB6.out) HB9.out⟩)
      · rcases (show p < 0 ∨ (0 ≤ p ∧ 2 < p) ∨ (0 ≤ p ∧ p ≤ 2 ∧ c < 0) ∨ (0 ≤ p ∧ p ≤ 2 ∧ 0 ≤ c ∧ 1 < c) by omega) with h | ⟨h1, h⟩ | ⟨h1, h2, h⟩ | ⟨h1, h2, h3, h⟩
        all_goals
          clear hp
          go_wp2_with (go_at_call 11; refine (HK.out _).mono ?_; rintro e w9 ⟨rfl, hb9⟩; have HB9 := Aside0.mk hb9; clear hb9)
          go_ret
          exact ⟨rfl, (below_alloc (below_alloc (Below.refl _ _) _) _).trans (HB9.out.mono (by simp; omega))⟩
end Go.Proofs.Ytmjldihmcbjfhaa.H
