/-
  How texts are ordered by their weights: the walk of Order, the reference's loops, and the plain law.
-/
import Derived.Test.YtmjldihmcbjfhaaHShelf
import Derived.Test.YtmjldihmcbjfhaaHCases
import Derived.Test.YtmjldihmcbjfhaaPPageOrdersx5
import Derived.Test.YtmjldihmcbjfhaaPPageOrdersx6
namespace Go.Proofs.Ytmjldihmcbjfhaa.H
open Go.RowKit Go.Proofs.YtmjldihmcbjfhaaW.PrintWords Go.Proofs.YtmjldihmcbjfhaaW.PrintLast Go.Proofs.YtmjldihmcbjfhaaW.PrintMore Go.Proofs.Ytmjldihmcbjfhaa.PPageCases
set_option linter.unusedVariables false
set_option linter.unusedSimpArgs false

/-! ### comparing -/
def cmpI : List Int → List Int → Int
  | [], [] => 0
  | [], _ :: _ => -1
  | _ :: _, [] => 1
  | a :: l, b :: m => if a < b then -1 else if b < a then 1 else cmpI l m
theorem u8_lt (a b : Int) (ha : 0 ≤ a ∧ a ≤ 255) (hb : 0 ≤ b ∧ b ≤ 255) : (UInt8.ofNat a.toNat < UInt8.ofNat b.toNat) = (a < b) := by
  rw [UInt8.lt_iff_toNat_lt]
  simp only [UInt8.toNat_ofNat']
  exact propext ⟨fun h => by omega, fun h => by omega⟩
theorem cmp_ints : ∀ (xs ys : List Int), (∀ x, x ∈ xs → 0 ≤ x ∧ x ≤ 255) → (∀ x, x ∈ ys → 0 ≤ x ∧ x ≤ 255) →
    Lib.compareBytes (strOfNums xs).data.toList (strOfNums ys).data.toList = cmpI xs ys
  | [], [], _, _ => rfl
  | [], _ :: _, _, _ => rfl
  | _ :: _, [], _, _ => rfl
  | a :: l, b :: m, hx, hy => by
    have ih := cmp_ints l m (fun x h => hx x (by simp [h])) (fun x h => hy x (by simp [h]))
    rw [strOfNums_data, strOfNums_data] at ih ⊢
    simp only [List.map_cons, Lib.compareBytes, cmpI, u8_lt a b (hx a (by simp)) (hy b (by simp)), u8_lt b a (hy b (by simp)) (hx a (by simp))]
    rw [ih]
theorem cmp_bd : ∀ (xs ys : List Int), -1 ≤ cmpI xs ys ∧ cmpI xs ys ≤ 1
  | [], [] => by simp [cmpI]
  | [], _ :: _ => by simp [cmpI]
  | _ :: _, [] => by simp [cmpI]
  | a :: l, b :: m => by
    have := cmp_bd l m
    simp only [cmpI]
    split
    · omega
    · split <;> omega

/-! ### the errors of two texts -/
theorem asked_f2 (s t : ByteArray) (p : Int) : page_asked.f 5 p [s, t] = some (askP (max (s.size : Int) t.size) p) := by
  unfold page_asked.f askP
  simp only [page_asked.l0, rdOf, wrap64]
  simp
  by_cases h1 : (2048 : Int) < s.size
  · simp [h1]; omega
  · by_cases h2 : (2048 : Int) < t.size
    · simp [h1, h2]; omega
    · have h3 : ¬ ((2048 : Int) < max (s.size : Int) t.size) := by omega
      simp [h1, h2, h3]
      by_cases h4 : p < 0
      · simp [h4]
      · by_cases h5 : 2 < p
        · simp [h4, h5]
        · simp [h4, h5]
theorem askedColl_f2 (s t : ByteArray) (p c : Int) : page_askedColl.f 6 p c [s, t] = some (askC (max (s.size : Int) t.size) p c) := by
  have h : page_asked.f 6 p [s, t] = some (askP (max (s.size : Int) t.size) p) := page_asked.mono _ _ _ _ (asked_f2 s t p)
  unfold page_askedColl.f askC
  rw [h]
  simp only [Option.bind_some]
  by_cases e : askP (max (s.size : Int) t.size) p = 0
  · rw [if_pos e, if_neg (show ¬ askP (max (s.size : Int) t.size) p ≠ 0 by simpa using e)]
    split
    · rfl
    · split <;> rfl
  · rw [if_neg e, if_pos (show askP (max (s.size : Int) t.size) p ≠ 0 from e)]
theorem askedColl_two (s t : ByteArray) (p c : Int) (w : World) :
    Calls Try.prog 37 #[.int .i64 p, .int .i64 c, .slice (some ⟨w.heap.size, 0, none⟩) 2 2] (w.alloc (.cells #[.string s, .string t] 9)) fun e w' => e = .returned (.int .i64 (askC (max (s.size : Int) t.size) p c)) ∧ Drawn0 (w.alloc (.cells #[.string s, .string t] 9)) w' :=
  page_askedColl.calls 6 p c _ 2 [s, t] _ _ (C_strs w [s, t] (by simp)) (Nat.le_refl _) (askedColl_f2 s t p c)

def wts (s : ByteArray) (p c : Int) : List Int := (bytesOf s).map (wt · p c)
def orderF (s t : ByteArray) (p c : Int) : Int × Int :=
  if askC (max (s.size : Int) t.size) p c = 0 then (cmpI (wts s p c) (wts t p c), 0) else (0, askC (max (s.size : Int) t.size) p c)
theorem wt_range (p : Fin 3) (c : Fin 2) (b : Fin 256) : 0 ≤ wt b.val p.val c.val ∧ wt b.val p.val c.val ≤ 255 := by
  revert p c b; decide +kernel
theorem askC_page {n p c : Int} (h : askC n p c = 0) : (∃ q : Fin 3, p = (q.val : Int)) ∧ ∃ d : Fin 2, c = (d.val : Int) := by
  unfold askC at h
  split at h
  · exact absurd h ‹_›
  · rename_i h1
    have h1 : askP n p = 0 := by simpa using h1
    refine ⟨askP_page h1, ?_⟩
    split at h
    · omega
    · split at h
      · omega
      · exact ⟨⟨c.toNat, by omega⟩, by simp only; omega⟩
theorem wts_range (s : ByteArray) (p : Fin 3) (c : Fin 2) : ∀ x, x ∈ wts s p.val c.val → 0 ≤ x ∧ x ≤ 255 := by
  intro x hx
  obtain ⟨y, hy, rfl⟩ := List.mem_map.1 hx
  obtain ⟨h0, h1⟩ := bytesOf_range s y hy
  have := wt_range p c ⟨y.toNat, by omega⟩
  simp only [Int.toNat_of_nonneg h0] at this
  exact this

set_option maxHeartbeats 1000000 in
theorem order_call (s t : ByteArray) (p c : Int) (w : World) : Calls Try.prog 16 #[.string s, .string t, .int .i64 p, .int .i64 c] w fun e w' =>
    e = .returned (.tuple #[.int .i64 (orderF s t p c).1, .int .i64 (orderF s t p c).2]) ∧ Below w.heap.size w w' := by
  have HA := Lib.hid (fun w => askedColl_two s t p c w)
  unfold orderF
  by_cases h : askC (max (s.size : Int) t.size) p c = 0
  · have hle := askC_le h
    have HW1 := Lib.hid (fun w => weights_call s p c w (by omega))
    have HW2 := Lib.hid (fun w => weights_call t p c w (by omega))
    have HC : Hid (∀ w, Calls Try.prog 41 #[.string (strOfNums (wts s p c)), .string (strOfNums (wts t p c))] w fun e w' => e = .returned (.int .i64 (cmpI (wts s p c) (wts t p c))) ∧ w = w') := Lib.hid (fun w => by
      obtain ⟨⟨q, rfl⟩, d, rfl⟩ := askC_page h
      rw [← cmp_ints _ _ (wts_range s q d) (wts_range t q d)]
      exact (Try.strings_Compare _ _ w).mono fun e w' ⟨h1, h2⟩ => ⟨h1, h2.symm⟩)
    rw [if_pos h]
    rw [h] at HA
    change Hid (∀ w, Calls _ _ _ w fun e w' => e = .returned (.string (strOfNums (wts s p c))) ∧ _) at HW1
    change Hid (∀ w, Calls _ _ _ w fun e w' => e = .returned (.string (strOfNums (wts t p c))) ∧ _) at HW2
    generalize cmpI (wts s p c) (wts t p c) = r at HC ⊢
    generalize strOfNums (wts s p c) = x at HC HW1
    generalize strOfNums (wts t p c) = y at HC HW2
    clear h hle
    go_enter Try.func16, Try.ntmps16
    go_wp2_with (first | (go_at_call 37; refine (HA.out _).mono ?_; rintro e w1 ⟨rfl, ⟨⟨n1, rfl⟩⟩⟩) | (go_at_call 38; with_reducible refine (HW1.out _).mono ?_; rintro e w2 ⟨rfl, hb⟩; have HB := Aside0.mk hb; clear hb) | (go_at_call 38; with_reducible refine (HW2.out _).mono ?_; rintro e w3 ⟨rfl, hb⟩; have HB3 := Aside0.mk hb; clear hb) | (go_at_call 41; refine (HC.out _).mono ?_; rintro e w4 ⟨rfl, rfl⟩))
    go_ret2
    exact ⟨rfl, ((pw_below_drewN (below_alloc (Below.refl _ _) _) _).trans (HB.out.mono (by simp))).trans (HB3.out.mono (Nat.le_trans (by simp) HB.out.size))⟩
  · rw [if_neg h]
    have hb : (askC (max (s.size : Int) t.size) p c != 0) = true := bne_iff_ne.2 h
    clear h
    generalize askC (max (s.size : Int) t.size) p c = q at HA hb ⊢
    go_enter Try.func16, Try.ntmps16
    go_wp2_with (first | (go_at_call 37; refine (HA.out _).mono ?_; rintro e w1 ⟨rfl, ⟨⟨n1, rfl⟩⟩⟩))
    go_ret2
    exact ⟨rfl, (pw_below_drewN (below_alloc (Below.refl _ _) _) _)⟩

/-! ### the reference -/
theorem rwt_fin (p : Fin 3) (c : Fin 2) (b : Fin 256) : PPageOrders.cabinetryref02_weight.f 24 b.val p.val c.val = some (wt b.val p.val c.val) := by
  revert p c b; decide +kernel
theorem rwt_at (s : ByteArray) (i : Int) (p : Fin 3) (c : Fin 2) (k : Nat) (hk : 24 ≤ k) : PPageOrders.cabinetryref02_weight.f k (bt s i) p.val c.val = some (wt (bt s i) p.val c.val) := by
  obtain ⟨h0, h1⟩ := bt_range s i
  have := rwt_fin p c ⟨(bt s i).toNat, by omega⟩
  simp only [Int.toNat_of_nonneg h0] at this
  exact at_rounds (PPageOrders.cabinetryref02_weight.mono _ _ _) hk this
theorem drop_wts (s : ByteArray) (p c : Int) (i : Nat) (h : i < s.size) : (wts s p c).drop i = wt (bt s i) p c :: (wts s p c).drop (i + 1) := by
  unfold wts
  rw [← List.map_drop, ← List.map_drop, drop_bytes s i h, List.map_cons]
theorem drop_wts_nil (s : ByteArray) (p c : Int) (i : Nat) (h : s.size ≤ i) : (wts s p c).drop i = [] := by
  apply List.drop_eq_nil_of_le
  unfold wts
  rw [List.length_map, bytesOf_length]; exact h
theorem order_loop (s t : ByteArray) (p : Fin 3) (c : Fin 2) (hs : s.size ≤ 2048) (ht : t.size ≤ 2048) (n : Nat) : ∀ (k i : Nat), s.size - i = n → 2 * n + 40 < k →  i ≤ s.size → i ≤ t.size →
    PPageOrders.cabinetryref02_Order.l0 k s t p.val c.val (i : Int) = some (cmpI ((wts s p.val c.val).drop i) ((wts t p.val c.val).drop i), 0) := by
  induction n with
  | zero =>
    intro k i hn hk hi1 hi2
    obtain ⟨k, rfl⟩ : ∃ m, k = m + 2 := ⟨k - 2, by omega⟩
    simp only [PPageOrders.cabinetryref02_Order.l0, PPageOrders.cabinetryref02_Order.j1]
    rw [if_neg (by omega), drop_wts_nil s _ _ i (by omega)]
    simp only [Bool.false_eq_true, if_false]
    by_cases h : i < t.size
    · rw [if_pos (by omega), drop_wts t _ _ i h]; rfl
    · rw [if_neg (by omega), if_neg (by omega), drop_wts_nil t _ _ i (by omega)]; rfl
  | succ n ih =>
    intro k i hn hk hi1 hi2
    obtain ⟨k, rfl⟩ : ∃ m, k = m + 2 := ⟨k - 2, by omega⟩
    have h1 : i < s.size := by omega
    simp only [PPageOrders.cabinetryref02_Order.l0, PPageOrders.cabinetryref02_Order.j1]
    rw [if_pos (by omega), drop_wts s _ _ i h1]
    by_cases h : i < t.size
    · rw [drop_wts t _ _ i h]
      rw [if_pos (show decide ((i : Int) < t.size) = true by simp; exact h), if_pos (by omega), if_pos (by omega), rwt_at s i p c k (by omega)]
      simp only [Option.bind_some]
      rw [if_pos (by omega), rwt_at t i p c k (by omega)]
      simp only [Option.bind_some]
      have hw : wrap64 ((i : Int) + 1) = ((i + 1 : Nat) : Int) := by unfold wrap64; omega
      rw [hw]
      simp only [cmpI]
      generalize wt (bt s i) p.val c.val = a
      generalize wt (bt t i) p.val c.val = b
      by_cases h2 : a < b
      · rw [if_pos h2, if_pos h2]
      · rw [if_neg h2, if_neg h2]
        by_cases h3 : b < a
        · rw [if_pos (show a > b from h3), if_pos h3]
        · rw [if_neg (show ¬ a > b from h3), if_neg h3]
          exact ih k (i + 1) (by omega) (by omega) (by omega) (by omega)
    · rw [drop_wts_nil t _ _ i (by omega)]
      rw [if_neg (show ¬ decide ((i : Int) < t.size) = true by simp; omega), if_neg (by omega), if_pos (by omega)]
      rfl
theorem rasked_f2 (s t : ByteArray) (p c : Int) : PPageOrders.cabinetryref02_asked.f 8 2048 [s, t] c [p] = some (askC (max (s.size : Int) t.size) p c) := by
  unfold PPageOrders.cabinetryref02_asked.f
  simp only [PPageOrders.cabinetryref02_asked.l0, PPageOrders.cabinetryref02_asked.l1, rdOf, rd, wrap64]
  unfold askC askP
  simp
  by_cases h1 : (2048 : Int) < s.size
  · have h3 : (2048 : Int) < max (s.size : Int) t.size := by omega
    simp [h1, h3]
  · by_cases h2' : (2048 : Int) < t.size
    · have h3 : (2048 : Int) < max (s.size : Int) t.size := by omega
      simp [h1, h2', h3]
    · have h3' : ¬ ((2048 : Int) < max (s.size : Int) t.size) := by omega
      by_cases h2 : p < 0
      · simp [h1, h2, h2', h3']
      · by_cases h3 : 2 < p
        · simp [h1, h2, h3, h2', h3']
        · simp [h1, h2, h3, h2', h3']
          by_cases h4 : c = 0
          · simp [h4]
          · by_cases h5 : c = 1
            · simp [h5]
            · simp [h4, h5]; omega
theorem ref_order (s t : ByteArray) (p c : Int) : ∃ k, PPageOrders.cabinetryref02_Order.f k s t p c = some (orderF s t p c) := by
  refine ⟨2 * s.size + 50, ?_⟩
  unfold PPageOrders.cabinetryref02_Order.f orderF
  rw [at_rounds (PPageOrders.cabinetryref02_asked.mono _ _ _ _) (by omega) (rasked_f2 s t p c)]
  simp only [Option.bind_some]
  by_cases h : askC (max (s.size : Int) t.size) p c = 0
  · have hle := askC_le h
    obtain ⟨⟨q, rfl⟩, d, rfl⟩ := askC_page h
    rw [if_pos h, if_pos h]
    exact order_loop s t q d (by omega) (by omega) s.size (2 * s.size + 50) 0 (by omega) (by omega) (by omega) (by omega)
  · rw [if_neg h, if_neg h]
theorem rorder_call (s t : ByteArray) (p c : Int) (w : World) : Calls Try.prog 17 #[.string s, .string t, .int .i64 p, .int .i64 c] w fun e w' =>
    e = .returned (.tuple #[.int .i64 (orderF s t p c).1, .int .i64 (orderF s t p c).2]) ∧ Below w.heap.size w w' := by
  obtain ⟨k, hk⟩ := ref_order s t p c
  exact PPageOrders.cabinetryref02_Order.calls k s t p c _ _ w hk
end Go.Proofs.Ytmjldihmcbjfhaa.H
