/-
  That the capitals of the small letters are the capitals, and the other way round, for all texts and pages: the plain law, and the walk of the law's function.
-/
import Derived.Test.YtmjldihmcbjfhaaHProper
import Derived.Test.YtmjldihmcbjfhaaHSounds
namespace Go.Proofs.Ytmjldihmcbjfhaa.H
open Go.RowKit Go.Proofs.YtmjldihmcbjfhaaW.PrintWords Go.Proofs.YtmjldihmcbjfhaaW.PrintLast Go.Proofs.YtmjldihmcbjfhaaW.PrintMore Go.Proofs.Ytmjldihmcbjfhaa.PPageCases
set_option linter.unusedVariables false
set_option linter.unusedSimpArgs false

theorem nx {w w1 w2 : World} (h : Below w.heap.size w w1) (k : Below w1.heap.size w1 w2) : Below w.heap.size w w2 := h.trans (k.mono h.size)
theorem fold_bytes (p : Fin 3) (b : Fin 256) : up (lo b.val p.val) p.val = up b.val p.val ∧ lo (up b.val p.val) p.val = lo b.val p.val ∧ up (up b.val p.val) p.val = up b.val p.val ∧ lo (lo b.val p.val) p.val = lo b.val p.val ∧
    isL (up b.val p.val) p.val = isL (lo b.val p.val) p.val ∧ 0 ≤ up b.val p.val ∧ up b.val p.val ≤ 255 ∧ 0 ≤ lo b.val p.val ∧ lo b.val p.val ≤ 255 := by
  revert p b; decide +kernel
theorem bytesOf_strOf (l : List Int) (h : ∀ x, x ∈ l → 0 ≤ x ∧ x ≤ 255) : bytesOf (strOfNums l) = l := by
  unfold bytesOf
  rw [strOfNums_data, List.map_map]
  conv => rhs; rw [← List.map_id l]
  apply List.map_congr_left
  intro x hx
  obtain ⟨h0, h1⟩ := h x hx
  simp only [Function.comp, id]
  have : (UInt8.ofNat x.toNat).toNat = x.toNat := by
    simp only [UInt8.toNat_ofNat']
    omega
  rw [this]; omega
theorem up_lo_range (l : List Int) (p : Fin 3) (h : ∀ x, x ∈ l → 0 ≤ x ∧ x ≤ 255) : (∀ x, x ∈ l.map (up · p.val) → 0 ≤ x ∧ x ≤ 255) ∧ (∀ x, x ∈ l.map (lo · p.val) → 0 ≤ x ∧ x ≤ 255) := by
  constructor <;>
  · intro x hx
    obtain ⟨y, hy, rfl⟩ := List.mem_map.1 hx
    obtain ⟨h0, h1⟩ := h y hy
    have := fold_bytes p ⟨y.toNat, by omega⟩
    simp only [Int.toNat_of_nonneg h0] at this
    omega
theorem fold_at (p : Fin 3) (y : Int) (h0 : 0 ≤ y) (h1 : y ≤ 255) : up (lo y p.val) p.val = up y p.val ∧ lo (up y p.val) p.val = lo y p.val ∧ up (up y p.val) p.val = up y p.val ∧ lo (lo y p.val) p.val = lo y p.val ∧ isL (up y p.val) p.val = isL (lo y p.val) p.val := by
  have := fold_bytes p ⟨y.toNat, by omega⟩
  simp only [Int.toNat_of_nonneg h0] at this
  exact ⟨this.1, this.2.1, this.2.2.1, this.2.2.2.1, this.2.2.2.2.1⟩
theorem prop_fold (p : Fin 3) (l : List Int) : ∀ (st : Bool), (∀ x, x ∈ l → 0 ≤ x ∧ x ≤ 255) → propL p.val st (l.map (up · p.val)) = propL p.val st (l.map (lo · p.val)) := by
  induction l with
  | nil => intro st _; rfl
  | cons y l ih =>
    intro st h
    obtain ⟨h0, h1⟩ := h y (by simp)
    obtain ⟨e1, e2, e3, e4, e5⟩ := fold_at p y h0 h1
    simp only [List.map_cons, propL, e1, e2, e3, e4, e5]
    rw [ih _ (fun x hx => h x (by simp [hx]))]

theorem folds (s : ByteArray) (p : Int) (hs : s.size ≤ 2048) (h0 : 0 ≤ p) (h2 : p ≤ 2) : ∃ A B Q : ByteArray, mapF up s p = (A, 0) ∧ mapF lo s p = (B, 0) ∧ mapF up B p = (A, 0) ∧ mapF lo A p = (B, 0) ∧ properF A p = (Q, 0) ∧ properF B p = (Q, 0) ∧ A.size = s.size := by
  obtain ⟨q, rfl⟩ : ∃ q : Fin 3, p = (q.val : Int) := ⟨⟨p.toNat, by omega⟩, by simp only; omega⟩
  have hask : ∀ n : Nat, n ≤ 2048 → askP n q.val = 0 := fun n hn => by unfold askP; rw [if_neg (by omega), if_neg (by omega), if_neg (by omega)]
  have hr := bytesOf_range s
  obtain ⟨hu, hl⟩ := up_lo_range (bytesOf s) q hr
  have sA : (strOfNums ((bytesOf s).map (up · q.val))).size = s.size := by rw [strOfNums_size, List.length_map, bytesOf_length]
  have sB : (strOfNums ((bytesOf s).map (lo · q.val))).size = s.size := by rw [strOfNums_size, List.length_map, bytesOf_length]
  refine ⟨strOfNums ((bytesOf s).map (up · q.val)), strOfNums ((bytesOf s).map (lo · q.val)), strOfNums (propL q.val false ((bytesOf s).map (lo · q.val))), ?_, ?_, ?_, ?_, ?_, ?_, sA⟩
  · unfold mapF; rw [if_pos (hask _ hs)]
  · unfold mapF; rw [if_pos (hask _ hs)]
  · unfold mapF; rw [sB, if_pos (hask _ hs), bytesOf_strOf _ hl, List.map_map]
    congr 2
    exact List.map_congr_left fun x hx => (fold_at q x (hr x hx).1 (hr x hx).2).1
  · unfold mapF; rw [sA, if_pos (hask _ hs), bytesOf_strOf _ hu, List.map_map]
    congr 2
    exact List.map_congr_left fun x hx => (fold_at q x (hr x hx).1 (hr x hx).2).2.1
  · unfold properF; rw [sA, if_pos (hask _ hs), bytesOf_strOf _ hu, prop_fold q _ _ hr]
  · unfold properF; rw [sB, if_pos (hask _ hs), bytesOf_strOf _ hl]

set_option maxHeartbeats 2000000 in
theorem law_folds (s : ByteArray) (p : Int) (w : World) (_hs : s.size ≤ maxLen) (_hp : (Lit.int .i64 p).wf = true) :
    Calls Try.prog 6 #[.string s, .int .i64 p] w fun e w' => e = .returned (.bool true) ∧ Below w.heap.size w w' := by
  have HK := Lib.hid (fun w => known_call w)
  by_cases h1 : s.size ≤ 2048
  · by_cases h2 : 0 ≤ p
    · by_cases h3 : p ≤ 2
      · obtain ⟨A, B, Q, e1, e2, e3, e4, e5, e6, e7⟩ := folds s p h1 h2 h3
        have H1 := Lib.hid (fun w => e1 ▸ upper_call s p w)
        have H2 := Lib.hid (fun w => e2 ▸ lower_call s p w)
        have H3 := Lib.hid (fun w => e3 ▸ upper_call B p w)
        have H4 := Lib.hid (fun w => e4 ▸ lower_call A p w)
        have H5 := Lib.hid (fun w => e5 ▸ proper_call A p w)
        have H6 := Lib.hid (fun w => e6 ▸ proper_call B p w)
        have e8 : ((A.size : Int) == (s.size : Int)) = true := by rw [e7]; simp
        clear e1 e2 e3 e4 e5 e6 e7
        go_enter Try.func6, Try.ntmps6
        go_wp2_with (first | (go_at_call 18; with_reducible refine (H1.out _).mono ?_; rintro e w1 ⟨rfl, hb1⟩; have HB1 := Aside0.mk hb1; clear hb1) | (go_at_call 19; with_reducible refine (H2.out _).mono ?_; rintro e w2 ⟨rfl, hb2⟩; have HB2 := Aside0.mk hb2; clear hb2) | (go_at_call 18; with_reducible refine (H3.out _).mono ?_; rintro e w3 ⟨rfl, hb3⟩; have HB3 := Aside0.mk hb3; clear hb3) | (go_at_call 19; with_reducible refine (H4.out _).mono ?_; rintro e w4 ⟨rfl, hb4⟩; have HB4 := Aside0.mk hb4; clear hb4) | (go_at_call 20; with_reducible refine (H5.out _).mono ?_; rintro e w5 ⟨rfl, hb5⟩; have HB5 := Aside0.mk hb5; clear hb5) | (go_at_call 20; with_reducible refine (H6.out _).mono ?_; rintro e w6 ⟨rfl, hb6⟩; have HB6 := Aside0.mk hb6; clear hb6) | (go_at_call 11; refine (HK.out _).mono ?_; rintro e w7 ⟨rfl, hb7⟩; have HB7 := Aside0.mk hb7; clear hb7))
        go_ret
        exact ⟨by simp, nx (nx (nx (nx (nx (nx HB1.out HB2.out) HB3.out) HB4.out) HB5.out) HB6.out) HB7.out⟩
      · have h4 : 2 < p := by omega
        clear h3
        go_enter Try.func6, Try.ntmps6
        go_wp2_with (go_at_call 11; refine (HK.out _).mono ?_; rintro e w7 ⟨rfl, hb7⟩; have HB7 := Aside0.mk hb7; clear hb7)
        go_ret
        exact ⟨rfl, HB7.out⟩
    · have h4 : p < 0 := by omega
      clear h2
      go_enter Try.func6, Try.ntmps6
      go_wp2_with (go_at_call 11; refine (HK.out _).mono ?_; rintro e w7 ⟨rfl, hb7⟩; have HB7 := Aside0.mk hb7; clear hb7)
      go_ret
      exact ⟨rfl, HB7.out⟩
  · have h4 : 2048 < s.size := by omega
    clear h1
    go_enter Try.func6, Try.ntmps6
    go_wp2_with (go_at_call 11; refine (HK.out _).mono ?_; rintro e w7 ⟨rfl, hb7⟩; have HB7 := Aside0.mk hb7; clear hb7)
    go_ret
    exact ⟨rfl, HB7.out⟩
end Go.Proofs.Ytmjldihmcbjfhaa.H
