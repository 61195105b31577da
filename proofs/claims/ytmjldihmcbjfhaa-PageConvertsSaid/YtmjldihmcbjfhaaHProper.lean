/-
  The walks of Proper, with its function that remembers whether a letter stands before, and of Count.
-/
import Derived.Test.YtmjldihmcbjfhaaHPageX
namespace Go.Proofs.Ytmjldihmcbjfhaa.H
open Go.RowKit Go.Proofs.YtmjldihmcbjfhaaW.PrintWords Go.Proofs.YtmjldihmcbjfhaaW.PrintLast Go.Proofs.YtmjldihmcbjfhaaW.PrintMore Go.Proofs.Ytmjldihmcbjfhaa.PPageCases
set_option linter.unusedVariables false
set_option linter.unusedSimpArgs false

/-- The list whose first k numbers are those of another one. -/
def mix (out xs : List Int) (k : Nat) : List Int := out.take k ++ xs.drop k
theorem mix_zero (out xs : List Int) : mix out xs 0 = xs := by simp [mix]
theorem mix_all (out xs : List Int) (h : out.length = xs.length) : mix out xs xs.length = out := by simp [mix, ← h]
theorem mix_length (out xs : List Int) (k : Nat) (h : out.length = xs.length) : (mix out xs k).length = xs.length := by
  simp [mix]; omega
theorem mix_get (out xs : List Int) (k : Nat) (h : out.length = xs.length) (hk : k < xs.length) : (mix out xs k).getD k 0 = xs.getD k 0 := by
  have h1 : (out.take k).length = k := by simp; omega
  simp only [mix, List.getD_eq_getElem?_getD]
  rw [List.getElem?_append_right (by omega), h1, Nat.sub_self, List.getElem?_drop, Nat.add_zero]
theorem mix_succ (out xs : List Int) (k : Nat) (h : out.length = xs.length) (hk : k < xs.length) : (mix out xs k).set k (out.getD k 0) = mix out xs (k + 1) := by
  have h1 : (out.take k).length = k := by simp; omega
  have h2 : k < out.length := by omega
  simp only [mix]
  rw [List.set_append_right _ _ (by omega), h1, Nat.sub_self, List.drop_eq_getElem_cons hk, List.set_cons_zero, List.take_succ_eq_append_getElem h2, List.append_assoc]
  simp [List.getD_eq_getElem?_getD, List.getElem?_eq_getElem h2]

/-- What Proper makes of bytes, 'st' telling whether a letter stands before them. -/
def propL (p : Int) : Bool → List Int → List Int
  | _, [] => []
  | st, b :: l => (if st = true then lo b p else up b p) :: propL p (isL b p) l
theorem propL_length (p : Int) (l : List Int) : ∀ st, (propL p st l).length = l.length := by
  induction l with
  | nil => intro st; rfl
  | cons b l ih => intro st; simp [propL, ih]
def stAt (p : Int) (st : Bool) (xs : List Int) (k : Nat) : Bool := if k = 0 then st else isL (xs.getD (k - 1) 0) p
theorem propL_get (p : Int) (l : List Int) : ∀ (st : Bool) (k : Nat), k < l.length → (propL p st l).getD k 0 = if stAt p st l k = true then lo (l.getD k 0) p else up (l.getD k 0) p := by
  induction l with
  | nil => intro st k h; simp at h
  | cons b l ih =>
    intro st k h
    cases k with
    | zero => simp [propL, stAt]
    | succ k =>
      have := ih (isL b p) k (by simpa using h)
      simp only [propL, List.getD_cons_succ, this]
      have e : stAt p (isL b p) l k = stAt p st (b :: l) (k + 1) := by
        unfold stAt
        cases k with
        | zero => simp
        | succ k => simp
      rw [e]

set_option maxHeartbeats 1000000 in
theorem clos_call (b p : Int) (c : Nat) (was : Bool) (W : World) (hc : W.cell? ⟨c, 0, none⟩ = some (.bool was)) (hf : W.frozen? ⟨c, 0, none⟩ = false) :
    Calls Try.prog 44 #[.int .u8 b, .int .i64 p, .pointer (some ⟨c, 0, none⟩)] W fun e w' =>
      e = .returned (.int .u8 (if was = true then lo b p else up b p)) ∧ ∃ n m, w' = ((W.drewN m).setCell ⟨c, 0, none⟩ (.bool (isL b p))).drewN n := by
  have HI := Lib.hid (fun w => isL_call b p w)
  have HU := Lib.hid (fun w => up_call b p w)
  have HL := Lib.hid (fun w => lo_call b p w)
  cases was
  · go_enter Try.func44, Try.ntmps44
    go_wp2_with (first | (go_at_call 31; refine (HI.out _).mono ?_; rintro e w2 ⟨rfl, ⟨⟨n2, rfl⟩⟩⟩) | (go_at_call 32; refine (HU.out _).mono ?_; rintro e w2 ⟨rfl, ⟨⟨n2, rfl⟩⟩⟩) | (go_at_call 43; refine (HL.out _).mono ?_; rintro e w2 ⟨rfl, ⟨⟨n2, rfl⟩⟩⟩))
    go_ret
    exact ⟨rfl, _, _, rfl⟩
  · go_enter Try.func44, Try.ntmps44
    go_wp2_with (first | (go_at_call 31; refine (HI.out _).mono ?_; rintro e w2 ⟨rfl, ⟨⟨n2, rfl⟩⟩⟩) | (go_at_call 32; refine (HU.out _).mono ?_; rintro e w2 ⟨rfl, ⟨⟨n2, rfl⟩⟩⟩) | (go_at_call 43; refine (HL.out _).mono ?_; rintro e w2 ⟨rfl, ⟨⟨n2, rfl⟩⟩⟩))
    go_ret
    exact ⟨rfl, _, _, rfl⟩

theorem grown_drewN {a w : World} {row : Option Nat} (h : a.grownBy w row) (n : Nat) : a.grownBy (w.drewN n) row := ⟨h.os, h.tape, h.output, h.size, h.block⟩
theorem grown_set {a w : World} {g : Nat} (h : a.grownBy w (some g)) {p : Addr} (hp : p.block = g ∨ a.heap.size ≤ p.block) (u : Value) : a.grownBy (w.setCell p u) (some g) := by
  refine ⟨h.os, h.tape, h.output, by simpa [World.setCell] using h.size, fun i hi hne => ?_⟩
  have hn : i ≠ p.block := by
    rcases hp with hp | hp
    · rintro rfl; exact hne (by rw [hp])
    · omega
  exact (Below.heap_setCell w p u i hn).trans (h.block i hi hne)

set_option maxHeartbeats 2000000 in
theorem mapped_proper (c : Nat) (s : ByteArray) (p : Int) (w : World) (hs : s.size ≤ 2048) (hq : askP s.size p = 0) (hcl : c < w.heap.size)
    (hc : w.heap[c]? = some (.cells #[.bool false] 4 (0, 0))) :
    Calls Try.prog 42 #[.string s, .int .i64 p, .func (.func 44) #[] #[.pointer (some ⟨c, 0, none⟩)]] w fun e w' =>
      e = .returned (.tuple #[.string (strOfNums (propL p false (bytesOf s))), .int .i64 0]) ∧ w.grownBy w' (some c) := by
  have HA := Lib.hid (fun w => hq ▸ asked_one s p w)
  have HL := Lib.hid (bytesOf_length s)
  have HLO := Lib.hid (propL_length p (bytesOf s) false)
  have HC := Lib.hid hc
  clear hq hc
  have hcv := fun W => print_bytes (P := Try.prog) 9 44 5 Try.underlying9 Try.underlying44 Try.underlying5 s W
  go_enter Try.func42, Try.ntmps42
  go_wp2_with (go_at_call 30; refine (HA.out _).mono ?_; rintro e w1 ⟨rfl, hd⟩; have HD := Aside0.mk hd; clear hd)
  have hw1 : w.heap.size ≤ w1.heap.size := by obtain ⟨n1, rfl⟩ := HD.out.out; simp
  have HB1 : Aside0 (Below w.heap.size w (Lib.bytesWorld w1 5 s)) := ⟨by
    obtain ⟨n1, rfl⟩ := HD.out.out
    exact bytes_below (pw_below_drewN (below_alloc (Below.refl _ _) _) _) (by simp) _ _⟩
  clear HD
  go_loopw [23] (fun i wr => ∃ k : Nat, i = .int .i64 k ∧ Aside0 (k ≤ s.size) ∧ Aside0 (Buf wr w1.heap.size 5 (nums .u8 (mix (propL p false (bytesOf s)) (bytesOf s) k))) ∧
      Aside0 (wr.heap[c]? = some (.cells #[.bool (stAt p false (bytesOf s) k)] 4 (0, 0))) ∧ Aside0 (w.grownBy wr (some c))) (fun i _ => s.size - (intOf i).toNat)
  case atStart =>
    refine ⟨0, rfl, ⟨by omega⟩, ⟨?_⟩, ⟨?_⟩, ⟨grown_of_below HB1.out _⟩⟩
    · rw [mix_zero]; exact buf_bytesWorld _ _ _
    · rw [HB1.out.block c hcl]; exact HC.out
  case round =>
    obtain ⟨k, rfl, HK, HBuf, HCk, HG⟩ := hrel
    have hk := HK.out
    by_cases hlt : k < s.size
    · have hx := HBuf.out.int k (by rw [mix_length _ _ _ (HLO.out), HL.out]; exact hlt)
      have hf := HBuf.out.frozen k (by simpa [nums, mix_length _ _ _ (HLO.out), HL.out] using hlt)
      rw [mix_get _ _ _ HLO.out (by rw [HL.out]; exact hlt)] at hx
      have hcne : c ≠ w1.heap.size := by omega
      have HCC := Lib.hid (fun b => clos_call b p c _ wr (by rw [blk_cell HCk.out]; rfl) (blk_frozen HCk.out 0))
      have HGT := Lib.hid (propL_get p (bytesOf s) false k (by rw [HL.out]; exact hlt))
      have HBK := HBuf.out.lt
      generalize hbe : (bytesOf s).getD k 0 = b at hx HGT
      have HBE := Lib.hid hbe
      clear hbe
      go_wp2_with (go_at_call 44; refine (HCC.out _).mono ?_; rintro e w2 ⟨rfl, ⟨n2, m2, rfl⟩⟩)
      go_roundw
      case rel =>
        refine ⟨k + 1, by go_num, ⟨by omega⟩, ⟨?_⟩, ⟨?_⟩, ⟨?_⟩⟩
        · have h := (((HBuf.out.drewN m2).set_far (p := ⟨c, 0, none⟩) (Ne.symm hcne) (.bool (isL b p))).drewN n2).set_int k ((propL p false (bytesOf s)).getD k 0)
          rw [mix_succ _ _ _ HLO.out (by rw [HL.out]; exact hlt)] at h
          rw [HGT.out] at h
          exact h
        · have h : ((wr.drewN m2).setCell ⟨c, 0, none⟩ (.bool (isL b p))).heap[c]? = some (.cells #[.bool (isL b p)] 4 (0, 0)) := blk_set (w := wr.drewN m2) HCk.out 0 _
          have e : stAt p false (bytesOf s) (k + 1) = isL b p := by unfold stAt; rw [if_neg (by omega), Nat.add_sub_cancel, HBE.out]
          rw [e]
          exact blk_far (w := ((wr.drewN m2).setCell ⟨c, 0, none⟩ (.bool (isL b p))).drewN n2) h (p := ⟨w1.heap.size, k, none⟩) hcne _
        · exact grown_set (grown_drewN (grown_set (grown_drewN HG.out m2) (.inl rfl) _) n2) (.inr hw1) _
      case measure => simp [intOf]; omega
    · have hke : k = s.size := by omega
      have hstr := HBuf.out.string (src := 44) (dst := 9) (cap := grownCap w1 s.size 0 5) (n := s.size) Try.underlying44 Try.underlying5 Try.underlying9 (by rw [mix_length _ _ _ HLO.out, HL.out])
      rw [hke, ← HL.out, mix_all _ _ HLO.out, HL.out] at hstr
      subst hke
      go_wp2
      go_ret2
      exact ⟨rfl, HG.out⟩

def properF (s : ByteArray) (p : Int) : ByteArray × Int := if askP s.size p = 0 then (strOfNums (propL p false (bytesOf s)), 0) else (⟨#[]⟩, askP s.size p)
set_option maxHeartbeats 1000000 in
theorem proper_call (s : ByteArray) (p : Int) (w : World) : Calls Try.prog 20 #[.string s, .int .i64 p] w fun e w' =>
    e = .returned (.tuple #[.string (properF s p).1, .int .i64 (properF s p).2]) ∧ Below w.heap.size w w' := by
  have H : ∀ W c, W.heap[c]? = some (.cells #[.bool false] 4 (0, 0)) → Calls Try.prog 42 #[.string s, .int .i64 p, .func (.func 44) #[] #[.pointer (some ⟨c, 0, none⟩)]] W fun e w' =>
      e = .returned (.tuple #[.string (properF s p).1, .int .i64 (properF s p).2]) ∧ W.grownBy w' (some c) := by
    intro W c hc
    unfold properF
    by_cases h : askP s.size p = 0
    · rw [if_pos h]
      exact mapped_proper c s p W (by have := askP_le h; omega) h (blk_lt hc) hc
    · rw [if_neg h]
      exact (mapped_bad _ s p W _ rfl (bne_iff_ne.2 h)).mono fun e w' ⟨he, hb⟩ => ⟨he, grown_of_below hb _⟩
  generalize properF s p = r at H ⊢
  have H := Lib.hid H
  go_enter Try.func20, Try.ntmps20
  go_wp2_with (go_at_call 42; refine (H.out _ _ (by first | exact heap_alloc_new _ _ | exact Go.RowKit.heap_alloc_new _ _)).mono ?_; rintro e w1 ⟨rfl, hb⟩; have HB := Aside0.mk hb; clear hb)
  go_ret2
  exact ⟨rfl, (below_alloc (Below.refl _ _) _).grown HB.out (by simp) (fun k hk => by cases hk; exact Nat.le_refl _)⟩

/-! ### Count -/
def isD (b : Int) : Bool := decide (48 ≤ b ∧ b ≤ 57)
theorem within_call (b : Int) (w : World) : Calls Try.prog 47 #[.int .u8 b, .int .u8 48, .int .u8 57] w fun e w' => e = .returned (.bool (isD b)) ∧ Drawn0 w w' :=
  page_within.calls b 48 57 _ w (by
    unfold page_within.f isD
    by_cases h : b ≥ 48
    · rw [if_pos h]; congr 1; simp only [decide_eq_decide]; omega
    · rw [if_neg h]; congr 1; symm; simp only [decide_eq_false_iff_not]; omega)
def cntL (p : Int) (l : List Int) : Int := (l.filter (isL · p)).length
def cntD (p : Int) (l : List Int) : Int := (l.filter fun b => !isL b p && isD b).length
theorem cntL_snoc (p : Int) (l : List Int) (b : Int) : cntL p (l ++ [b]) = cntL p l + if isL b p = true then 1 else 0 := by
  unfold cntL
  rw [List.filter_append]
  by_cases h : isL b p = true <;> simp [List.filter_cons, h]
theorem cntD_snoc (p : Int) (l : List Int) (b : Int) : cntD p (l ++ [b]) = cntD p l + if isL b p = true then 0 else if isD b = true then 1 else 0 := by
  unfold cntD
  rw [List.filter_append]
  by_cases h : isL b p = true
  · simp [List.filter_cons, h]
  · have h' : isL b p = false := by simpa using h
    by_cases hd : isD b = true <;> simp [List.filter_cons, h', hd]
theorem cntL_bd (p : Int) (l : List Int) : 0 ≤ cntL p l ∧ cntL p l ≤ l.length := by
  unfold cntL; exact ⟨by omega, by have := List.length_filter_le (isL · p) l; omega⟩
theorem cntD_bd (p : Int) (l : List Int) : 0 ≤ cntD p l ∧ cntD p l ≤ l.length := by
  unfold cntD; exact ⟨by omega, by have := List.length_filter_le (fun b => !isL b p && isD b) l; omega⟩
def countF (s : ByteArray) (p : Int) : Int × Int × Int × Int :=
  if askP s.size p = 0 then (cntL p (bytesOf s), cntD p (bytesOf s), s.size - cntL p (bytesOf s) - cntD p (bytesOf s), 0) else (0, 0, 0, askP s.size p)
theorem results_four {fn : Func} {t u v x : Tmp} (h : fn.results = #[.tmp t, .tmp u, .tmp v, .tmp x]) (tmps : Array Value) (P : Program) (w : World) :
    (results fn tmps).run P w = .ok (.tuple #[tmps.getD t undef, tmps.getD u undef, tmps.getD v undef, tmps.getD x undef]) w := by simp [results, h]
theorem take_snoc (xs : List Int) (k : Nat) (h : k < xs.length) : xs.take (k + 1) = xs.take k ++ [xs.getD k 0] := by
  rw [List.take_succ_eq_append_getElem h]
  simp [List.getD_eq_getElem?_getD, List.getElem?_eq_getElem h]

set_option maxHeartbeats 2000000 in
theorem count_ok (s : ByteArray) (p : Int) (w : World) (hs : s.size ≤ 2048) (hq : askP s.size p = 0) :
    Calls Try.prog 26 #[.string s, .int .i64 p] w fun e w' =>
      e = .returned (.tuple #[.int .i64 (cntL p (bytesOf s)), .int .i64 (cntD p (bytesOf s)), .int .i64 (s.size - cntL p (bytesOf s) - cntD p (bytesOf s)), .int .i64 0]) ∧ Below w.heap.size w w' := by
  have HA := Lib.hid (fun w => hq ▸ asked_one s p w)
  have HL := Lib.hid (bytesOf_length s)
  have HLb := cntL_bd p (bytesOf s)
  have HDb := cntD_bd p (bytesOf s)
  rw [HL.out] at HLb HDb
  clear hq
  have hcv := fun W => print_bytes (P := Try.prog) 9 44 5 Try.underlying9 Try.underlying44 Try.underlying5 s W
  go_enter Try.func26, Try.ntmps26
  go_wp2_with (go_at_call 30; refine (HA.out _).mono ?_; rintro e w1 ⟨rfl, hd⟩; have HD := Aside0.mk hd; clear hd)
  have HB1 : Aside0 (Below w.heap.size w (Lib.bytesWorld w1 5 s)) := ⟨by
    obtain ⟨n1, rfl⟩ := HD.out.out
    exact bytes_below (pw_below_drewN (below_alloc (Below.refl _ _) _) _) (by simp) _ _⟩
  clear HD
  go_loopw [9, 10, 23] (fun a b i wr => ∃ k : Nat, i = .int .i64 k ∧ a = .int .i64 (cntL p ((bytesOf s).take k)) ∧ b = .int .i64 (cntD p ((bytesOf s).take k)) ∧ Aside0 (k ≤ s.size) ∧ Aside0 (Buf wr w1.heap.size 5 (nums .u8 (bytesOf s))) ∧
      Aside0 (Below w.heap.size w wr)) (fun _ _ i _ => s.size - (intOf i).toNat)
  case atStart => exact ⟨0, rfl, rfl, rfl, ⟨by omega⟩, ⟨buf_bytesWorld _ _ _⟩, HB1⟩
  case round =>
    obtain ⟨k, rfl, rfl, rfl, HK, HBuf, HB⟩ := hrel
    have hk := HK.out
    have HLk := cntL_bd p ((bytesOf s).take k)
    have HDk := cntD_bd p ((bytesOf s).take k)
    rw [List.length_take, HL.out] at HLk HDk
    by_cases hlt : k < s.size
    · have hc := HBuf.out.int k (by rw [HL.out]; exact hlt)
      have HT := Lib.hid (take_snoc (bytesOf s) k (by rw [HL.out]; exact hlt))
      generalize (bytesOf s).getD k 0 = b at hc HT
      have HT1 := Lib.hid (cntL_snoc p ((bytesOf s).take k) b)
      have HT2 := Lib.hid (cntD_snoc p ((bytesOf s).take k) b)
      have HI := Lib.hid (fun W => isL_call b p W)
      have HW := Lib.hid (fun W => within_call b W)
      generalize cntL p ((bytesOf s).take k) = x at HLk HT1 ⊢
      generalize cntD p ((bytesOf s).take k) = y at HDk HT2 ⊢
      by_cases hl : isL b p = true
      · rw [hl] at HI HT1 HT2
        clear hl
        go_wp2_with (first | (go_at_call 31; refine (HI.out _).mono ?_; rintro e w2 ⟨rfl, ⟨⟨n2, rfl⟩⟩⟩) | (go_at_call 47; refine (HW.out _).mono ?_; rintro e w2 ⟨rfl, ⟨⟨n2, rfl⟩⟩⟩))
        go_roundw
        case rel => exact ⟨k + 1, by go_num, by rw [HT.out, HT1.out]; simp, by rw [HT.out, HT2.out]; simp, ⟨by omega⟩, ⟨HBuf.out.drewN _⟩, ⟨pw_below_drewN HB.out _⟩⟩
        case measure => simp [intOf]; omega
      · have hl' : isL b p = false := by simpa using hl
        rw [hl'] at HI HT1 HT2
        clear hl hl'
        by_cases hd : isD b = true
        · rw [hd] at HW HT2
          clear hd
          go_wp2_with (first | (go_at_call 31; refine (HI.out _).mono ?_; rintro e w2 ⟨rfl, ⟨⟨n2, rfl⟩⟩⟩) | (go_at_call 47; refine (HW.out _).mono ?_; rintro e w2 ⟨rfl, ⟨⟨n2, rfl⟩⟩⟩))
          go_roundw
          case rel => exact ⟨k + 1, by go_num, by rw [HT.out, HT1.out]; simp, by rw [HT.out, HT2.out]; simp, ⟨by omega⟩, ⟨HBuf.out.drewN _⟩, ⟨pw_below_drewN HB.out _⟩⟩
          case measure => simp [intOf]; omega
        · have hd' : isD b = false := by simpa using hd
          rw [hd'] at HW HT2
          clear hd hd'
          go_wp2_with (first | (go_at_call 31; refine (HI.out _).mono ?_; rintro e w2 ⟨rfl, ⟨⟨n2, rfl⟩⟩⟩) | (go_at_call 47; refine (HW.out _).mono ?_; rintro e w2 ⟨rfl, ⟨⟨n2, rfl⟩⟩⟩))
          go_roundw
          case rel => exact ⟨k + 1, by go_num, by rw [HT.out, HT1.out]; simp, by rw [HT.out, HT2.out]; simp, ⟨by omega⟩, ⟨HBuf.out.drewN _⟩, ⟨pw_below_drewN HB.out _⟩⟩
          case measure => simp [intOf]; omega
    · have hke : k = s.size := by omega
      subst hke
      have hta : (bytesOf s).take s.size = bytesOf s := by rw [← HL.out, List.take_length]
      rw [hta]
      clear hta HLk HDk
      go_wp2
      refine bodyPost_ret (results_four rfl _ _ _) rfl ?_
      exact ⟨rfl, HB.out⟩
theorem count_call (s : ByteArray) (p : Int) (w : World) : Calls Try.prog 26 #[.string s, .int .i64 p] w fun e w' =>
    e = .returned (.tuple #[.int .i64 (countF s p).1, .int .i64 (countF s p).2.1, .int .i64 (countF s p).2.2.1, .int .i64 (countF s p).2.2.2]) ∧ Below w.heap.size w w' := by
  unfold countF
  by_cases h : askP s.size p = 0
  · rw [if_pos h]
    exact count_ok s p w (by have := askP_le h; omega) h
  · rw [if_neg h]
    have HA := Lib.hid (fun w => asked_one s p w)
    have hb : (askP s.size p != 0) = true := bne_iff_ne.2 h
    clear h
    generalize askP s.size p = q at HA hb ⊢
    go_enter Try.func26, Try.ntmps26
    go_wp2_with (go_at_call 30; refine (HA.out _).mono ?_; rintro e w1 ⟨rfl, ⟨⟨n1, rfl⟩⟩⟩)
    refine bodyPost_ret (results_four rfl _ _ _) rfl ?_
    exact ⟨rfl, (pw_below_drewN (below_alloc (Below.refl _ _) _) _)⟩
end Go.Proofs.Ytmjldihmcbjfhaa.H
