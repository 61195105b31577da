/-
  The reference's Like: its walk, what it computes, and the walk of the law PageLikes.
-/
import Derived.Test.YtmjldihmcbjfhaaHLike
import Derived.Test.YtmjldihmcbjfhaaHStill
import Derived.StillTailTactics
import Derived.BigRegion
import Derived.Test.YtmjldihmcbjfhaaHOrderLaw
namespace Go.Proofs.Ytmjldihmcbjfhaa.H
open Go.RowKit Go.Proofs.YtmjldihmcbjfhaaW.PrintWords Go.Proofs.YtmjldihmcbjfhaaW.PrintLast Go.Proofs.YtmjldihmcbjfhaaW.PrintMore Go.Proofs.Ytmjldihmcbjfhaa.PPageCases
set_option linter.unusedVariables false
set_option linter.unusedSimpArgs false

theorem rasked_two (P s : ByteArray) (p c : Int) (w : World) :
    Calls Try.prog 39 #[.int .i64 2048, .slice (some ⟨w.heap.size, 0, none⟩) 2 2, .int .i64 c, .slice (some ⟨w.heap.size + 1, 0, none⟩) 1 1] ((w.alloc (.cells #[.string P, .string s] 9)).alloc (.cells #[.int .i64 p] 3))
      fun e w' => e = .returned (.int .i64 (askC (max (P.size : Int) s.size) p c)) ∧ Drawn0 ((w.alloc (.cells #[.string P, .string s] 9)).alloc (.cells #[.int .i64 p] 3)) w' := by
  have h1 := Kd.C_below (C_strs w [P, s] (by simp)) (below_alloc (Below.refl _ _) (.cells #[.int .i64 p] 3))
  have h2 := C_ints (w.alloc (.cells #[.string P, .string s] 9)) [p] (by simp)
  have e : (w.alloc (.cells #[.string P, .string s] 9)).heap.size = w.heap.size + 1 := by simp
  rw [e] at h2
  exact PPageOrders.cabinetryref02_asked.calls 8 2048 _ 2 [P, s] c _ 1 [p] _ _ h1 (Nat.le_refl _) h2 (Nat.le_refl _) (rasked_f2 P s p c)
theorem info_bool : (Try.prog.info? 4).map (fun i => (i.zero, i.size, i.bytes)) = some (some (.bool false), 1, 1) := by kernel_rfl
theorem make_bools (m : Nat) (hm : m ≤ 281474976710656) : ∀ W : World, (Instr.makeSlice 55 (.int .i64 (m : Int)) (.int .i64 (m : Int))).run Try.prog W = .ok (.slice (some ⟨W.heap.size, 0, none⟩) m m) (W.alloc (.cells (madeCells #[.bool false] m) 4)) := by
  intro W
  exact run_make_row' 55 4 (.bool false) 1 Try.underlying55 info_bool rfl .i64 .i64 m (by omega) (by omega) W
theorem buf_made (W : World) (m : Nat) : Buf (W.alloc (.cells (madeCells #[.bool false] m) 4)) W.heap.size 4 (bools (List.replicate m false)) := by
  refine ⟨_, 0, 0, heap_alloc_new W _, ?_, .inr (Nat.le_refl _)⟩
  intro j hj
  have : (madeCells #[Value.bool false] m).toList = List.replicate m (.bool false) := toList_madeCells_one _ _
  rw [← Array.getElem?_toList, this]
  simp [bools]
theorem buf_first (W : World) (m : Nat) : Buf (W.alloc (.cells ((madeCells #[.bool false] (m + 1)).setIfInBounds 0 (.bool true)) 4)) W.heap.size 4 (bools (true :: List.replicate m false)) := by
  refine ⟨_, 0, 0, heap_alloc_new W _, ?_, .inr (Nat.le_refl _)⟩
  intro j hj
  have : (madeCells #[Value.bool false] (m + 1)).toList = List.replicate (m + 1) (.bool false) := toList_madeCells_one _ _
  rw [← Array.getElem?_toList, Array.toList_setIfInBounds, this, List.replicate_succ, List.set_cons_zero]
  simp [bools]
theorem Buf.bool {w : World} {g : Nat} {e : TypeId} {xs : List Bool} (h : Buf w g e (bools xs)) (i : Nat) (x : Bool) (hx : xs[i]? = some x) : w.cell? ⟨g, i, none⟩ = some (.bool x) := by
  rw [h.cell i (by have := (List.getElem?_eq_some_iff.1 hx).1; simpa [bools] using this)]
  simp [bools, hx]
theorem Buf.set_bool {w : World} {g : Nat} {e : TypeId} {xs : List Bool} (h : Buf w g e (bools xs)) (i : Nat) (v : Bool) : Buf (w.setCell ⟨g, i, none⟩ (.bool v)) g e (bools (xs.set i v)) := by
  have := h.set i (.bool v)
  rwa [show (bools xs).set i (.bool v) = bools (xs.set i v) by simp [bools, List.map_set]] at this

set_option maxRecDepth 100000 in
set_option maxHeartbeats 8000000 in
theorem rlike_ok (P s : ByteArray) (p c : Int) (w : World) (hP : P.size ≤ 2048) (hs : s.size ≤ 2048) (hq : askC (max (P.size : Int) s.size) p c = 0) :
    Calls Try.prog 22 #[.string P, .string s, .int .i64 p, .int .i64 c] w fun e w' => e = .returned (.tuple #[.bool (dp (takes p c) (bytesOf P) (bytesOf s) P.size s.size), .int .i64 0]) ∧ Below w.heap.size w w' := by
  have HA := Lib.hid (fun w => hq ▸ rasked_two P s p c w)
  have HWP : Hid (∀ (k : Nat) W, Calls Try.prog 40 #[.int .u8 ((bytesOf P).getD k 0), .int .i64 p, .int .i64 c] W fun e w' => e = .returned (.int .u8 (wt ((bytesOf P).getD k 0) p c)) ∧ w' = W) := Lib.hid (fun k W => by
    obtain ⟨⟨q, rfl⟩, d, rfl⟩ := askC_page hq
    have := rwt_at P k q d 24 (Nat.le_refl _)
    rw [bt_getD] at this
    exact (Still.cabinetryref02_weight 24 _ _ _ _ W this).mono fun e w' h => ⟨h.1, h.2.symm⟩)
  have HWS : Hid (∀ (k : Nat) W, Calls Try.prog 40 #[.int .u8 ((bytesOf s).getD k 0), .int .i64 p, .int .i64 c] W fun e w' => e = .returned (.int .u8 (wt ((bytesOf s).getD k 0) p c)) ∧ w' = W) := Lib.hid (fun k W => by
    obtain ⟨⟨q, rfl⟩, d, rfl⟩ := askC_page hq
    have := rwt_at s k q d 24 (Nat.le_refl _)
    rw [bt_getD] at this
    exact (Still.cabinetryref02_weight 24 _ _ _ _ W this).mono fun e w' h => ⟨h.1, h.2.symm⟩)
  have HLP := Lib.hid (bytesOf_length P)
  have HLS := Lib.hid (bytesOf_length s)
  have HMK := Lib.hid (make_bools (s.size + 1) (by omega))
  clear hq
  have hmk := HMK.out
  rw [show ((s.size + 1 : Nat) : Int) = (s.size : Int) + 1 by omega] at hmk
  have hz : ∀ W : World, (W.alloc (.cells (madeCells #[.bool false] (s.size + 1)) 4)).cell? ⟨W.heap.size, 0, none⟩ = some (.bool false) := fun W => (buf_made W (s.size + 1)).bool 0 false (by simp)
  go_enter Try.func22, Try.ntmps22
  go_wp2_with (go_at_call 39; refine (HA.out _).mono ?_; rintro e w1 ⟨rfl, hd⟩; have HD := Aside0.mk hd; clear hd)
  have hw1 : w.heap.size ≤ w1.heap.size := by obtain ⟨n1, rfl⟩ := HD.out.out; simp; omega
  have HB1 : Aside0 (Below w.heap.size w w1) := ⟨by
    obtain ⟨n1, rfl⟩ := HD.out.out
    exact pw_below_drewN (below_alloc (below_alloc (Below.refl _ _) _) _) _⟩
  clear HD
  go_loopw [11, 12] (fun v i wr => ∃ (k g : Nat), i = .int .i64 k ∧ v = .slice (some ⟨g, 0, none⟩) (s.size + 1) (s.size + 1) ∧ Aside0 (k ≤ P.size) ∧ Aside0 (w.heap.size ≤ g) ∧
      Aside0 (Buf wr g 4 (bools (row (takes p c) (bytesOf P) (bytesOf s) k))) ∧ Aside0 (Below w.heap.size w wr)) (fun _ i _ => P.size - (intOf i).toNat)
  case atStart =>
    refine ⟨0, w1.heap.size, rfl, rfl, ⟨by omega⟩, ⟨hw1⟩, ⟨?_⟩, ⟨HB1.out.alloc hw1 _⟩⟩
    rw [row_zero, HLS.out]
    exact buf_first _ _
  case round =>
    obtain ⟨k, g, rfl, rfl, HK, HGw, HBuf, HB⟩ := hrel
    have hk := HK.out
    by_cases hlt : k < P.size
    · have HWk := Lib.hid (HWP.out k)
      have HGL := HBuf.out.lt
      obtain ⟨wo, hwo⟩ : ∃ wo : World, wo = wr := ⟨_, rfl⟩
      subst hwo
      have hwo : w.heap.size ≤ wo.heap.size := HB.out.size
      have hne : g ≠ wo.heap.size := by omega
      have hbt := getElem_bt P k hlt
      obtain ⟨x, hx⟩ : ∃ x, x = (bytesOf P).getD k 0 := ⟨_, rfl⟩
      rw [← hx] at hbt
      rw [← hx] at HWk
      have HX := Lib.hid hx
      clear hx
      have HLR := Lib.hid (show (row (takes p c) (bytesOf P) (bytesOf s) (k + 1)).length = (List.replicate (s.size + 1) false).length by rw [row_length, HLS.out, List.length_replicate])
      have hkP : k < (bytesOf P).length := by rw [HLP.out]; exact hlt
      have HKP := Lib.hid hkP
      clear hkP
      go_wp2
      go_loopw [14] (fun v wq => ∃ j : Nat, v = .int .i64 j ∧ Aside0 (j ≤ s.size + 1) ∧ Aside0 (Buf wq g 4 (bools (row (takes p c) (bytesOf P) (bytesOf s) k))) ∧
          Aside0 (Buf wq wo.heap.size 4 (bools (mixG (row (takes p c) (bytesOf P) (bytesOf s) (k + 1)) (List.replicate (s.size + 1) false) j))) ∧ Aside0 (Below w.heap.size w wq)) (fun v _ => s.size + 1 - (intOf v).toNat)
      case atStart =>
        refine ⟨0, rfl, ⟨by omega⟩, ⟨HBuf.out.alloc _⟩, ⟨?_⟩, ⟨HB.out.alloc hwo _⟩⟩
        rw [mixG_zero]; exact buf_made _ _
      case round =>
        obtain ⟨wq, hwq⟩ : ∃ wq : World, wq = wr := ⟨_, rfl⟩
        subst hwq
        obtain ⟨j, rfl, HJ, HF, HX2, HBq⟩ := hrel
        have hj := HJ.out
        by_cases hjs : j ≤ s.size
        · have HRj := Lib.hid (row_get (takes p c) (bytesOf P) (bytesOf s) (k + 1) j (by rw [HLS.out]; exact hjs))
          have HRf := Lib.hid (row_get (takes p c) (bytesOf P) (bytesOf s) k j (by rw [HLS.out]; exact hjs))
          have hfr := HX2.out.frozen j (by simp [bools, mixG_length _ _ _ HLR.out]; omega)
          have hold : wq.cell? ⟨wo.heap.size, j, none⟩ = some (.bool false) := HX2.out.bool j false (by
            unfold mixG
            have hl : ((row (takes p c) (bytesOf P) (bytesOf s) (k + 1)).take j).length = j := by rw [List.length_take, row_length, HLS.out]; omega
            rw [List.getElem?_append_right (by rw [hl]; exact Nat.le_refl _), List.getElem?_drop, hl, Nat.sub_self, Nat.add_zero]
            rw [List.getElem?_replicate, if_pos (by omega)])
          by_cases h42 : x = 42
          · have hx1 : (x == 42) = true := beq_iff_eq.2 h42
            have hcell := HF.out.bool j _ HRf.out
            by_cases hj0 : j = 0
            · subst hj0
              have HV := Lib.hid (show dp (takes p c) (bytesOf P) (bytesOf s) (k + 1) 0 = (dp (takes p c) (bytesOf P) (bytesOf s) k 0) from dp_star0 _ _ _ k HKP.out (by rw [← HX.out]; exact h42))
              have HG1 : Aside0 (Buf (wq.setCell ⟨wo.heap.size, 0, none⟩ (.bool (dp (takes p c) (bytesOf P) (bytesOf s) k 0))) g 4 (bools (row (takes p c) (bytesOf P) (bytesOf s) k))) := ⟨HF.out.set_far (p := ⟨wo.heap.size, 0, none⟩) hne _⟩
              have HG2 : Aside0 (Buf (wq.setCell ⟨wo.heap.size, 0, none⟩ (.bool (dp (takes p c) (bytesOf P) (bytesOf s) k 0))) wo.heap.size 4 (bools (mixG (row (takes p c) (bytesOf P) (bytesOf s) (k + 1)) (List.replicate (s.size + 1) false) 1))) := ⟨by
                have h := HX2.out.set_bool 0 (dp (takes p c) (bytesOf P) (bytesOf s) (k + 1) 0)
                rw [mixG_set _ _ 0 _ HLR.out (by simp) HRj.out, HV.out] at h
                exact h⟩
              have HB2 : Aside0 (Below w.heap.size w (wq.setCell ⟨wo.heap.size, 0, none⟩ (.bool (dp (takes p c) (bytesOf P) (bytesOf s) k 0)))) := ⟨HBq.out.setCell hwo _⟩
              clear h42
              generalize dp (takes p c) (bytesOf P) (bytesOf s) k 0 = f at hcell HG1 HG2 HB2
              cases f
              · go_wp2
                go_roundw
                case rel => exact ⟨1, by rfl, ⟨by omega⟩, ⟨HG1.out⟩, ⟨HG2.out⟩, ⟨HB2.out⟩⟩
                case measure => simp [intOf]
              · go_wp2
                go_roundw
                case rel => exact ⟨1, by rfl, ⟨by omega⟩, ⟨HG1.out⟩, ⟨HG2.out⟩, ⟨HB2.out⟩⟩
                case measure => simp [intOf]
            · have hj1 : 0 < j := by omega
              have HRp := Lib.hid (row_get (takes p c) (bytesOf P) (bytesOf s) (k + 1) (j - 1) (by rw [HLS.out]; omega))
              have hcell2 := HX2.out.bool (j - 1) _ ((mixG_before _ _ (j - 1) j HLR.out (by omega) (by simp; omega)).trans HRp.out)
              have hj2 : ((j : Int) - 1).toNat = j - 1 := by omega
              have HV := Lib.hid (show dp (takes p c) (bytesOf P) (bytesOf s) (k + 1) j = (dp (takes p c) (bytesOf P) (bytesOf s) k j || dp (takes p c) (bytesOf P) (bytesOf s) (k + 1) (j - 1)) from (by have := dp_star (takes p c) (bytesOf P) (bytesOf s) k (j - 1) HKP.out (by rw [HLS.out]; omega) (by rw [← HX.out]; exact h42); rwa [show j - 1 + 1 = j by omega] at this))
              have HG1 : Aside0 (Buf (wq.setCell ⟨wo.heap.size, j, none⟩ (.bool (dp (takes p c) (bytesOf P) (bytesOf s) k j || dp (takes p c) (bytesOf P) (bytesOf s) (k + 1) (j - 1)))) g 4 (bools (row (takes p c) (bytesOf P) (bytesOf s) k))) := ⟨HF.out.set_far (p := ⟨wo.heap.size, j, none⟩) hne _⟩
              have HG2 : Aside0 (Buf (wq.setCell ⟨wo.heap.size, j, none⟩ (.bool (dp (takes p c) (bytesOf P) (bytesOf s) k j || dp (takes p c) (bytesOf P) (bytesOf s) (k + 1) (j - 1)))) wo.heap.size 4 (bools (mixG (row (takes p c) (bytesOf P) (bytesOf s) (k + 1)) (List.replicate (s.size + 1) false) (j + 1)))) := ⟨by
                have h := HX2.out.set_bool j (dp (takes p c) (bytesOf P) (bytesOf s) (k + 1) j)
                rw [mixG_set _ _ j _ HLR.out (by simp; omega) HRj.out, HV.out] at h
                exact h⟩
              have HB2 : Aside0 (Below w.heap.size w (wq.setCell ⟨wo.heap.size, j, none⟩ (.bool (dp (takes p c) (bytesOf P) (bytesOf s) k j || dp (takes p c) (bytesOf P) (bytesOf s) (k + 1) (j - 1))))) := ⟨HBq.out.setCell hwo _⟩
              clear h42 hj0 HV HRp HRj HRf
              generalize dp (takes p c) (bytesOf P) (bytesOf s) k j = f at hcell HG1 HG2 HB2
              generalize dp (takes p c) (bytesOf P) (bytesOf s) (k + 1) (j - 1) = f2 at hcell2 HG1 HG2 HB2
              cases f
              · go_wp2
                go_roundw
                case rel => exact ⟨j + 1, by go_num, ⟨by omega⟩, ⟨HG1.out⟩, ⟨HG2.out⟩, ⟨HB2.out⟩⟩
                case measure => simp [intOf]; omega
              · go_wp2
                go_roundw
                case rel => exact ⟨j + 1, by go_num, ⟨by omega⟩, ⟨HG1.out⟩, ⟨HG2.out⟩, ⟨HB2.out⟩⟩
                case measure => simp [intOf]; omega
          · have hx1 : (x == 42) = false := by simpa using h42
            have hc42 : (bytesOf P).getD k 0 ≠ 42 := by rw [← HX.out]; exact h42
            have HC42 := Lib.hid hc42
            clear hc42 h42
            by_cases hj0 : j = 0
            · subst hj0
              have HS0 : Aside0 (Buf wq wo.heap.size 4 (bools (mixG (row (takes p c) (bytesOf P) (bytesOf s) (k + 1)) (List.replicate (s.size + 1) false) 1))) := ⟨by
                rw [← mixG_same _ _ 0 HLR.out (by simp) (by rw [HRj.out, dp_one0 _ _ _ k HKP.out HC42.out]; simp)]
                exact HX2.out⟩
              go_wp2
              go_roundw
              case rel => exact ⟨1, by rfl, ⟨by omega⟩, ⟨HF.out⟩, ⟨HS0.out⟩, ⟨HBq.out⟩⟩
              case measure => simp [intOf]
            · have hj1 : 0 < j := by omega
              have hj4 : ((j : Int) == 0) = false := by simp; omega
              have hj2 : ((j : Int) - 1).toNat = j - 1 := by omega
              have HRp := Lib.hid (row_get (takes p c) (bytesOf P) (bytesOf s) k (j - 1) (by rw [HLS.out]; omega))
              have hcell := HF.out.bool (j - 1) _ HRp.out
              have hlt1 : j - 1 < s.size := by omega
              have hbs := getElem_bt s (j - 1) hlt1
              have HD1 := Lib.hid (show dp (takes p c) (bytesOf P) (bytesOf s) (k + 1) j = (dp (takes p c) (bytesOf P) (bytesOf s) k (j - 1) && takes p c ((bytesOf P).getD k 0) ((bytesOf s).getD (j - 1) 0)) by
                have := dp_one (takes p c) (bytesOf P) (bytesOf s) k (j - 1) HKP.out (by rw [HLS.out]; omega) HC42.out
                rwa [show j - 1 + 1 = j by omega] at this)
              have HWj := Lib.hid (HWS.out (j - 1))
              rw [← HX.out] at HD1
              obtain ⟨y, hy⟩ : ∃ y, y = (bytesOf s).getD (j - 1) 0 := ⟨_, rfl⟩
              rw [← hy] at hbs HD1 HWj
              clear hy hj0
              by_cases h63 : x = 63
              · have hx2 : (x == 63) = true := beq_iff_eq.2 h63
                have HV := Lib.hid (show dp (takes p c) (bytesOf P) (bytesOf s) (k + 1) j = (dp (takes p c) (bytesOf P) (bytesOf s) k (j - 1)) from (by rw [HD1.out]; unfold takes; rw [hx2]; simp))
                have HG1 : Aside0 (Buf (wq.setCell ⟨wo.heap.size, j, none⟩ (.bool (dp (takes p c) (bytesOf P) (bytesOf s) k (j - 1)))) g 4 (bools (row (takes p c) (bytesOf P) (bytesOf s) k))) := ⟨HF.out.set_far (p := ⟨wo.heap.size, j, none⟩) hne _⟩
                have HG2 : Aside0 (Buf (wq.setCell ⟨wo.heap.size, j, none⟩ (.bool (dp (takes p c) (bytesOf P) (bytesOf s) k (j - 1)))) wo.heap.size 4 (bools (mixG (row (takes p c) (bytesOf P) (bytesOf s) (k + 1)) (List.replicate (s.size + 1) false) (j + 1)))) := ⟨by
                  have h := HX2.out.set_bool j (dp (takes p c) (bytesOf P) (bytesOf s) (k + 1) j)
                  rw [mixG_set _ _ j _ HLR.out (by simp; omega) HRj.out, HV.out] at h
                  exact h⟩
                have HB2 : Aside0 (Below w.heap.size w (wq.setCell ⟨wo.heap.size, j, none⟩ (.bool (dp (takes p c) (bytesOf P) (bytesOf s) k (j - 1))))) := ⟨HBq.out.setCell hwo _⟩
                clear h63 HD1
                go_wp2
                go_roundw
                case rel => exact ⟨j + 1, by go_num, ⟨by omega⟩, ⟨HG1.out⟩, ⟨HG2.out⟩, ⟨HB2.out⟩⟩
                case measure => simp [intOf]; omega
              · have hx2 : (x == 63) = false := by simpa using h63
                obtain ⟨wd, hwd⟩ : ∃ wd : World, wd = wq.drew := ⟨_, rfl⟩
                have HBd : Aside0 (Below w.heap.size w wd) := ⟨by rw [hwd]; exact below_drew HBq.out⟩
                have HFd : Aside0 (Buf wd g 4 (bools (row (takes p c) (bytesOf P) (bytesOf s) k))) := ⟨by rw [hwd]; exact HF.out.drew⟩
                have HXd : Aside0 (Buf wd wo.heap.size 4 (bools (mixG (row (takes p c) (bytesOf P) (bytesOf s) (k + 1)) (List.replicate (s.size + 1) false) j))) := ⟨by rw [hwd]; exact HX2.out.drew⟩
                have hold0 := hold
                clear hcell hfr hold
                have hcq := HF.out.bool (j - 1) _ HRp.out
                have hfq := HX2.out.frozen j (by simp [bools, mixG_length _ _ _ HLR.out]; omega)
                have hoq := hold0
                have hcell := HFd.out.bool (j - 1) _ HRp.out
                have hfr := HXd.out.frozen j (by simp [bools, mixG_length _ _ _ HLR.out]; omega)
                have hold : wd.cell? ⟨wo.heap.size, j, none⟩ = some (.bool false) := HXd.out.bool j false (by
                  unfold mixG
                  have hl : ((row (takes p c) (bytesOf P) (bytesOf s) (k + 1)).take j).length = j := by rw [List.length_take, row_length, HLS.out]; omega
                  rw [List.getElem?_append_right (by rw [hl]; exact Nat.le_refl _), List.getElem?_drop, hl, Nat.sub_self, Nat.add_zero]
                  rw [List.getElem?_replicate, if_pos (by omega)])
                have HV := Lib.hid (show dp (takes p c) (bytesOf P) (bytesOf s) (k + 1) j = (dp (takes p c) (bytesOf P) (bytesOf s) k (j - 1) && wt x p c == wt y p c) from (by rw [HD1.out]; unfold takes; rw [hx2]; simp))
                have HG1 : Aside0 (Buf (wd.setCell ⟨wo.heap.size, j, none⟩ (.bool (dp (takes p c) (bytesOf P) (bytesOf s) k (j - 1) && wt x p c == wt y p c))) g 4 (bools (row (takes p c) (bytesOf P) (bytesOf s) k))) := ⟨HFd.out.set_far (p := ⟨wo.heap.size, j, none⟩) hne _⟩
                have HG2 : Aside0 (Buf (wd.setCell ⟨wo.heap.size, j, none⟩ (.bool (dp (takes p c) (bytesOf P) (bytesOf s) k (j - 1) && wt x p c == wt y p c))) wo.heap.size 4 (bools (mixG (row (takes p c) (bytesOf P) (bytesOf s) (k + 1)) (List.replicate (s.size + 1) false) (j + 1)))) := ⟨by
                  have h := HXd.out.set_bool j (dp (takes p c) (bytesOf P) (bytesOf s) (k + 1) j)
                  rw [mixG_set _ _ j _ HLR.out (by simp; omega) HRj.out, HV.out] at h
                  exact h⟩
                have HB2 : Aside0 (Below w.heap.size w (wd.setCell ⟨wo.heap.size, j, none⟩ (.bool (dp (takes p c) (bytesOf P) (bytesOf s) k (j - 1) && wt x p c == wt y p c)))) := ⟨HBd.out.setCell hwo _⟩
                clear h63 HD1 HV HRp HRj HRf HF HX2 HBq HFd HXd HBd
                have k1 : (1 : Int) ≤ (j : Int) := by omega
                have k2 : (0 : Int) ≤ (j : Int) - 1 := by omega
                have k3 : (j : Int) - 1 < (s.size : Int) + 1 := by omega
                have k4 : (j : Int) - 1 < (s.size : Int) := by omega
                have k5 : j < s.size + 1 := by omega
                have k7 : (j : Int) < (s.size : Int) + 1 := by omega
                have k6 : IntKind.i64.wrap ((j : Int) - 1) = (j : Int) - 1 := IntWalk.i64_in _ (by omega)
                generalize dp (takes p c) (bytesOf P) (bytesOf s) k (j - 1) = f at hcell hcq HG1 HG2 HB2
                cases f
                · go_wp2
                  clear hcell hfr hold
                  go_region
                  go_wp2
                  go_roundw
                  case rel => subst hwd; exact ⟨j + 1, by go_num, ⟨by omega⟩, ⟨HG1.out⟩, ⟨HG2.out⟩, ⟨HB2.out⟩⟩
                  case measure => simp [intOf]; omega
                · clear hcq hfq hoq hold0
                  go_wp2
                  refine wp_region_still_tail 24 (by kernel_rfl) (by kernel_rfl) ?_
                  simp only [List.take_succ_cons, List.take_zero, List.drop_succ_cons, List.drop_zero]
                  change wpStill _ _ wq.drew (fun a' => wpList _ _ _ _ a' wq.drew) _ _
                  rw [← hwd]
                  clear hwd
                  iterate 13 still_step
                  still_call (HWk.out _)
                  iterate 6 still_step
                  still_call (HWj.out _)
                  iterate 3 still_step
                  refine wpStill_nil ?_
                  go_wp2
                  go_roundw
                  case rel => exact ⟨j + 1, by go_num, ⟨by omega⟩, ⟨HG1.out⟩, ⟨HG2.out⟩, ⟨HB2.out⟩⟩
                  case measure => simp [intOf]; omega
        · have hje : j = s.size + 1 := by omega
          subst hje
          have HXE : Aside0 (Buf wq wo.heap.size 4 (bools (row (takes p c) (bytesOf P) (bytesOf s) (k + 1)))) := ⟨by
            have h := HX2.out
            have e := mixG_all (row (takes p c) (bytesOf P) (bytesOf s) (k + 1)) (List.replicate (s.size + 1) false) HLR.out
            rw [List.length_replicate] at e
            rwa [e] at h⟩
          go_wp2
          go_roundw
          case rel => exact ⟨k + 1, wo.heap.size, by go_num, rfl, ⟨by omega⟩, ⟨hwo⟩, HXE, HBq⟩
          case measure => simp [intOf]; omega
    · have hke : k = P.size := by omega
      subst hke
      have hcell := HBuf.out.bool s.size _ (by rw [show s.size = (bytesOf s).length from HLS.out.symm]; exact row_get _ _ _ _ _ (Nat.le_refl _))
      rw [HLS.out] at hcell
      go_wp2
      go_ret2
      exact ⟨rfl, HB.out⟩
end Go.Proofs.Ytmjldihmcbjfhaa.H

namespace Go.Proofs.Ytmjldihmcbjfhaa.H
open Go.RowKit Go.Proofs.YtmjldihmcbjfhaaW.PrintWords Go.Proofs.YtmjldihmcbjfhaaW.PrintLast Go.Proofs.YtmjldihmcbjfhaaW.PrintMore Go.Proofs.Ytmjldihmcbjfhaa.PPageCases
set_option linter.unusedVariables false
set_option linter.unusedSimpArgs false

theorem dp_likeB (P s : ByteArray) (p c : Int) : dp (takes p c) (bytesOf P) (bytesOf s) P.size s.size = likeB P s p c := by
  have h := dp_all (takes p c) (bytesOf P) (bytesOf s)
  rw [bytesOf_length, bytesOf_length] at h
  rw [Bool.eq_iff_iff, h, likeB_iff]
  exact Iff.rfl
set_option maxHeartbeats 1000000 in
theorem rlike_call (P s : ByteArray) (p c : Int) (w : World) : Calls Try.prog 22 #[.string P, .string s, .int .i64 p, .int .i64 c] w fun e w' =>
    e = .returned (.tuple #[.bool (likeF P s p c).1, .int .i64 (likeF P s p c).2]) ∧ Below w.heap.size w w' := by
  unfold likeF
  by_cases h : askC (max (P.size : Int) s.size) p c = 0
  · have hle := askC_le h
    rw [if_pos h, ← dp_likeB]
    exact rlike_ok P s p c w (by omega) (by omega) h
  · rw [if_neg h]
    have HA := Lib.hid (fun w => rasked_two P s p c w)
    have hb : (askC (max (P.size : Int) s.size) p c != 0) = true := bne_iff_ne.2 h
    clear h
    generalize askC (max (P.size : Int) s.size) p c = q at HA hb ⊢
    go_enter Try.func22, Try.ntmps22
    go_wp2_with (go_at_call 39; refine (HA.out _).mono ?_; rintro e w1 ⟨rfl, ⟨⟨n1, rfl⟩⟩⟩)
    go_ret2
    exact ⟨rfl, pw_below_drewN (below_alloc (below_alloc (Below.refl _ _) _) _) _⟩
end Go.Proofs.Ytmjldihmcbjfhaa.H

namespace Go.Proofs.Ytmjldihmcbjfhaa.H
open Go.RowKit Go.Proofs.YtmjldihmcbjfhaaW.PrintWords Go.Proofs.YtmjldihmcbjfhaaW.PrintLast Go.Proofs.YtmjldihmcbjfhaaW.PrintMore
set_option linter.unusedVariables false
set_option linter.unusedSimpArgs false

set_option maxHeartbeats 2000000 in
theorem law_likes (s t : ByteArray) (p c : Int) (w : World) (hs : s.size ≤ maxLen) (ht : t.size ≤ maxLen) :
    Calls Try.prog 7 #[.string s, .string t, .agg #[.int .i64 p, .int .i64 c]] w fun e w' => e = .returned (.bool true) ∧ Below w.heap.size w w' := by
  have HO := Lib.hid (fun w => over_call s w)
  have HO2 := Lib.hid (fun w => over_call t w)
  have HK := Lib.hid (fun w => known_call w)
  have H1 := Lib.hid (fun w => like_call s t p c w)
  have H2 := Lib.hid (fun w => rlike_call s t p c w)
  generalize likeF s t p c = r1 at H1 H2
  obtain ⟨a1, a2⟩ := r1
  generalize decide ((s.size : Int) > 16384) = o1 at HO
  generalize decide ((t.size : Int) > 16384) = o2 at HO2
  clear hs ht
  cases o1
  · cases o2
    · go_enter Try.func7, Try.ntmps7
      go_wp2_with (first | (go_at_call 10; with_reducible refine (HO.out _).mono ?_; rintro e w0 ⟨rfl, ⟨⟨n1, rfl⟩⟩⟩) | (go_at_call 10; with_reducible refine (HO2.out _).mono ?_; rintro e w0 ⟨rfl, ⟨⟨n1, rfl⟩⟩⟩) | (go_at_call 21; refine (H1.out _).mono ?_; rintro e w1 ⟨rfl, hb1⟩; have hx1 := boxed (w := w) (g := w.heap.size) hb1 (heap_alloc_new w _); have c1_0 := (blk_cell hx1 0).trans rfl; have c1_1 := (blk_cell hx1 1).trans rfl; have HX1 := Aside0.mk hx1; clear hx1; have HB1 := Aside0.mk hb1; clear hb1) | (go_at_call 22; refine (H2.out _).mono ?_; rintro e w2 ⟨rfl, hb2⟩; have HB2 := Aside0.mk hb2; clear hb2) | (go_at_call 11; refine (HK.out _).mono ?_; rintro e w9 ⟨rfl, hb9⟩; have HB9 := Aside0.mk hb9; clear hb9))
      go_ret
      exact ⟨by simp, nx (nx ((pw_below_drewN (below_alloc (Below.refl _ _) _) _).trans (HB1.out.mono (by simp))) HB2.out) HB9.out⟩
    · go_enter Try.func7, Try.ntmps7
      go_wp2_with (first | (go_at_call 10; with_reducible refine (HO.out _).mono ?_; rintro e w0 ⟨rfl, ⟨⟨n1, rfl⟩⟩⟩) | (go_at_call 10; with_reducible refine (HO2.out _).mono ?_; rintro e w0 ⟨rfl, ⟨⟨n1, rfl⟩⟩⟩) | (go_at_call 11; refine (HK.out _).mono ?_; rintro e w9 ⟨rfl, hb9⟩; have HB9 := Aside0.mk hb9; clear hb9))
      go_ret
      exact ⟨rfl, ((pw_below_drewN (below_alloc (Below.refl _ _) _) _).trans (HB9.out.mono (by simp)))⟩
  · go_enter Try.func7, Try.ntmps7
    go_wp2_with (first | (go_at_call 10; with_reducible refine (HO.out _).mono ?_; rintro e w0 ⟨rfl, ⟨⟨n1, rfl⟩⟩⟩) | (go_at_call 11; refine (HK.out _).mono ?_; rintro e w9 ⟨rfl, hb9⟩; have HB9 := Aside0.mk hb9; clear hb9))
    go_ret
    exact ⟨rfl, ((pw_below_drewN (below_alloc (Below.refl _ _) _) _).trans (HB9.out.mono (by simp)))⟩
end Go.Proofs.Ytmjldihmcbjfhaa.H
