/-
  The table of all pages, and the byte of a character: the walks of pages and byteOf, and Convert.
-/
import Derived.Test.YtmjldihmcbjfhaaDoorHPageX
import Derived.Deep.MidRow
import Derived.Laws.Rows
namespace Go.Proofs.YtmjldihmcbjfhaaDoor.H
open Go.RowKit Go.Proofs.YtmjldihmcbjfhaaDoorW.PrintWords Go.Proofs.YtmjldihmcbjfhaaDoorW.PrintLast Go.Proofs.YtmjldihmcbjfhaaDoorW.PrintMore Go.Proofs.YtmjldihmcbjfhaaDoor.PPageEncodes
set_option linter.unusedVariables false
set_option linter.unusedSimpArgs false

theorem info_i32 : (Tryd.prog.info? 21).map (fun i => (i.zero, i.size, i.bytes)) = some (some (.int .i32 0), 1, 4) := by kernel_rfl
theorem zero_pages : (Tryd.prog.info? 34).map (fun i => (i.zero, i.size)) = some (some (.agg (Array.replicate 768 (.int .i32 0))), 768) := by kernel_rfl
theorem zero_chars : (Tryd.prog.info? 33).map (fun i => (i.zero, i.size)) = some (some (.agg (Array.replicate 256 (.int .i32 0))), 256) := by kernel_rfl

theorem Buf.range {w : World} {g : Nat} {e : TypeId} {xs : List Value} (h : Buf w g e xs) : w.rangeAt g 0 xs := fun j v hv => by
  rw [Nat.zero_add, h.cell j (List.getElem?_eq_some_iff.1 hv).1, hv]
theorem there_of_buf {w : World} {g : Nat} {e : TypeId} {xs : List Value} (h : Buf w g e xs) {n : Nat} (hn : n ≤ xs.length) : w.there g 0 n := fun j hj => by
  have hj' : j < xs.length := by omega
  rw [Nat.zero_add, h.cell j hj', h.frozen j hj', List.getElem?_eq_getElem hj']
  exact ⟨rfl, rfl⟩
theorem nums_len {k : IntKind} (xs : List Int) : (nums k xs).length = xs.length := by simp [nums]
theorem nums_one {k : IntKind} {xs : List Int} : ∀ v ∈ nums k xs, v.oneCell' = true := by
  intro v hv
  obtain ⟨x, _, rfl⟩ := List.mem_map.1 hv
  rfl
theorem below_setCells_own {B b : Nat} {a : World} (hb : B ≤ b) : ∀ (vs : List Value) (o : Nat) (w : World), Below B a w → Below B a (w.setCells b o vs)
  | [], _, _, h => h
  | v :: vs, o, w, h => below_setCells_own hb vs (o + 1) _ (h.setCell hb v)
theorem results_cell_mid {P : Program} {fn : Func} {p : Tmp} {ty : TypeId} (h : fn.results = #[.cell p ty]) (tmps : Array Value) (w : World) (b o : Nat) (cs : List Value) (d : TypeDesc)
    (hp : tmps.getD p undef = .pointer (some ⟨b, o, none⟩)) (hc : w.rangeAt b o cs)
    (hu : P.underlying ty = some d) (hd : d.isRow = true) (hi : (P.info? ty).map (·.size) = some cs.length) :
    (results fn tmps).run P w = .ok (.agg cs.toArray) w := by
  have hp' : tmps[p]?.getD undef = .pointer (some ⟨b, o, none⟩) := by simpa using hp
  simp [results, h, hp', asAddr, run_loadVar_mid w b o ty cs d hc hu hd hi]
theorem wpList_allocZ {P : Program} {ops : Array Oper} {rest : List Oper} {o : Oper} {a : Act} {w : World} {Q : Exit → Act → World → Prop} (hg : o.guard = none) (t : TypeId) (ho : o.op = .alloc t)
    (n : Nat) (v : Value) (hz : (P.info? t).map (fun i => (i.zero, i.size)) = some (some (.agg (Array.replicate n v)), n))
    (h : ∀ Z : Array Value, Aside0 (Z.size = n) → Aside0 (Z = Array.replicate n v) → wpList P ops Q rest (a.put o.dst (.pointer (some ⟨w.heap.size, 0, none⟩))) (w.alloc (.cells Z t))) : wpList P ops Q (o :: rest) a w := by
  have hrun : (execOp a.eval o).run P w = .ok (.value (.pointer (some ⟨w.heap.size, 0, none⟩))) (w.alloc (.cells (Array.replicate n v) t)) := by
    unfold execOp
    cases hi : P.info? t with
    | none => simp [hi] at hz
    | some i =>
      have h1 : i.zero = some (.agg (Array.replicate n v)) := by simp [hi] at hz; exact hz.1
      simp [ho, Sem.run_bind, Instr.alloc, zeroValue, typeInfo, hi, h1, newVar, newRow, Value.cells]
  refine wpList_plain hg fun K hK => ?_
  unfold Oper.wp
  rw [hrun, Oper.upon_value]
  exact hK _ _ (h _ ⟨by simp⟩ ⟨rfl⟩)

/-- A table of 768 numbers. -/
def tab (f : Nat → Int) : List Int := (List.range 768).map f
theorem tab_length (f : Nat → Int) : (tab f).length = 768 := by simp [tab]
theorem tab_get (f : Nat → Int) (i : Nat) (h : i < 768) : (tab f).getD i 0 = f i := by
  simp [tab, List.getD_eq_getElem?_getD, h]
theorem tab_set (f : Nat → Int) (i : Nat) (v : Int) : (tab f).set i v = tab (fun j => if j = i then v else f j) := by
  apply List.ext_getElem?
  intro j
  rw [List.getElem?_set]
  by_cases hj : j < 768
  · by_cases e : i = j
    · subst e; simp [tab, hj]
    · simp [tab, hj, e, Ne.symm e]
  · by_cases e : i = j
    · subst e; simp [tab, hj]
    · simp [tab, hj, e]
theorem tab_congr {f g : Nat → Int} (h : ∀ j, j < 768 → f j = g j) : tab f = tab g := by
  unfold tab
  apply List.map_congr_left
  intro j hj
  exact h j (by simpa using hj)
def pg1 (k j : Nat) : Int := if j % 256 < k then (if j / 256 = 1 ∨ j % 256 < 128 then ((j % 256 : Nat) : Int) else -1) else 0
def pg2 (k j : Nat) : Int := if j / 256 = 2 ∧ 128 ≤ j % 256 ∧ j % 256 < k then 1040 + (((j % 256 : Nat) : Int) - 128) else pg1 256 j
def pg3 (k j : Nat) : Int := if j / 256 = 2 ∧ 224 ≤ j % 256 ∧ j % 256 < k then 1088 + (((j % 256 : Nat) : Int) - 224) else pg2 176 j
theorem pg1_succ (k : Nat) (hk : k < 256) (c : Int) (hc : c = if k < 128 then (k : Int) else -1) : (((tab (pg1 k)).set (256 + k) k).set k c).set (512 + k) c = tab (pg1 (k + 1)) := by
  rw [tab_set, tab_set, tab_set]
  refine tab_congr fun j hj => ?_
  subst hc
  unfold pg1
  by_cases e : j % 256 = k
  · have : j / 256 = 0 ∨ j / 256 = 1 ∨ j / 256 = 2 := by omega
    rcases this with h | h | h
    · have hj : j = k := by omega
      rw [if_neg (by omega), if_pos (by omega), if_pos (show j % 256 < k + 1 by omega), h]
      by_cases hk2 : k < 128
      · rw [if_pos hk2, if_pos (by omega)]; omega
      · rw [if_neg hk2, if_neg (by omega)]
    · have hj : j = 256 + k := by omega
      rw [if_neg (by omega), if_neg (by omega), if_pos (by omega), if_pos (show j % 256 < k + 1 by omega), h, if_pos (by omega)]; omega
    · have hj : j = 512 + k := by omega
      rw [if_pos (by omega), if_pos (show j % 256 < k + 1 by omega), h]
      by_cases hk2 : k < 128
      · rw [if_pos hk2, if_pos (by omega)]; omega
      · rw [if_neg hk2, if_neg (by omega)]
  · rw [if_neg (by omega), if_neg (by omega), if_neg (by omega)]
    by_cases h : j % 256 < k
    · rw [if_pos h, if_pos (show j % 256 < k + 1 by omega)]
    · rw [if_neg h, if_neg (show ¬ j % 256 < k + 1 by omega)]
theorem pg2_succ (k : Nat) (hk : 128 ≤ k) (hk2 : k < 176) : (tab (pg2 k)).set (512 + k) (1040 + ((k : Int) - 128)) = tab (pg2 (k + 1)) := by
  rw [tab_set]
  refine tab_congr fun j hj => ?_
  unfold pg2
  by_cases e : j = 512 + k
  · rw [if_pos e, if_pos (by omega)]; omega
  · rw [if_neg e]
    by_cases h : j / 256 = 2 ∧ 128 ≤ j % 256 ∧ j % 256 < k
    · rw [if_pos h, if_pos (by omega)]
    · rw [if_neg h, if_neg (by omega)]
theorem pg3_succ (k : Nat) (hk : 224 ≤ k) (hk2 : k < 240) : (tab (pg3 k)).set (512 + k) (1088 + ((k : Int) - 224)) = tab (pg3 (k + 1)) := by
  rw [tab_set]
  refine tab_congr fun j hj => ?_
  unfold pg3
  by_cases e : j = 512 + k
  · rw [if_pos e, if_pos (by omega)]; omega
  · rw [if_neg e]
    by_cases h : j / 256 = 2 ∧ 224 ≤ j % 256 ∧ j % 256 < k
    · rw [if_pos h, if_pos (by omega)]
    · rw [if_neg h, if_neg (by omega)]
theorem pg2_start : tab (pg1 256) = tab (pg2 128) := tab_congr fun j hj => by unfold pg2; rw [if_neg (by omega)]
theorem pg3_start : tab (pg2 176) = tab (pg3 224) := tab_congr fun j hj => by unfold pg3; rw [if_neg (by omega)]
theorem nums_replicate_aux (n : Nat) (f : Nat → Int) (v : Int) (h : ∀ j, f j = v) : nums .i32 ((List.range n).map f) = List.replicate n (.int .i32 v) := by
  unfold nums
  rw [List.map_map]
  apply List.ext_getElem?
  intro i
  by_cases hi : i < n
  · simp [hi, h]
  · simp [hi]
theorem nums_replicate : nums .i32 (tab (pg1 0)) = List.replicate 768 (.int .i32 0) :=
  nums_replicate_aux 768 _ 0 fun j => if_neg (Nat.not_lt_zero _)
/-- The characters of all pages. -/
def allPages : List Int := tab (pg3 240)
theorem allPages_len : allPages.length = 768 := tab_length _

theorem buf_zero_aux (w : World) (n : Nat) (Z : Array Value) (t : TypeId) (v : Value) (h : Z = Array.replicate n v) : Buf (w.alloc (.cells Z t)) w.heap.size t (List.replicate n v) := by
  refine ⟨Z, 0, 0, heap_alloc_new _ _, ?_, Or.inr (Nat.le_refl _)⟩
  intro j hj
  rw [h]
  have : j < n := by simpa using hj
  simp [this]
theorem buf_zero (w : World) (Z : Array Value) (t : TypeId) (h : Z = Array.replicate 768 (.int .i32 0)) : Buf (w.alloc (.cells Z t)) w.heap.size t (nums .i32 (tab (pg1 0))) := by
  rw [nums_replicate]
  exact buf_zero_aux w 768 Z t _ h

set_option maxHeartbeats 2000000 in
set_option maxRecDepth 100000 in
theorem pages_call (w : World) : Calls Tryd.prog 17 #[] w fun e w' => e = .returned (.agg (nums .i32 allPages).toArray) ∧ Below w.heap.size w w' := by
  go_enter Tryd.func17, Tryd.ntmps17
  have tok1 : True := trivial
  go_wp2_with (first | (have _t := tok1; with_reducible refine wpList_allocZ rfl _ rfl 768 (.int .i32 0) zero_pages ?_; rintro Z0 HZ0 HZ02; clear _t tok1) | (with_reducible refine wpList_allocZ rfl _ rfl 768 (.int .i32 0) zero_pages ?_; rintro Z HZ HZ2))
  go_loopw [6] (fun i wr => ∃ k : Nat, i = .int .i64 k ∧ Aside0 (k ≤ 256) ∧ Aside0 (Buf wr (w.heap.size + 1) 34 (nums .i32 (tab (pg1 k)))) ∧ Aside0 (Buf wr w.heap.size 34 (List.replicate 768 (.int .i32 0))) ∧ Aside0 (Below w.heap.size w wr)) (fun i _ => 256 - (intOf i).toNat)
  case atStart =>
    refine ⟨0, rfl, ⟨by omega⟩, ⟨?_⟩, ⟨?_⟩, ⟨?_⟩⟩
    · have := buf_zero (w.alloc (.cells Z0 34)) Z 34 HZ2.out
      simpa using this
    · exact (buf_zero_aux w 768 Z0 34 _ HZ02.out).alloc _
    · exact below_alloc (below_alloc (Below.refl _ _) _) _
  case round =>
    obtain ⟨k, rfl, HK, HBuf, HBuf0, HB⟩ := hrel
    have hk := HK.out
    by_cases hlt : k < 256
    · have hl : ∀ f, (nums .i32 (tab f)).length = 768 := fun f => by simp [nums, tab_length]
      have hc1 := HBuf.out.int (256 + k) (by rw [tab_length]; omega)
      have hf1 := HBuf.out.frozen (256 + k) (by rw [hl]; omega)
      have hc2 := HBuf.out.int k (by rw [tab_length]; omega)
      have hf2 := HBuf.out.frozen k (by rw [hl]; omega)
      have hc3 := HBuf.out.int (512 + k) (by rw [tab_length]; omega)
      have hf3 := HBuf.out.frozen (512 + k) (by rw [hl]; omega)
      clear hl
      generalize Value.int .i32 ((tab (pg1 k)).getD (256 + k) 0) = v1 at hc1
      generalize Value.int .i32 ((tab (pg1 k)).getD k 0) = v2 at hc2
      generalize Value.int .i32 ((tab (pg1 k)).getD (512 + k) 0) = v3 at hc3
      go_wp2
      · have hge : ¬ k < 128 := by omega
        go_roundw
        case rel =>
          refine ⟨k + 1, by go_num, ⟨by omega⟩, ⟨?_⟩, ⟨?_⟩, ⟨?_⟩⟩
          · have h := ((HBuf.out.set_int (256 + k) k).set_int k (-1)).set_int (512 + k) (-1)
            rwa [pg1_succ k hlt (-1) (by rw [if_neg hge])] at h
          · exact ((HBuf0.out.set_far (by simp) _).set_far (by simp) _).set_far (by simp) _
          · exact ((HB.out.setCell (by simp) _).setCell (by simp) _).setCell (by simp) _
        case measure => simp [intOf]; omega
      · have hge : k < 128 := by omega
        go_roundw
        case rel =>
          refine ⟨k + 1, by go_num, ⟨by omega⟩, ⟨?_⟩, ⟨?_⟩, ⟨?_⟩⟩
          · have h := ((HBuf.out.set_int (256 + k) k).set_int k k).set_int (512 + k) k
            rwa [pg1_succ k hlt k (by rw [if_pos hge])] at h
          · exact ((HBuf0.out.set_far (by simp) _).set_far (by simp) _).set_far (by simp) _
          · exact ((HB.out.setCell (by simp) _).setCell (by simp) _).setCell (by simp) _
        case measure => simp [intOf]; omega
    · obtain rfl : k = 256 := by omega
      clear hk hlt HK
      have HBuf2 : Aside0 (Buf wr (w.heap.size + 1) 34 (nums .i32 (tab (pg2 128)))) := ⟨pg2_start ▸ HBuf.out⟩
      clear HBuf
      go_wp2
      go_loopw [4] (fun i wr => ∃ k : Nat, i = .int .i64 k ∧ Aside0 (128 ≤ k ∧ k ≤ 176) ∧ Aside0 (Buf wr (w.heap.size + 1) 34 (nums .i32 (tab (pg2 k)))) ∧ Aside0 (Buf wr w.heap.size 34 (List.replicate 768 (.int .i32 0))) ∧ Aside0 (Below w.heap.size w wr)) (fun i _ => 256 - (intOf i).toNat)
      case atStart => exact ⟨128, rfl, ⟨by omega⟩, HBuf2, HBuf0, HB⟩
      case round =>
        clear HBuf2 HBuf0 HB
        obtain ⟨k, rfl, HK, HBuf, HBuf0, HB⟩ := hrel
        have hk1 := HK.out.1
        have hk2 := HK.out.2
        by_cases hlt : k < 176
        · have hc3 := HBuf.out.int (512 + k) (by rw [tab_length]; omega)
          have hf3 := HBuf.out.frozen (512 + k) (by simp only [nums, List.length_map, tab_length]; omega)
          generalize Value.int .i32 ((tab (pg2 k)).getD (512 + k) 0) = v3 at hc3
          go_wp2
          go_roundw
          case rel =>
            refine ⟨k + 1, by go_num, ⟨by omega⟩, ⟨?_⟩, ⟨?_⟩, ⟨?_⟩⟩
            · have h := HBuf.out.set_int (512 + k) (1040 + ((k : Int) - 128))
              rwa [pg2_succ k hk1 hlt] at h
            · exact HBuf0.out.set_far (by simp) _
            · exact HB.out.setCell (by simp) _
          case measure => simp [intOf]; omega
        · obtain rfl : k = 176 := by omega
          clear hk1 hk2 hlt HK
          have HBuf2 : Aside0 (Buf wr (w.heap.size + 1) 34 (nums .i32 (tab (pg3 224)))) := ⟨pg3_start ▸ HBuf.out⟩
          clear HBuf
          go_wp2
          go_loopw [5] (fun i wr => ∃ k : Nat, i = .int .i64 k ∧ Aside0 (224 ≤ k ∧ k ≤ 240) ∧ Aside0 (Buf wr (w.heap.size + 1) 34 (nums .i32 (tab (pg3 k)))) ∧ Aside0 (Buf wr w.heap.size 34 (List.replicate 768 (.int .i32 0))) ∧ Aside0 (Below w.heap.size w wr)) (fun i _ => 256 - (intOf i).toNat)
          case atStart => exact ⟨224, rfl, ⟨by omega⟩, HBuf2, HBuf0, HB⟩
          case round =>
            clear HBuf2 HBuf0 HB
            obtain ⟨k, rfl, HK, HBuf, HBuf0, HB⟩ := hrel
            have hk1 := HK.out.1
            have hk2 := HK.out.2
            by_cases hlt : k < 240
            · have hc3 := HBuf.out.int (512 + k) (by rw [tab_length]; omega)
              have hf3 := HBuf.out.frozen (512 + k) (by simp only [nums, List.length_map, tab_length]; omega)
              generalize Value.int .i32 ((tab (pg3 k)).getD (512 + k) 0) = v3 at hc3
              go_wp2
              go_roundw
              case rel =>
                refine ⟨k + 1, by go_num, ⟨by omega⟩, ⟨?_⟩, ⟨?_⟩, ⟨?_⟩⟩
                · have h := HBuf.out.set_int (512 + k) (1088 + ((k : Int) - 224))
                  rwa [pg3_succ k hk1 hlt] at h
                · exact HBuf0.out.set_far (by simp) _
                · exact HB.out.setCell (by simp) _
              case measure => simp [intOf]; omega
            · obtain rfl : k = 240 := by omega
              clear hk1 hk2 hlt HK
              have hr := HBuf.out.range
              go_wp2_with (first
                | (refine wpList_load_mid (op := ⟨some 48, _, _, _, _, _⟩) rfl 34 _ rfl (w.heap.size + 1) 0 rfl (nums .i32 allPages) (.array 3 33) hr (by kernel_rfl) rfl ?_ ?_; (rw [nums_len, allPages_len]; kernel_rfl))
                | (refine wpList_store_mid (op := ⟨none, .store 34 _ _, _, _, _, _⟩) rfl 34 _ _ rfl w.heap.size 0 (nums .i32 allPages).toArray rfl rfl ?c1 ?c2 ?c3 ?_; (case c1 => exact there_of_buf HBuf0.out (by rw [List.length_replicate, List.size_toArray, nums_len, allPages_len]; exact Nat.le_refl _)); (case c2 => (rw [List.size_toArray, nums_len, allPages_len]; kernel_rfl)); (case c3 => exact all_oneCell_toArray nums_one)))
              have hth : wr.there w.heap.size 0 (nums .i32 allPages).length := there_of_buf HBuf0.out (by rw [List.length_replicate, nums_len, allPages_len]; exact Nat.le_refl _)
              have hrs := World.rangeAt_setCells_same wr w.heap.size 0 (nums .i32 allPages) hth
              refine bodyPost_ret (v := .agg (nums .i32 allPages).toArray) ?_ rfl ⟨rfl, below_setCells_own (Nat.le_refl _) _ _ _ HB.out⟩
              exact results_cell_mid Tryd.results17 _ _ w.heap.size 0 (nums .i32 allPages) (.array 3 33) rfl hrs (by kernel_rfl) rfl (by rw [nums_len, allPages_len]; kernel_rfl)
end Go.Proofs.YtmjldihmcbjfhaaDoor.H
