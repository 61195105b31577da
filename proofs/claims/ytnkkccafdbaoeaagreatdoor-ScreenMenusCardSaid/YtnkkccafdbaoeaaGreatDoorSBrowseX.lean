/-
  A browse, whole: the program's and the reference's walked; two lists of numbers that are equal.
-/
import Derived.Test.YtnkkccafdbaoeaaGreatDoorSBrowseW
import Derived.Test.YtnkkccafdbaoeaaGreatDoorSClone
namespace Go.Proofs.YtnkkccafdbaoeaaGreatDoor.H
open Go.RowKit Go.Proofs.YtnkkccafdbaoeaaGreatDoorW.PrintWords Go.Proofs.YtnkkccafdbaoeaaGreatDoorW.PrintLast Go.Proofs.YtnkkccafdbaoeaaGreatDoorW.PrintMore
set_option linter.unusedVariables false
set_option linter.unusedSimpArgs false

/-- Whether the first numbers rise. -/
def upTo (xs : List Int) : Nat → Bool
  | 0 => true
  | k + 1 => upTo xs k && (k == 0 || decide (xs.getD (k - 1) 0 < xs.getD k 0))
theorem upTo_false {xs : List Int} {k m : Nat} (h : upTo xs k = false) (hm : k ≤ m) : upTo xs m = false := by
  induction hm with
  | refl => exact h
  | step _ ih => unfold upTo; rw [ih]; rfl
/-- What a browse gives: the row at the bar, the rows that are shown, the result. -/
def brF (xs : List Int) (page : Int) (ks : List Int) : Int × List Int × Int :=
  if upTo xs xs.length = true ∧ xs.length ≤ 300 ∧ 1 ≤ page ∧ page ≤ 25 then
    (if xs.length = 0 then (0, [], 0)
    else (xs.getD (ks.foldl (bKey xs.length page) (0, 0)).2.toNat 0, (xs.drop (ks.foldl (bKey xs.length page) (0, 0)).1.toNat).take (min ((ks.foldl (bKey xs.length page) (0, 0)).1 + page) xs.length - (ks.foldl (bKey xs.length page) (0, 0)).1).toNat, 0))
  else (0, [], 1)
def BrOut (w : World) (r : Int × List Int × Int) (e : Ending) (w' : World) : Prop :=
  ∃ v, e = .returned (.tuple #[.int .i64 r.1, v, .int .i64 r.2.2]) ∧ w'.ownsRow w.heap.size 3 1 v r.2.1.length (nums .i64 r.2.1) ∧ Below w.heap.size w w'
theorem BrOut.none {w w' : World} {r : Int × List Int × Int} (c : Int) (hr : r = (0, [], c)) (hb : Below w.heap.size w w') : BrOut w r (.returned (.tuple #[.int .i64 0, .slice none 0 0, .int .i64 c])) w' := by
  subst hr
  exact ⟨_, rfl, ⟨rfl, Or.inl ⟨rfl, rfl⟩⟩, hb⟩
/-- A row that is owned from some block on is owned from an earlier one on. -/
theorem own_from {w : World} {B B' n : Nat} {e : TypeId} {v : Value} {xs : List Value} (h : w.ownsRow B e 1 v n xs) (hB : B' ≤ B) : w.ownsRow B' e 1 v n xs := by
  obtain ⟨h1, h2⟩ := h
  refine ⟨h1, ?_⟩
  rcases h2 with h2 | ⟨g, cap, cur, rfl, h3, h4⟩
  · exact Or.inl h2
  · exact Or.inr ⟨g, cap, cur, rfl, Nat.le_trans hB h3, h4⟩
/-- append(v, l...), l a part of a row; behind 'at_builtin'. -/
theorem append_seg {P : Program} {ops : Array Oper} {rest : List Oper} {o : Oper} {a : Act} {Q : Exit → Act → World → Prop} {w0 W : World} (base : Nat) (hgd : o.guard = none) (s x : Operand) (t e : TypeId) (z : Value) (bytes : Nat)
    (ho : o.op = .call { callee := .builtin .append, args := #[s, x], argTypes := #[t, t] })
    (ht : P.underlying t = some (.slice e)) (hinfo : (P.info? e).map (fun i => (i.zero, i.size, i.bytes)) = some (some z, 1, bytes)) (hz : z.cells.size = 1) (hb0 : 0 < bytes)
    (v : Value) (n : Nat) (xs : List Value) (b off m c : Nat) (ys : List Value) (hs : a.eval s = v) (hx : a.eval x = .slice (some ⟨b, off, none⟩) m c) (hys : ys.length = m) (h1 : ∀ u ∈ ys, u.oneCell' = true)
    (HO : W.ownsRow base e 1 v n xs) (HY : ∀ j, j < m → W.cell? ⟨b, off + j, none⟩ = ys[j]?) (HB : Below base w0 W) (hbase : base ≤ W.heap.size) (hl : (n + m) * bytes ≤ 140737488355328)
    (h : ∀ v1 w1, w1.ownsRow base e 1 v1 (n + m) (xs ++ ys) → Below base w0 w1 → W.grownBy w1 v.ownBlock → wpList P ops Q rest (a.put o.dst v1) w1) :
    wpList P ops Q (o :: rest) a W := by
  obtain ⟨i0, hi, hzz⟩ := Option.map_eq_some_iff.1 hinfo
  simp only [Prod.mk.injEq] at hzz
  obtain ⟨hz0, hz1, hz2⟩ := hzz
  have hlen : n + m ≤ 140737488355328 := Nat.le_trans (Nat.le_mul_of_pos_right _ hb0) hl
  refine wpList_append_own_at W hgd s x t ho base e i0 z 1 bytes ht hi hz0 hz1 hz2 hz (by decide) v n xs hs HO ⟨b, off, none⟩ m c ys hx (by rw [hys, Nat.mul_one]) (fun j u hj => ?_) h1 (by simp only [maxLen]; omega) hl hbase ?_
  · have hj' := (List.getElem?_eq_some_iff.1 hj).1
    rw [Go.WideShapes.add_plain, HY j (by omega), hj]
  · intro v1 w1 hown hg _ _
    exact h v1 w1 hown (HB.grown hg hbase (own_base HO)) hg
theorem islice_not_nil (a : Addr) (n c : Nat) (w : World) : (binOp .eql 30 (.slice (some a) n c) (.slice none 0 0)).run Tryz.prog w = .ok (.bool false) w := by kernel_rfl
theorem nums_one (k : IntKind) (xs : List Int) : ∀ u ∈ nums k xs, u.oneCell' = true := by
  intro u hu
  obtain ⟨x, _, rfl⟩ := List.mem_map.1 hu
  rfl
set_option maxHeartbeats 1000000 in
theorem clone_ints (b off m c : Nat) (ys : List Int) (w : World) (hm : ys.length = m) (hl : m ≤ 16384) (hy : ∀ j, j < m → w.cell? ⟨b, off + j, none⟩ = (nums .i64 ys)[j]?) (hbl : b < w.heap.size) :
    Calls Tryz.prog 28 #[.slice (some ⟨b, off, none⟩) m c] w (OwnInts w ys) := by
  have hnn := islice_not_nil ⟨b, off, none⟩ m c
  have HY : Aside0 (∀ j, j < m → (w.alloc (.cells #[] 3)).cell? ⟨b, off + j, none⟩ = (nums .i64 ys)[j]?) := ⟨fun j hj => by rw [World.cell?_alloc_past _ _ _ hbl]; exact hy j hj⟩
  clear hy
  go_enter Tryz.func28, Tryz.ntmps28
  go_wp2_with (at_builtin; go_loud ((refine append_seg (w0 := w) w.heap.size rfl (.tmp 5) (.tmp 6) 30 3 (.int .i64 0) 8 rfl Tryz.underlying30 info_int rfl (by decide) _ 0 [] b off m c (nums .i64 ys) rfl rfl ?h1 (nums_one _ _) (own_empty _ _ _) HY.out (below_alloc (Below.refl _ _) _) ?h3 ?h4 ?_); (case h1 => simpa [nums] using hm); (case h3 => simp); (case h4 => omega); (intro v1 w8 ho hb hg); have HV := Aside0.mk (And.intro ho hb); clear ho hb hg))
  go_ret
  refine ⟨_, rfl, ?_, HV.out.2⟩
  have := HV.out.1
  rw [List.nil_append] at this
  rw [hm]
  simpa using this
set_option maxHeartbeats 1000000 in
theorem sameInts_call (A B : Option Addr) (n c d : Nat) (xs : List Int) (w : World) (hn : n ≤ 9223372036854775807) (hx : xs.length = n) (h1 : Rows w A (nums .i64 xs)) (h2 : Rows w B (nums .i64 xs)) :
    Calls Tryz.prog 14 #[.slice A n c, .slice B n d] w fun e w' => e = .returned (.bool true) ∧ Drawn0 w w' := by
  have H1 := Aside0.mk h1
  have H2 := Aside0.mk h2
  have HX := Aside0.mk hx
  clear h1 h2 hx
  go_enter Tryz.func14, Tryz.ntmps14
  go_wp2
  go_loopw [5] (fun i wr => ∃ k : Nat, i = .int .i64 k ∧ Aside0 (k ≤ n) ∧ Aside0 (Drawn0 w wr)) (fun i _ => n - (intOf i).toNat)
  case atStart => exact ⟨0, rfl, ⟨Nat.zero_le _⟩, ⟨Drawn0.refl _⟩⟩
  case round =>
    obtain ⟨k, rfl, HK, HD⟩ := hrel
    have hk := HK.out
    by_cases hlt : k < n
    · obtain ⟨b1, o1, e1, c1⟩ := (H1.out.below (drawn_below HD.out)).int k (by rw [HX.out]; exact hlt)
      obtain ⟨b2, o2, e2, c2⟩ := (H2.out.below (drawn_below HD.out)).int k (by rw [HX.out]; exact hlt)
      subst e1 e2
      generalize xs.getD k 0 = x at c1 c2
      have hki : (k : Int) < n := by omega
      go_wp2
      go_quiet (fail)
      go_wp2
      go_roundw
      case rel => exact ⟨k + 1, by go_num, ⟨by omega⟩, ⟨HD.out.step _⟩⟩
      case measure => simp [intOf]; omega
    · have hki : ¬ (k : Int) < n := by omega
      go_wp2
      go_ret
      exact ⟨rfl, HD.out⟩
end Go.Proofs.YtnkkccafdbaoeaaGreatDoor.H
