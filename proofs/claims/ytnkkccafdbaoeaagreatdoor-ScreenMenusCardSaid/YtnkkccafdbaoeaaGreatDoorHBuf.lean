/-
  Bytes that a call has made for itself by a conversion from a string and writes in place: what is known of the row, and the string that it becomes again.
-/
import Derived.Test.YtnkkccafdbaoeaaGreatDoorWWords
import Derived.Lib.Hide
namespace Go.Proofs.YtnkkccafdbaoeaaGreatDoor.H
open Go.RowKit Go.Proofs.YtnkkccafdbaoeaaGreatDoorW.PrintWords

/-- Block g is a row of type e; its first cells are xs, and they may be written. -/
structure Buf (w : World) (g : Nat) (e : TypeId) (xs : List Value) : Prop where
  ex : ∃ cells lo hi, w.heap[g]? = some (.cells cells e (lo, hi)) ∧ (∀ j, j < xs.length → cells[j]? = xs[j]?) ∧ (xs.length ≤ lo ∨ hi ≤ lo)

theorem Buf.keep {w w1 : World} {g : Nat} {e : TypeId} {xs : List Value} (h : Buf w g e xs) (hk : w1.heap[g]? = w.heap[g]?) : Buf w1 g e xs := by
  obtain ⟨c, lo, hi, h1, h2, h3⟩ := h.ex
  exact ⟨c, lo, hi, hk.trans h1, h2, h3⟩
theorem Buf.lt {w : World} {g : Nat} {e : TypeId} {xs : List Value} (h : Buf w g e xs) : g < w.heap.size := by
  obtain ⟨c, lo, hi, h1, _⟩ := h.ex
  exact (Array.getElem?_eq_some_iff.1 h1).1
theorem Buf.cell {w : World} {g : Nat} {e : TypeId} {xs : List Value} (h : Buf w g e xs) (i : Nat) (hi : i < xs.length) : w.cell? ⟨g, i, none⟩ = xs[i]? := by
  obtain ⟨c, lo, hi', h1, h2, _⟩ := h.ex
  rw [cell_of_row w g i c e (lo, hi') h1, h2 i hi]
theorem Buf.frozen {w : World} {g : Nat} {e : TypeId} {xs : List Value} (h : Buf w g e xs) (i : Nat) (hi : i < xs.length) : w.frozen? ⟨g, i, none⟩ = false := by
  obtain ⟨c, lo, hi', h1, _, h3⟩ := h.ex
  simp only [World.frozen?, h1]
  rcases h3 with h3 | h3
  · simp; omega
  · simp; omega
theorem Buf.set {w : World} {g : Nat} {e : TypeId} {xs : List Value} (h : Buf w g e xs) (i : Nat) (v : Value) : Buf (w.setCell ⟨g, i, none⟩ v) g e (xs.set i v) := by
  obtain ⟨c, lo, hi, h1, h2, h3⟩ := h.ex
  refine ⟨c.setIfInBounds i v, lo, hi, ?_, ?_, ?_⟩
  · simp [World.setCell, Array.getElem?_modify, h1]
  · intro j hj
    rw [List.length_set] at hj
    rw [List.getElem?_set, Array.getElem?_setIfInBounds]
    have := h2 j hj
    by_cases e : i = j
    · subst e
      have hc : i < c.size := by
        rcases Nat.lt_or_ge i c.size with h | h
        · exact h
        · rw [Array.getElem?_eq_none h, List.getElem?_eq_getElem hj] at this; cases this
      simp [hc, hj]
    · simp [e, this]
  · rw [List.length_set]; exact h3
theorem Buf.set_far {w : World} {g : Nat} {e : TypeId} {xs : List Value} (h : Buf w g e xs) {p : Addr} (hp : g ≠ p.block) (v : Value) : Buf (w.setCell p v) g e xs :=
  h.keep (Below.heap_setCell w p v g hp)
theorem Buf.below {w w1 : World} {g : Nat} {e : TypeId} {xs : List Value} (h : Buf w g e xs) (hb : Below w.heap.size w w1) : Buf w1 g e xs := h.keep (hb.block g h.lt)
theorem Buf.alloc {w : World} {g : Nat} {e : TypeId} {xs : List Value} (h : Buf w g e xs) (o : Obj) : Buf (w.alloc o) g e xs := h.keep (Below.heap_alloc w o g h.lt)
theorem Buf.drew {w : World} {g : Nat} {e : TypeId} {xs : List Value} (h : Buf w g e xs) : Buf w.drew g e xs := h.keep rfl
theorem Buf.drewN {w : World} {g : Nat} {e : TypeId} {xs : List Value} (h : Buf w g e xs) (n : Nat) : Buf (w.drewN n) g e xs := h.keep rfl
theorem Buf.drawn {w w1 : World} {g : Nat} {e : TypeId} {xs : List Value} (h : Buf w g e xs) (hd : Drawn0 w w1) : Buf w1 g e xs := by
  obtain ⟨n, rfl⟩ := hd.out
  exact h.drewN n

theorem Buf.int {w : World} {g : Nat} {e : TypeId} {k : IntKind} {xs : List Int} (h : Buf w g e (nums k xs)) (i : Nat) (hi : i < xs.length) : w.cell? ⟨g, i, none⟩ = some (.int k (xs.getD i 0)) := by
  rw [h.cell i (by simpa [nums] using hi)]
  simp [nums, List.getElem?_eq_getElem hi, List.getD_eq_getElem?_getD]
theorem Buf.set_int {w : World} {g : Nat} {e : TypeId} {k : IntKind} {xs : List Int} (h : Buf w g e (nums k xs)) (i : Nat) (v : Int) : Buf (w.setCell ⟨g, i, none⟩ (.int k v)) g e (nums k (xs.set i v)) := by
  have := h.set i (.int k v)
  rwa [show (nums k xs).set i (.int k v) = nums k (xs.set i v) by simp [nums, List.map_set]] at this

/-- '[]byte(s)' makes such a row. -/
theorem buf_bytesWorld (w : World) (e : TypeId) (s : ByteArray) : Buf (Lib.bytesWorld w e s) w.heap.size e (nums .u8 (bytesOf s)) := by
  refine ⟨Lib.bytesCells w e s, (Lib.bytesCells w e s).size, (Lib.bytesCells w e s).size + 1, Lib.bytesWorld_at_new w e s, ?_, ?_⟩
  · intro j hj
    have hj' : j < s.size := by simpa [nums, bytesOf_length] using hj
    have h1 : j < s.data.size := hj'
    have h2 : j < s.data.toList.length := by simpa using h1
    rw [nums, bytesOf, List.map_map, List.getElem?_map]
    simp [Lib.bytesCells, Array.getElem?_append, hj']
  · left
    simp [nums, bytesOf_length, Lib.bytesCells]

/-- And it becomes a string again. -/
theorem Buf.string {P : Program} {w : World} {g n cap : Nat} {e e' src dst : TypeId} {xs : List Int} (hs : P.underlying src = some (.slice e)) (he : P.underlying e = some (.int .u8)) (hd : P.underlying dst = some .string)
    (h : Buf w g e' (nums .u8 xs)) (hn : xs.length = n) : (convert src dst (.slice (some ⟨g, 0, none⟩) n cap)).run P w = .ok (.string (strOfNums xs)) w := by
  refine run_convert_bytes_arg w src e hs he g 0 n cap xs hn (fun i hi => ?_) dst hd
  rw [Nat.zero_add]
  exact h.int i (by omega)

theorem bytesOf_range (s : ByteArray) : ∀ x, x ∈ bytesOf s → 0 ≤ x ∧ x ≤ 255 := by
  intro x hx
  obtain ⟨b, _, rfl⟩ := List.mem_map.1 hx
  have := b.toNat_lt
  exact ⟨by omega, by omega⟩
end Go.Proofs.YtnkkccafdbaoeaaGreatDoor.H
