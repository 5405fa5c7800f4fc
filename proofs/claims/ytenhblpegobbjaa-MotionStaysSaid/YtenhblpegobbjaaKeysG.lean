/- The contract of keys.Parse. -/
import Derived.Test.YtenhblpegobbjaaChecked
import Derived.Test.YtenhblpegobbjaaOwn
import Derived.Test.YtenhblpegobbjaaKeysF
import Derived.Test.YtenhblpegobbjaaPlainKeys
import Derived.Deep.DeepCutAuto
namespace Go.Proofs.Ytenhblpegobbjaa
open Go.RowKit
set_option linter.unusedVariables false
set_option linter.unusedSimpArgs false
/-- a command's cells -/
def cmd5 (reg n op move : Nat) (arg : ByteArray) : List Value := [.int .u8 (reg : Int), .int .i64 (n : Int), .int .u8 (op : Int), .int .u8 (move : Int), .string arg]
/-- Parse's boxes from B on: the text, the result, the reader, its pointer, the command -/
structure PSt (w : World) (B : Nat) (wr : World) (s : ByteArray) (l : List UInt8) (bad : Bool) (c : List Value) : Prop where
  below : Below B w wr
  size : B + 5 ≤ wr.heap.size
  txt : RowAt wr B 0 9 [.string s]
  res : RowAt wr (B + 1) 0 43 (cmd5 0 0 0 0 ByteArray.empty)
  rd : Rd wr (B + 2) l bad
  ptr : RowAt wr (B + 3) 0 93 [.pointer (some ⟨B + 2, 0, none⟩)]
  cmd : RowAt wr (B + 4) 0 43 c
theorem PSt.read {w : World} {B : Nat} {wr wr' : World} {s : ByteArray} {l l' : List UInt8} {bad bad' : Bool} {c : List Value} (h : PSt w B wr s l bad c) (hr : Rd wr' (B + 2) l' bad') (hg : wr.grownBy wr' (some (B + 2))) : PSt w B wr' s l' bad' c := by
  have hz := h.size
  have key : ∀ k, k < B + 5 → k ≠ B + 2 → wr'.heap[k]? = wr.heap[k]? := fun k hk hne => hg.block k (by omega) (by simpa using hne)
  exact ⟨⟨hg.os.trans h.below.os, hg.tape.trans h.below.tape, hg.output.trans h.below.output, Nat.le_trans h.below.size hg.size, fun k hk => (key k (by omega) (by omega)).trans (h.below.block k hk)⟩, Nat.le_trans hz hg.size,
    h.txt.of_heap (key _ (by omega) (by omega)), h.res.of_heap (key _ (by omega) (by omega)), hr, h.ptr.of_heap (key _ (by omega) (by omega)), h.cmd.of_heap (key _ (by omega) (by omega))⟩
theorem PSt.put {w : World} {B : Nat} {wr : World} {s : ByteArray} {l : List UInt8} {bad : Bool} {c : List Value} (h : PSt w B wr s l bad c) (i : Nat) (hi : i < c.length) (u : Value) : PSt w B (wr.setCell ⟨B + 4, i, none⟩ u) s l bad (c.set i u) := by
  have key : ∀ k, k < B + 4 → (wr.setCell ⟨B + 4, i, none⟩ u).heap[k]? = wr.heap[k]? := fun k hk => Below.heap_setCell wr _ u k (by show k ≠ B + 4; omega)
  obtain ⟨sr, h1, h2⟩ := h.rd
  exact ⟨h.below.setCell (by show B ≤ B + 4; omega) u, by rw [World.size_setCell]; exact h.size,
    h.txt.of_heap (key _ (by omega)), h.res.of_heap (key _ (by omega)), ⟨sr, h1, h2.of_heap (key _ (by omega))⟩, h.ptr.of_heap (key _ (by omega)), h.cmd.set0 i hi u⟩
theorem PSt.draw {w : World} {B : Nat} {wr : World} {s : ByteArray} {l : List UInt8} {bad : Bool} {c : List Value} (h : PSt w B wr s l bad c) (n : Nat) : PSt w B (wr.drewN n) s l bad c :=
  ⟨bdrewN h.below n, h.size, h.txt, h.res, h.rd, h.ptr, h.cmd⟩
/-- the result's box, written whole -/
theorem PSt.whole {w : World} {B : Nat} {wr : World} {s : ByteArray} {l : List UInt8} {bad : Bool} {c : List Value} (h : PSt w B wr s l bad c) (a0 a1 a2 a3 a4 : Value) :
    RowAt (((((wr.setCell ⟨B + 1, 0, none⟩ a0).setCell ⟨B + 1, 1, none⟩ a1).setCell ⟨B + 1, 2, none⟩ a2).setCell ⟨B + 1, 3, none⟩ a3).setCell ⟨B + 1, 4, none⟩ a4) (B + 1) 0 43 [a0, a1, a2, a3, a4]
    ∧ Below B w (((((wr.setCell ⟨B + 1, 0, none⟩ a0).setCell ⟨B + 1, 1, none⟩ a1).setCell ⟨B + 1, 2, none⟩ a2).setCell ⟨B + 1, 3, none⟩ a3).setCell ⟨B + 1, 4, none⟩ a4) := by
  constructor
  · have := ((((h.res.set0 0 (by simp [cmd5]) a0).set0 1 (by simp [cmd5]) a1).set0 2 (by simp [cmd5]) a2).set0 3 (by simp [cmd5]) a3).set0 4 (by simp [cmd5]) a4
    simpa [cmd5] using this
  · exact ((((h.below.setCell (by simp) a0).setCell (by simp) a1).setCell (by simp) a2).setCell (by simp) a3).setCell (by simp) a4
theorem PSt.start (w : World) (s : ByteArray) : PSt w w.heap.size (((((w.alloc (.cells #[.string s] 9)).alloc (.cells (cmd5 0 0 0 0 ByteArray.empty).toArray 43)).alloc (.cells #[.string s, .bool false] 95)).alloc (.cells #[.pointer (some ⟨w.heap.size + 2, 0, none⟩)] 93)).alloc (.cells (cmd5 0 0 0 0 ByteArray.empty).toArray 43)) s s.data.toList false (cmd5 0 0 0 0 ByteArray.empty) := by
  refine ⟨?_, ?_, ?_, ?_, ⟨s, rfl, ?_⟩, ?_, ?_⟩
  · exact (((((Below.refl _ w).alloc (Nat.le_refl _) _).alloc (by simp [World.size_alloc]) _).alloc (by simp [World.size_alloc]; try omega) _).alloc (by simp [World.size_alloc]; try omega) _).alloc (by simp [World.size_alloc]; try omega) _
  · simp [World.size_alloc]
  · exact ((((RowAt.new' w _ rfl _ _).alloc _).alloc _).alloc _).alloc _
  · exact (((RowAt.new' _ _ (by simp [World.size_alloc]) _ _).alloc _).alloc _).alloc _
  · exact ((RowAt.new' _ _ (by simp [World.size_alloc]) _ _).alloc _).alloc _
  · exact (RowAt.new' _ _ (by simp [World.size_alloc]) _ _).alloc _
  · exact RowAt.new' _ _ (by simp [World.size_alloc]) _ _
/-- what is asked of how many keys are gone -/
structure PQ (B : Nat) (wr : World) (s : ByteArray) (l : List UInt8) (bad : Bool) : Prop where
  txt : RowAt wr B 0 9 [.string s]
  rd : Rd wr (B + 2) l bad
  ptr : RowAt wr (B + 3) 0 93 [.pointer (some ⟨B + 2, 0, none⟩)]
theorem PQ.of {w : World} {B : Nat} {wr : World} {s : ByteArray} {l : List UInt8} {bad : Bool} {c : List Value} (h : PSt w B wr s l bad c) : PQ B wr s l bad := ⟨h.txt, h.rd, h.ptr⟩
theorem PQ.drew {B : Nat} {wr : World} {s : ByteArray} {l : List UInt8} {bad : Bool} (h : PQ B wr s l bad) : PQ B wr.drew s l bad := ⟨h.txt.drew, h.rd, h.ptr.drew⟩
theorem PQ.far {B : Nat} {wr : World} {s : ByteArray} {l : List UInt8} {bad : Bool} (h : PQ B wr s l bad) (i : Nat) (u : Value) : PQ B (wr.setCell ⟨B + 1, i, none⟩ u) s l bad := by
  obtain ⟨sr, h1, h2⟩ := h.rd
  exact ⟨h.txt.far (by simp) u, ⟨sr, h1, h2.far (by simp) u⟩, h.ptr.far (by simp) u⟩
theorem PQ.whole {B : Nat} {wr : World} {s : ByteArray} {l : List UInt8} {bad : Bool} (h : PQ B wr s l bad) (a0 a1 a2 a3 a4 : Value) :
    PQ B (((((wr.setCell ⟨B + 1, 0, none⟩ a0).setCell ⟨B + 1, 1, none⟩ a1).setCell ⟨B + 1, 2, none⟩ a2).setCell ⟨B + 1, 3, none⟩ a3).setCell ⟨B + 1, 4, none⟩ a4) s l bad := ((((h.far 0 a0).far 1 a1).far 2 a2).far 3 a3).far 4 a4
theorem used_pq {B : Nat} {w : World} {s : ByteArray} {l : List UInt8} {bad : Bool} (hs : s.size ≤ 9223372036854775807) (hl : l.length ≤ s.size) (h : PQ B w s l bad) :
    Calls Try.prog 56 #[.pointer (some ⟨B, 0, none⟩), .pointer (some ⟨B + 3, 0, none⟩)] w fun e w' => e = .returned (.int .i64 ((s.size - l.length : Nat) : Int)) ∧ ∃ k, w' = w.drewN k := by
  have ct := h.txt.cell0 0 (by simp)
  have cp := h.ptr.cell0 0 (by simp)
  simp only [List.getElem_cons_zero] at ct cp
  exact used_any B (B + 3) (B + 2) s l bad w hs ct cp h.rd hl
end Go.Proofs.Ytenhblpegobbjaa
