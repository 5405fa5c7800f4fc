/- Contract of motion.Span; what Parse's commands are like. -/
import Derived.Test.YtenhblpegobbjaaMotionE
import Derived.Test.YtenhblpegobbjaaKeysN
namespace Go.Proofs.Ytenhblpegobbjaa
open Go.RowKit
set_option linter.unusedVariables false
set_option linter.unusedSimpArgs false
namespace Keys
/-- an argument that fits a key -/
def ArgOk (o : UInt8) (a : List UInt8) : Prop := a.length = want o ∧ a.any (wrong (want o)) = false
/-- what a command that is done is like -/
def CmOk (c : Cm) : Prop := c.n ≤ 9999 ∧ ((c.move = 0 ∧ ∃ o : UInt8, c.op = o.toNat ∧ (goes o = true → ArgOk o c.arg)) ∨ (c.move = c.op ∧ c.move ≠ 0 ∧ c.op < 256) ∨ (∃ k o : UInt8, c.move = k.toNat ∧ c.op = o.toNat ∧ k ≠ o ∧ goes k = true ∧ ArgOk k c.arg))
theorem argued_ok (c : Cm) (key : UInt8) (l : List UInt8) (h : (argued c key l).2.2 = 1) : (argued c key l).1 = { c with arg := l.take (want key) } ∧ ArgOk key (l.take (want key)) := by
  unfold argued at h ⊢
  split at h
  · simp at h
  · rename_i h1
    rw [if_neg h1]
    split at h
    · rename_i h2
      rw [if_pos h2]
      refine ⟨rfl, ?_, by simpa using h1⟩
      rw [List.length_take]; omega
    · simp at h
theorem goes_ne (k : UInt8) (h : goes k = true) : k.toNat ≠ 0 := by
  intro e
  obtain rfl : k = 0 := by
    apply UInt8.toNat_inj.mp; simpa using e
  revert h; decide
theorem moved_ok (reg n : Nat) (op : UInt8) (l : List UInt8) (hn : n ≤ 9999) (ho : op.toNat ≠ 0) (h : (moved ⟨reg, n, op.toNat, 0, []⟩ op l).2.2 = 1) : CmOk (moved ⟨reg, n, op.toNat, 0, []⟩ op l).1 := by
  cases l with
  | nil => simp [moved] at h
  | cons key l =>
    unfold moved at h ⊢
    simp only at h ⊢
    by_cases hk : key = op
    · rw [if_pos hk] at h ⊢
      subst hk
      exact ⟨hn, .inr (.inl ⟨rfl, ho, key.toNat_lt⟩)⟩
    · rw [if_neg hk] at h ⊢
      by_cases hg : goes key = true
      · rw [if_pos hg] at h ⊢
        obtain ⟨e1, e2⟩ := argued_ok _ _ _ h
        rw [e1]
        exact ⟨hn, .inr (.inr ⟨key, op, rfl, rfl, hk, hg, e2⟩)⟩
      · rw [if_neg hg] at h
        simp at h
theorem opped_ok (reg n : Nat) (l : List UInt8) (hn : n ≤ 9999) (h : (opped reg n l).2.2 = 1) : CmOk (opped reg n l).1 := by
  cases l with
  | nil => simp [opped] at h
  | cons op l =>
    unfold opped at h ⊢
    simp only at h ⊢
    by_cases ho : [100, 121, 99].contains op = true
    · rw [if_pos ho] at h ⊢
      refine moved_ok _ _ _ _ ?_ ?_ h
      · split <;> omega
      · intro e
        obtain rfl : op = 0 := by apply UInt8.toNat_inj.mp; simpa using e
        revert ho; decide
    · rw [if_neg ho] at h ⊢
      by_cases hk : known op = true
      · rw [if_pos hk] at h ⊢
        obtain ⟨e1, e2⟩ := argued_ok _ _ _ h
        rw [e1]
        exact ⟨hn, .inl ⟨rfl, op, rfl, fun _ => e2⟩⟩
      · rw [if_neg hk] at h
        simp at h
theorem numbered_ok (reg : Nat) (l : List UInt8) (h : (numbered reg l).2.2 = 1) : CmOk (numbered reg l).1 := opped_ok _ _ _ (cnt_le l 0 (by omega)) h
theorem parse_ok (l : List UInt8) (h : (parse l).2.2 = 1) : CmOk (parse l).1 := by
  unfold parse at h ⊢
  split at h
  · rename_i l'
    split at h
    · simp at h
    · rename_i r l'
      split at h
      · rename_i hr
        rw [if_pos hr]
        exact numbered_ok _ _ h
      · simp at h
  · exact numbered_ok _ _ h
end Keys
open Keys in
/-- wherever a motion goes -/
theorem Go_any (o : UInt8) (a : List UInt8) (ho : goes o = true) (ha : ArgOk o a) (s : ByteArray) (at_ : Int) (n : Nat) (m : Nat) (ks : List Nat) (a2 : Option Addr) (n2 c2 : Nat) (L : List Int) (w : World) (hs : s.size ≤ 1000) (h0 : 0 ≤ at_) (h1 : at_ ≤ ((s.size - 1 : Nat) : Int)) (hn2 : n ≤ 9999)
    (hm : MarkMap w m ks) (hL0 : L.length = n2) (hL1 : n2 ≤ 1000) (hr : RdI w a2 L) (hL : ∀ x ∈ L, 0 ≤ x ∧ x ≤ 1000) :
    Calls Try.prog 26 #[plVal s at_ none 0 0 (some m) a2 n2 c2, .int .u8 (o.toNat : Nat), .int .i64 (n : Nat), .string (bstr a)] w fun e w' => GoRes s.size e ∧ Below w.heap.size w w' := by
  have hmem : o ∈ motions ++ farther := by
    unfold goes at ho
    rw [List.mem_append]
    simpa [Bool.or_eq_true] using ho
  have h16 : o = 104 ∨ o = 108 ∨ o = 106 ∨ o = 107 ∨ o = 48 ∨ o = 36 ∨ o = 103 ∨ o = 71 ∨ o = 119 ∨ o = 98 ∨ o = 110 ∨ o = 78 ∨ o = 91 ∨ o = 93 ∨ o = 39 ∨ o = 102 := by
    simpa [motions, farther] using hmem
  clear hmem ho
  rcases h16 with rfl | rfl | rfl | rfl | rfl | rfl | rfl | rfl | rfl | rfl | rfl | rfl | rfl | rfl | rfl | rfl
  · exact GoE_104 s at_ n _ _ a2 n2 c2 w hs h0 h1 hn2
  · exact GoE_108 s at_ n _ _ a2 n2 c2 w hs h0 h1 hn2
  · exact GoE_106 s at_ n _ _ a2 n2 c2 w hs h0 h1 hn2
  · exact GoE_107 s at_ n _ _ a2 n2 c2 w hs h0 h1 hn2
  · exact GoE_48 s at_ n _ _ a2 n2 c2 w hs h0 h1 hn2
  · exact GoE_36 s at_ n _ _ a2 n2 c2 w hs h0 h1 hn2
  · exact GoE_103 s at_ n _ _ a2 n2 c2 w hs h0 h1 hn2
  · exact GoE_71 s at_ n _ _ a2 n2 c2 w hs h0 h1 hn2
  · exact GoE_119 s at_ n _ _ a2 n2 c2 w hs h0 h1 hn2
  · exact GoE_98 s at_ n _ _ a2 n2 c2 w hs h0 h1 hn2
  · exact GoE_110 s at_ n _ _ a2 n2 c2 w hs h0 h1 hn2
  · exact GoE_78 s at_ n _ _ a2 n2 c2 w hs h0 h1 hn2
  · exact GoE_91 s at_ n _ _ a2 n2 c2 w hs h0 h1 hn2 L hL0 hL1 hr hL
  · exact GoE_93 s at_ n _ _ a2 n2 c2 w hs h0 h1 hn2 L hL0 hL1 hr hL
  · have hl : a.length = 1 := ha.1
    obtain ⟨c, rfl⟩ := List.length_eq_one_iff.1 hl
    exact GoE_39 s at_ n c m a2 n2 c2 w ks hm hs h0 h1 hn2
  · have hl : a.length = 2 := ha.1
    have hw := ha.2
    match a, hl with
    | [c, d], _ =>
      have hw2 : want 102 = 2 := by decide
      rw [hw2] at hw
      simp only [List.any_cons, List.any_nil, Bool.or_false, Bool.or_eq_false_iff, wrong] at hw
      obtain ⟨q1, q2⟩ := hw
      have d1 : 0 ≤ dig c.toNat := by simpa using q1
      have d2 : 0 ≤ dig d.toNat := by simpa using q2
      obtain ⟨x, hx⟩ := Int.eq_ofNat_of_zero_le d1
      obtain ⟨y, hy⟩ := Int.eq_ofNat_of_zero_le d2
      exact GoE_102 s at_ n c d x y _ a2 n2 c2 w hs h0 h1 hn2 (by rintro rfl; revert d1; decide) hx hy
/-- what Span answers -/
def SpanRes (N : Nat) (at_ : Int) (rows : Bool) (e : Ending) : Prop := ∃ (x y : Int) (err : Value), e = .returned (.tuple #[.agg #[.int .i64 x, .int .i64 y], err]) ∧ ((err = .nilIface ∧ 0 ≤ x ∧ x < y ∧ y ≤ (N : Nat) ∧ (rows = true ∨ x = at_ ∨ y = at_ ∨ y = at_ + 1)) ∨ ∃ k : Int, err = .iface 85 (.int .i64 k))
theorem below_chain {B : Nat} {w w' : World} {o : Obj} (h : Below B w w') (hz : B ≤ w'.heap.size) : Below B w (w'.alloc o) := h.alloc hz o
set_option maxRecDepth 100000 in
set_option maxHeartbeats 2000000 in
theorem Span_rows (s : ByteArray) (at_ : Int) (reg n m : Nat) (arg : ByteArray) (mm : Option Nat) (a2 : Option Addr) (n2 c2 : Nat) (w : World) (hs : s.size ≤ 1000) (h0 : 0 ≤ at_) (h1 : at_ ≤ ((s.size - 1 : Nat) : Int)) (hn2 : n ≤ 9999) :
    Calls Try.prog 27 #[plVal s at_ none 0 0 mm a2 n2 c2, .agg #[.int .u8 (reg : Int), .int .i64 (n : Int), .int .u8 (m : Int), .int .u8 (m : Int), .string arg]] w fun e w' => SpanRes s.size at_ true e ∧ Below w.heap.size w w' := by
  obtain ⟨k, hk, hk1, hk2⟩ : ∃ k : Nat, max (n : Int) 1 = (k : Int) ∧ 1 ≤ k ∧ k ≤ 9999 := ⟨max n 1, by omega, by omega, by omega⟩
  have hmm : ((m : Int) == (m : Int)) = true := by simp
  have hat : at_ ≤ 1000 := by omega
  obtain ⟨y, hy, hy1, hy2⟩ : ∃ y : Int, min (at_ - at_ % 16 + 16 * (k : Int)) (s.size : Int) = y ∧ y ≤ s.size ∧ y ≤ at_ - at_ % 16 + 16 * (k : Int) := ⟨_, rfl, by omega, by omega⟩
  by_cases hq : y ≤ at_ - at_ % 16
  · have d1 : decide (y ≤ at_ - at_ % 16) = true := decide_eq_true hq
    go_enter Try.func27, Try.ntmps27
    go_wp2_with fail
    refine bodyPost_ret (v := .tuple #[.agg #[.int .i64 0, .int .i64 0], .iface 85 (.int .i64 8)]) (by simp [results, Try.results27, go_sem]) rfl ⟨⟨_, _, _, rfl, .inr ⟨_, rfl⟩⟩, ?_⟩
    have e1 : ∀ a b : Nat, a ≤ a + b := fun a b => Nat.le_add_right a b
    repeat (first
      | exact Below.refl _ _
      | (refine Below.alloc ?_ ?_ _; rotate_left; · (first | (simp; done) | (simp; omega)))
      | (refine Below.setCell ?_ ?_ _; rotate_left; · (first | (simp; done) | (simp; omega))))
  · have d1 : decide (y ≤ at_ - at_ % 16) = false := decide_eq_false hq
    go_enter Try.func27, Try.ntmps27
    go_wp2_with fail
    refine bodyPost_ret (v := .tuple #[.agg #[.int .i64 (at_ - at_ % 16), .int .i64 y], .nilIface]) (by simp [results, Try.results27, go_sem]) rfl ⟨⟨_, _, _, rfl, .inl ⟨rfl, by omega, by omega, hy1, .inl rfl⟩⟩, ?_⟩
    have e1 : ∀ a b : Nat, a ≤ a + b := fun a b => Nat.le_add_right a b
    repeat (first
      | exact Below.refl _ _
      | (refine Below.alloc ?_ ?_ _; rotate_left; · (first | (simp; done) | (simp; omega)))
      | (refine Below.setCell ?_ ?_ _; rotate_left; · (first | (simp; done) | (simp; omega))))
/-- Span's boxes behind the first two stores -/
structure SpW (w : World) (s : ByteArray) (at_ x y : Int) (W : World) : Prop where
  p0 : W.cell? ⟨w.heap.size, 0, none⟩ = some (.string s)
  p1 : W.cell? ⟨w.heap.size, 1, none⟩ = some (.int .i64 at_)
  rx : RowAt W (w.heap.size + 1 + 1 + 1) 0 54 [.int .i64 x, .int .i64 y]
  rs : RowAt W (w.heap.size + 1 + 1) 0 54 [.int .i64 0, .int .i64 0]
  bel : Below w.heap.size w W
set_option maxRecDepth 100000 in
set_option maxHeartbeats 2000000 in
theorem Span_go (o : UInt8) (a : List UInt8) (ho : Keys.goes o = true) (ha : Keys.ArgOk o a) (s : ByteArray) (at_ : Int) (reg n op : Nat) (hne : op ≠ o.toNat) (m : Nat) (ks : List Nat) (a2 : Option Addr) (n2 c2 : Nat) (L : List Int) (w : World) (hs : s.size ≤ 1000) (h0 : 0 ≤ at_) (h1 : at_ ≤ ((s.size - 1 : Nat) : Int)) (hn2 : n ≤ 9999)
    (hm : MarkMap w m ks) (hL0 : L.length = n2) (hL1 : n2 ≤ 1000) (hr : RdI w a2 L) (hL : ∀ x ∈ L, 0 ≤ x ∧ x ≤ 1000) :
    Calls Try.prog 27 #[plVal s at_ none 0 0 (some m) a2 n2 c2, .agg #[.int .u8 (reg : Int), .int .i64 (n : Int), .int .u8 (op : Int), .int .u8 (o.toNat : Nat), .string (bstr a)]] w fun e w' => SpanRes s.size at_ false e ∧ Below w.heap.size w w' := by
  have hgo := fun W (hb : Below w.heap.size w W) => Go_any o a ho ha s at_ n m ks a2 n2 c2 L W hs h0 h1 hn2 (hm.below hb hm.lt) hL0 hL1 (hr.below hb (Nat.le_refl _)) hL
  have hmm : ((o.toNat : Int) == (op : Int)) = false := by rw [beq_eq_false_iff_ne]; omega
  have HGO := Lib.hid hgo
  have HH := Lib.hid h1
  clear hgo hm hL0 hL1 hr hL ha ho hne
  generalize o.toNat = mv at *
  go_enter Try.func27, Try.ntmps27
  obtain ⟨W4, hW4⟩ : ∃ W4, W4 = ((((w.alloc (.cells #[.string s, .int .i64 at_, .slice none 0 0, .map (some m), .slice a2 n2 c2] 49)).alloc (.cells #[.int .u8 (reg : Int), .int .i64 (n : Int), .int .u8 (op : Int), .int .u8 (mv : Int), .string (bstr a)] 43)).alloc (.cells #[.int .i64 0, .int .i64 0] 54)).alloc (.cells #[.int .i64 at_, .int .i64 at_] 54)) := ⟨_, rfl⟩
  have hb4 : Below w.heap.size w W4 := by
    rw [hW4]
    exact ((((Below.refl _ w).alloc (by simp) _).alloc (by simp) _).alloc (by simp; omega) _).alloc (by simp; omega) _
  have hp4 : RowAt W4 w.heap.size 0 49 [.string s, .int .i64 at_, .slice none 0 0, .map (some m), .slice a2 n2 c2] := by
    rw [hW4]
    exact (((RowAt.new w 49 #[.string s, .int .i64 at_, .slice none 0 0, .map (some m), .slice a2 n2 c2]).alloc _).alloc _).alloc _
  have hs4 : RowAt W4 (w.heap.size + 1 + 1) 0 54 [.int .i64 0, .int .i64 0] := by
    rw [hW4]
    exact (RowAt.new' _ (w.heap.size + 1 + 1) (by simp) 54 #[.int .i64 0, .int .i64 0]).alloc _
  have hx4 : RowAt W4 (w.heap.size + 1 + 1 + 1) 0 54 [.int .i64 at_, .int .i64 at_] := by
    rw [hW4]
    exact RowAt.new' _ (w.heap.size + 1 + 1 + 1) (by simp) 54 #[.int .i64 at_, .int .i64 at_]
  have HW4 := Lib.hid hW4; have HB4 := Lib.hid hb4; have HP4 := Lib.hid hp4; have HS4 := Lib.hid hs4; have HX4 := Lib.hid hx4
  clear hW4 hb4 hp4 hs4 hx4
  go_wp2_with fail
  rw [← HW4.out]
  refine (HGO.out W4 HB4.out).mono ?_
  rintro e w1 ⟨⟨dst, b, err, rfl, hc⟩, hb1⟩
  have rp := HP4.out.below hb1 HP4.out.lt
  have rs := HS4.out.below hb1 HS4.out.lt
  have rx := HX4.out.below hb1 HX4.out.lt
  have hb := HB4.out.trans (hb1.mono HB4.out.size)
  have HB := Lib.hid hb
  clear hb hb1 HW4 HB4 HP4 HS4 HX4 HGO
  have p0 := rp.cell0 0 (by simp); have p1 := rp.cell0 1 (by simp)
  have x0 := rx.cell0 0 (by simp); have x1 := rx.cell0 1 (by simp)
  have s0 := rs.cell0 0 (by simp); have s1 := rs.cell0 1 (by simp)
  have fx0 := rx.frozen0 0 (by simp); have fx1 := rx.frozen0 1 (by simp)
  have fs0 := rs.frozen0 0 (by simp); have fs1 := rs.frozen0 1 (by simp)
  simp only [List.getElem_cons_zero, List.getElem_cons_succ] at p0 p1 x0 x1 s0 s1
  rcases hc with ⟨rfl, hd0, hd1⟩ | ⟨q, rfl⟩
  · obtain ⟨x, hx, hx1, hx2, hx3⟩ : ∃ x, min at_ dst = x ∧ x ≤ at_ ∧ 0 ≤ x ∧ (x = at_ ∨ dst < at_) := ⟨_, rfl, by omega, by omega, by omega⟩
    obtain ⟨y0, hy, hy1, hy2, hy3⟩ : ∃ y0, max at_ dst = y0 ∧ at_ ≤ y0 ∧ y0 ≤ 1000 ∧ (dst < at_ → y0 = at_) := ⟨_, rfl, by omega, by omega, fun _ => by omega⟩
    have hW2 : ∀ W, W = ((w1.setCell ⟨w.heap.size + 1 + 1 + 1, 0, none⟩ (.int .i64 x)).setCell ⟨w.heap.size + 1 + 1 + 1, 1, none⟩ (.int .i64 y0)).drew → SpW w s at_ x y0 W := by
      rintro W rfl
      have rp2 := ((rp.far (p := ⟨w.heap.size + 1 + 1 + 1, 0, none⟩) (by simp only; omega) (.int .i64 x)).far (p := ⟨w.heap.size + 1 + 1 + 1, 1, none⟩) (by simp only; omega) (.int .i64 y0)).drew
      have rs2 := ((rs.far (p := ⟨w.heap.size + 1 + 1 + 1, 0, none⟩) (by simp only; omega) (.int .i64 x)).far (p := ⟨w.heap.size + 1 + 1 + 1, 1, none⟩) (by simp only; omega) (.int .i64 y0)).drew
      have rx2 := ((rx.set0 0 (by simp) (.int .i64 x)).set0 1 (by simp) (.int .i64 y0)).drew
      exact ⟨rp2.cell0 0 (by simp), rp2.cell0 1 (by simp), rx2, rs2, ((HB.out.setCell (p := ⟨w.heap.size + 1 + 1 + 1, 0, none⟩) (by simp only; omega) (.int .i64 x)).setCell (p := ⟨w.heap.size + 1 + 1 + 1, 1, none⟩) (by simp only; omega) (.int .i64 y0)).drew⟩
    have HW2 := Lib.hid hW2
    clear hW2 rp rs rx
    cases b
    · obtain ⟨y, hz, hz1, hz2⟩ : ∃ y, min (y0) (s.size : Int) = y ∧ y ≤ s.size ∧ (x < y → x = at_ ∨ y = at_ ∨ y = at_ + 1) := ⟨_, rfl, by omega, fun h2 => by omega⟩
      go_wp2_with fail
      go_region
      generalize hww : ((w1.setCell ⟨w.heap.size + 1 + 1 + 1, 0, none⟩ (.int .i64 x)).setCell ⟨w.heap.size + 1 + 1 + 1, 1, none⟩ (.int .i64 y0)).drew = W2
      have hsp := HW2.out _ hww.symm
      clear hww p0 p1 x0 x1 s0 s1 fx0 fx1 fs0 fs1 HW2 HB
      have HSP := Lib.hid hsp
      have p0 := hsp.p0; have p1 := hsp.p1; have x0 := hsp.rx.cell0 0 (by simp); have x1 := hsp.rx.cell0 1 (by simp); have s0 := hsp.rs.cell0 0 (by simp); have s1 := hsp.rs.cell0 1 (by simp)
      have fx0 := hsp.rx.frozen0 0 (by simp); have fx1 := hsp.rx.frozen0 1 (by simp); have fs0 := hsp.rs.frozen0 0 (by simp); have fs1 := hsp.rs.frozen0 1 (by simp)
      simp only [List.getElem_cons_zero, List.getElem_cons_succ] at x0 x1 s0 s1
      have hs0a : (((W2.setCell ⟨w.heap.size + 1 + 1 + 1, 1, none⟩ (.int .i64 y)).setCell ⟨w.heap.size + 1 + 1, 0, none⟩ (.int .i64 0)).setCell ⟨w.heap.size + 1 + 1, 1, none⟩ (.int .i64 0)).cell? ⟨w.heap.size + 1 + 1, 0, none⟩ = some (.int .i64 0) := (((hsp.rs.far (p := ⟨w.heap.size + 1 + 1 + 1, 1, none⟩) (by simp only; omega) (.int .i64 y)).set0 0 (by simp) (.int .i64 0)).set0 1 (by simp) (.int .i64 0)).cell0 0 (by simp)
      have hs0b : (((W2.setCell ⟨w.heap.size + 1 + 1 + 1, 1, none⟩ (.int .i64 y)).setCell ⟨w.heap.size + 1 + 1, 0, none⟩ (.int .i64 0)).setCell ⟨w.heap.size + 1 + 1, 1, none⟩ (.int .i64 0)).cell? ⟨w.heap.size + 1 + 1, 1, none⟩ = some (.int .i64 0) := (((hsp.rs.far (p := ⟨w.heap.size + 1 + 1 + 1, 1, none⟩) (by simp only; omega) (.int .i64 y)).set0 0 (by simp) (.int .i64 0)).set0 1 (by simp) (.int .i64 0)).cell0 1 (by simp)
      have hs0c : ((W2.setCell ⟨w.heap.size + 1 + 1 + 1, 1, none⟩ (.int .i64 y)).setCell ⟨w.heap.size + 1 + 1, 0, none⟩ (.int .i64 0)).cell? ⟨w.heap.size + 1 + 1, 0, none⟩ = some (.int .i64 0) := ((hsp.rs.far (p := ⟨w.heap.size + 1 + 1 + 1, 1, none⟩) (by simp only; omega) (.int .i64 y)).set0 0 (by simp) (.int .i64 0)).cell0 0 (by simp)
      have hs1a : (((W2.setCell ⟨w.heap.size + 1 + 1 + 1, 1, none⟩ (.int .i64 y)).setCell ⟨w.heap.size + 1 + 1, 0, none⟩ (.int .i64 x)).setCell ⟨w.heap.size + 1 + 1, 1, none⟩ (.int .i64 y)).cell? ⟨w.heap.size + 1 + 1, 0, none⟩ = some (.int .i64 x) := (((hsp.rs.far (p := ⟨w.heap.size + 1 + 1 + 1, 1, none⟩) (by simp only; omega) (.int .i64 y)).set0 0 (by simp) (.int .i64 x)).set0 1 (by simp) (.int .i64 y)).cell0 0 (by simp)
      have hs1b : (((W2.setCell ⟨w.heap.size + 1 + 1 + 1, 1, none⟩ (.int .i64 y)).setCell ⟨w.heap.size + 1 + 1, 0, none⟩ (.int .i64 x)).setCell ⟨w.heap.size + 1 + 1, 1, none⟩ (.int .i64 y)).cell? ⟨w.heap.size + 1 + 1, 1, none⟩ = some (.int .i64 y) := (((hsp.rs.far (p := ⟨w.heap.size + 1 + 1 + 1, 1, none⟩) (by simp only; omega) (.int .i64 y)).set0 0 (by simp) (.int .i64 x)).set0 1 (by simp) (.int .i64 y)).cell0 1 (by simp)
      have hs1c : ((W2.setCell ⟨w.heap.size + 1 + 1 + 1, 1, none⟩ (.int .i64 y)).setCell ⟨w.heap.size + 1 + 1, 0, none⟩ (.int .i64 x)).cell? ⟨w.heap.size + 1 + 1, 0, none⟩ = some (.int .i64 x) := ((hsp.rs.far (p := ⟨w.heap.size + 1 + 1 + 1, 1, none⟩) (by simp only; omega) (.int .i64 y)).set0 0 (by simp) (.int .i64 x)).cell0 0 (by simp)
      clear hsp
      by_cases hq : y ≤ x
      · have d1 : decide (y ≤ x) = true := decide_eq_true hq
        go_wp2_with fail
        refine bodyPost_ret (v := .tuple #[.agg #[.int .i64 0, .int .i64 0], .iface 85 (.int .i64 8)]) (by simp [results, Try.results27, go_sem, hs0a, hs0b, hs0c]) rfl ⟨⟨_, _, _, rfl, .inr ⟨_, rfl⟩⟩, ?_⟩
        repeat (first
          | exact HSP.out.bel
          | (refine Below.setCell ?_ ?_ _; rotate_left; · (first | (simp; done) | (simp; omega))))
      · have d1 : decide (y ≤ x) = false := decide_eq_false hq
        go_wp2_with fail
        refine bodyPost_ret (v := .tuple #[.agg #[.int .i64 x, .int .i64 y], .nilIface]) (by simp [results, Try.results27, go_sem, hs1a, hs1b, hs1c]) rfl ⟨⟨_, _, _, rfl, .inl ⟨rfl, hx2, by omega, hz1, .inr (hz2 (by omega))⟩⟩, ?_⟩
        repeat (first
          | exact HSP.out.bel
          | (refine Below.setCell ?_ ?_ _; rotate_left; · (first | (simp; done) | (simp; omega))))
    · obtain ⟨y, hz, hz1, hz2⟩ : ∃ y, min (y0 + 1) (s.size : Int) = y ∧ y ≤ s.size ∧ (x < y → x = at_ ∨ y = at_ ∨ y = at_ + 1) := ⟨_, rfl, by omega, fun h2 => by omega⟩
      go_wp2_with fail
      go_region
      generalize hww : ((w1.setCell ⟨w.heap.size + 1 + 1 + 1, 0, none⟩ (.int .i64 x)).setCell ⟨w.heap.size + 1 + 1 + 1, 1, none⟩ (.int .i64 y0)).drew = W2
      have hsp := HW2.out _ hww.symm
      clear hww p0 p1 x0 x1 s0 s1 fx0 fx1 fs0 fs1 HW2 HB
      have HSP := Lib.hid hsp
      have p0 := hsp.p0; have p1 := hsp.p1; have x0 := hsp.rx.cell0 0 (by simp); have x1 := hsp.rx.cell0 1 (by simp); have s0 := hsp.rs.cell0 0 (by simp); have s1 := hsp.rs.cell0 1 (by simp)
      have fx0 := hsp.rx.frozen0 0 (by simp); have fx1 := hsp.rx.frozen0 1 (by simp); have fs0 := hsp.rs.frozen0 0 (by simp); have fs1 := hsp.rs.frozen0 1 (by simp)
      simp only [List.getElem_cons_zero, List.getElem_cons_succ] at x0 x1 s0 s1
      have hxx : ((W2.setCell ⟨w.heap.size + 1 + 1 + 1, 1, none⟩ (.int .i64 (y0 + 1))).setCell ⟨w.heap.size + 1 + 1 + 1, 1, none⟩ (.int .i64 y)).cell? ⟨w.heap.size + 1 + 1 + 1, 1, none⟩ = some (.int .i64 y) := ((hsp.rx.set0 1 (by simp) (.int .i64 (y0 + 1))).set0 1 (by simp) (.int .i64 y)).cell0 1 (by simp)
      have hs0a : ((((W2.setCell ⟨w.heap.size + 1 + 1 + 1, 1, none⟩ (.int .i64 (y0 + 1))).setCell ⟨w.heap.size + 1 + 1 + 1, 1, none⟩ (.int .i64 y)).setCell ⟨w.heap.size + 1 + 1, 0, none⟩ (.int .i64 0)).setCell ⟨w.heap.size + 1 + 1, 1, none⟩ (.int .i64 0)).cell? ⟨w.heap.size + 1 + 1, 0, none⟩ = some (.int .i64 0) := ((((hsp.rs.far (p := ⟨w.heap.size + 1 + 1 + 1, 1, none⟩) (by simp only; omega) (.int .i64 (y0 + 1))).far (p := ⟨w.heap.size + 1 + 1 + 1, 1, none⟩) (by simp only; omega) (.int .i64 y)).set0 0 (by simp) (.int .i64 0)).set0 1 (by simp) (.int .i64 0)).cell0 0 (by simp)
      have hs0b : ((((W2.setCell ⟨w.heap.size + 1 + 1 + 1, 1, none⟩ (.int .i64 (y0 + 1))).setCell ⟨w.heap.size + 1 + 1 + 1, 1, none⟩ (.int .i64 y)).setCell ⟨w.heap.size + 1 + 1, 0, none⟩ (.int .i64 0)).setCell ⟨w.heap.size + 1 + 1, 1, none⟩ (.int .i64 0)).cell? ⟨w.heap.size + 1 + 1, 1, none⟩ = some (.int .i64 0) := ((((hsp.rs.far (p := ⟨w.heap.size + 1 + 1 + 1, 1, none⟩) (by simp only; omega) (.int .i64 (y0 + 1))).far (p := ⟨w.heap.size + 1 + 1 + 1, 1, none⟩) (by simp only; omega) (.int .i64 y)).set0 0 (by simp) (.int .i64 0)).set0 1 (by simp) (.int .i64 0)).cell0 1 (by simp)
      have hs0c : (((W2.setCell ⟨w.heap.size + 1 + 1 + 1, 1, none⟩ (.int .i64 (y0 + 1))).setCell ⟨w.heap.size + 1 + 1 + 1, 1, none⟩ (.int .i64 y)).setCell ⟨w.heap.size + 1 + 1, 0, none⟩ (.int .i64 0)).cell? ⟨w.heap.size + 1 + 1, 0, none⟩ = some (.int .i64 0) := (((hsp.rs.far (p := ⟨w.heap.size + 1 + 1 + 1, 1, none⟩) (by simp only; omega) (.int .i64 (y0 + 1))).far (p := ⟨w.heap.size + 1 + 1 + 1, 1, none⟩) (by simp only; omega) (.int .i64 y)).set0 0 (by simp) (.int .i64 0)).cell0 0 (by simp)
      have hs1a : ((((W2.setCell ⟨w.heap.size + 1 + 1 + 1, 1, none⟩ (.int .i64 (y0 + 1))).setCell ⟨w.heap.size + 1 + 1 + 1, 1, none⟩ (.int .i64 y)).setCell ⟨w.heap.size + 1 + 1, 0, none⟩ (.int .i64 x)).setCell ⟨w.heap.size + 1 + 1, 1, none⟩ (.int .i64 y)).cell? ⟨w.heap.size + 1 + 1, 0, none⟩ = some (.int .i64 x) := ((((hsp.rs.far (p := ⟨w.heap.size + 1 + 1 + 1, 1, none⟩) (by simp only; omega) (.int .i64 (y0 + 1))).far (p := ⟨w.heap.size + 1 + 1 + 1, 1, none⟩) (by simp only; omega) (.int .i64 y)).set0 0 (by simp) (.int .i64 x)).set0 1 (by simp) (.int .i64 y)).cell0 0 (by simp)
      have hs1b : ((((W2.setCell ⟨w.heap.size + 1 + 1 + 1, 1, none⟩ (.int .i64 (y0 + 1))).setCell ⟨w.heap.size + 1 + 1 + 1, 1, none⟩ (.int .i64 y)).setCell ⟨w.heap.size + 1 + 1, 0, none⟩ (.int .i64 x)).setCell ⟨w.heap.size + 1 + 1, 1, none⟩ (.int .i64 y)).cell? ⟨w.heap.size + 1 + 1, 1, none⟩ = some (.int .i64 y) := ((((hsp.rs.far (p := ⟨w.heap.size + 1 + 1 + 1, 1, none⟩) (by simp only; omega) (.int .i64 (y0 + 1))).far (p := ⟨w.heap.size + 1 + 1 + 1, 1, none⟩) (by simp only; omega) (.int .i64 y)).set0 0 (by simp) (.int .i64 x)).set0 1 (by simp) (.int .i64 y)).cell0 1 (by simp)
      have hs1c : (((W2.setCell ⟨w.heap.size + 1 + 1 + 1, 1, none⟩ (.int .i64 (y0 + 1))).setCell ⟨w.heap.size + 1 + 1 + 1, 1, none⟩ (.int .i64 y)).setCell ⟨w.heap.size + 1 + 1, 0, none⟩ (.int .i64 x)).cell? ⟨w.heap.size + 1 + 1, 0, none⟩ = some (.int .i64 x) := (((hsp.rs.far (p := ⟨w.heap.size + 1 + 1 + 1, 1, none⟩) (by simp only; omega) (.int .i64 (y0 + 1))).far (p := ⟨w.heap.size + 1 + 1 + 1, 1, none⟩) (by simp only; omega) (.int .i64 y)).set0 0 (by simp) (.int .i64 x)).cell0 0 (by simp)
      clear hsp
      by_cases hq : y ≤ x
      · have d1 : decide (y ≤ x) = true := decide_eq_true hq
        go_wp2_with fail
        refine bodyPost_ret (v := .tuple #[.agg #[.int .i64 0, .int .i64 0], .iface 85 (.int .i64 8)]) (by simp [results, Try.results27, go_sem, hs0a, hs0b, hs0c]) rfl ⟨⟨_, _, _, rfl, .inr ⟨_, rfl⟩⟩, ?_⟩
        repeat (first
          | exact HSP.out.bel
          | (refine Below.setCell ?_ ?_ _; rotate_left; · (first | (simp; done) | (simp; omega))))
      · have d1 : decide (y ≤ x) = false := decide_eq_false hq
        go_wp2_with fail
        refine bodyPost_ret (v := .tuple #[.agg #[.int .i64 x, .int .i64 y], .nilIface]) (by simp [results, Try.results27, go_sem, hs1a, hs1b, hs1c]) rfl ⟨⟨_, _, _, rfl, .inl ⟨rfl, hx2, by omega, hz1, .inr (hz2 (by omega))⟩⟩, ?_⟩
        repeat (first
          | exact HSP.out.bel
          | (refine Below.setCell ?_ ?_ _; rotate_left; · (first | (simp; done) | (simp; omega))))
  · have hss0 : ((w1.setCell ⟨w.heap.size + 1 + 1, 0, none⟩ (.int .i64 0)).setCell ⟨w.heap.size + 1 + 1, 1, none⟩ (.int .i64 0)).cell? ⟨w.heap.size + 1 + 1, 0, none⟩ = some (.int .i64 0) := ((rs.set0 0 (by simp) (.int .i64 0)).set0 1 (by simp) (.int .i64 0)).cell0 0 (by simp)
    have hss1 : ((w1.setCell ⟨w.heap.size + 1 + 1, 0, none⟩ (.int .i64 0)).setCell ⟨w.heap.size + 1 + 1, 1, none⟩ (.int .i64 0)).cell? ⟨w.heap.size + 1 + 1, 1, none⟩ = some (.int .i64 0) := ((rs.set0 0 (by simp) (.int .i64 0)).set0 1 (by simp) (.int .i64 0)).cell0 1 (by simp)
    have hss2 : (w1.setCell ⟨w.heap.size + 1 + 1, 0, none⟩ (.int .i64 0)).cell? ⟨w.heap.size + 1 + 1, 0, none⟩ = some (.int .i64 0) := (rs.set0 0 (by simp) (.int .i64 0)).cell0 0 (by simp)
    clear rs rx rp
    go_wp2_with fail
    refine bodyPost_ret (v := .tuple #[.agg #[.int .i64 0, .int .i64 0], .iface 85 (.int .i64 q)]) (by simp [results, Try.results27, go_sem, hss0, hss1, hss2]) rfl ⟨⟨_, _, _, rfl, .inr ⟨_, rfl⟩⟩, ?_⟩
    repeat (first
      | exact HB.out
      | (refine Below.setCell ?_ ?_ _; rotate_left; · (first | (simp; done) | (simp; omega))))
end Go.Proofs.Ytenhblpegobbjaa
