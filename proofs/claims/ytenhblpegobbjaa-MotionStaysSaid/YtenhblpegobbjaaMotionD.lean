/- Contracts of package motion: part, far; marks; find.Like without a mask. -/
import Derived.Test.YtenhblpegobbjaaMotionA
import Derived.Test.YtenhblpegobbjaaUnhexK
import Derived.Test.YtenhblpegobbjaaRdI
import Derived.Maps.StringElems
import Derived.WideKeyEntry
namespace Go.Proofs.Ytenhblpegobbjaa
open Go.RowKit
set_option linter.unusedVariables false
set_option linter.unusedSimpArgs false
/-- what Go answers: a byte that is there, or an error -/
def GoRes (N : Nat) (e : Ending) : Prop := ∃ (dst : Int) (b : Bool) (err : Value), e = .returned (.tuple #[.int .i64 dst, .bool b, err]) ∧ ((err = .nilIface ∧ 0 ≤ dst ∧ dst ≤ ((N - 1 : Nat) : Int)) ∨ ∃ k : Int, err = .iface 85 (.int .i64 k))
section
open Go.Maps Go.WideElems Go.ChangeMaps
/-- block m is a map from bytes to numbers, of the keys ks -/
def MarkMap (w : World) (m : Nat) (ks : List Nat) : Prop := ∃ es cl, w.heap[m]? = some (.map es cl) ∧ es.toList.map (·.key) = ks.map (fun c : Nat => Value.int .u8 c) ∧ (∀ c ∈ ks, c < 256) ∧ ks.Nodup ∧ ∀ e ∈ es.toList, ∃ v : Int, e.val = .int .i64 v
theorem MarkMap.of_heap {w w' : World} {m : Nat} {ks : List Nat} (h : MarkMap w m ks) (hh : w'.heap[m]? = w.heap[m]?) : MarkMap w' m ks := by
  obtain ⟨es, cl, h1, h2⟩ := h
  exact ⟨es, cl, hh.trans h1, h2⟩
theorem MarkMap.lt {w : World} {m : Nat} {ks : List Nat} (h : MarkMap w m ks) : m < w.heap.size := by
  obtain ⟨es, cl, h1, h2⟩ := h
  rcases Nat.lt_or_ge m w.heap.size with h | h
  · exact h
  · rw [Array.getElem?_eq_none h] at h1; cases h1
theorem MarkMap.below {w w' : World} {m B : Nat} {ks : List Nat} (h : MarkMap w m ks) (hb : Below B w w') (hm : m < B) : MarkMap w' m ks := h.of_heap (hb.block m hm)
theorem MarkMap.made (w : World) : MarkMap (w.alloc (.map #[] 0)) w.heap.size [] := ⟨#[], 0, heap_alloc_new w _, rfl, fun c hc => (by cases hc), List.nodup_nil, fun e he => by simp at he⟩
theorem mk_wf (c : Nat) (h : c < 256) : (Lit.int .u8 (c : Int)).wf = true := by
  have h1 : IntKind.u8.min = 0 := rfl
  have h2 : IntKind.u8.max = 255 := rfl
  simp [Lit.wf, h1, h2]
  omega
theorem keys_of {es : List MapEntry} {ks : List Nat} (h : es.map (·.key) = ks.map (fun c : Nat => Value.int .u8 c)) (hk : ∀ c ∈ ks, c < 256) : ∀ e ∈ es, ∃ l, keyOf Try.prog 5 e.key = some l := by
  intro e he
  have : e.key ∈ es.map (·.key) := List.mem_map.2 ⟨e, he, rfl⟩
  rw [h] at this
  obtain ⟨c, hc, hce⟩ := List.mem_map.1 this
  rw [← hce]
  exact ⟨_, keyOf_int_mk Try.underlying5 (mk_wf c (hk c hc))⟩
set_option maxRecDepth 100000 in
theorem MarkMap.look {w : World} {m : Nat} {ks : List Nat} (h : MarkMap w m ks) (c : Nat) (hc : c < 256) : ∃ (v : Int) (b : Bool), ∀ q, (Instr.lookup 46 (.map (some m)) (.int .u8 (c : Nat)) true).run Try.prog (w.drewN q) = .ok (.tuple #[.int .i64 v, .bool b]) (w.drewN q) := by
  obtain ⟨es, cl, hb, hk, hk2, hnd, hv⟩ := h
  have K := int_keyed Try.underlying5
  have hkey : keyOf Try.prog 5 (.int .u8 (c : Nat)) = some (.int .u8 (c : Nat)) := keyOf_int_mk Try.underlying5 (mk_wf c hc)
  have hz : ∀ q, (zeroValue 3).run Try.prog (w.drewN q) = .ok (.int .i64 0) (w.drewN q) := fun q => by kernel_rfl
  have hb' : ∀ q, (w.drewN q).heap[m]? = some (.map es cl) := fun q => hb
  have hks := keys_of hk hk2
  have hnd2 : (es.toList.map (·.key)).Nodup := by
    rw [hk]
    unfold List.Nodup
    rw [List.pairwise_map]
    exact hnd.imp fun h e => h (by injection e with _ e; omega)
  by_cases hin : ∃ (j : Nat) (e : MapEntry), es.toList[j]? = some e ∧ e.key = .int .u8 (c : Nat)
  · obtain ⟨j0, e0, g1, g2⟩ := hin
    obtain ⟨v, hev⟩ := hv e0 (List.mem_of_getElem? g1)
    refine ⟨v, true, fun q => ?_⟩
    rcases K.find (w.drewN q) hkey es.toList hks with ⟨h1, h2⟩ | ⟨j, e, h1, h2, h3⟩
    · exact absurd g2 (h2 e0 (List.mem_of_getElem? g1))
    · have hj : j = j0 := by
        refine (List.getElem?_inj (l := es.toList.map (·.key)) ?_ hnd2).1 ?_
        · rw [List.length_map]; exact (List.getElem?_eq_some_iff.1 h2).1
        · rw [List.getElem?_map, List.getElem?_map, h2, g1]; simp [h3, g2]
      subst hj
      obtain rfl : e = e0 := by rw [h2] at g1; exact Option.some.inj g1
      rw [hev] at h1
      simp [Instr.lookup, run_underlying Try.underlying46, MapKept.run_getObj_map (hb' q), K.check (w.drewN q) _ hkey, h1, Result.andThen]
  · refine ⟨0, false, fun q => ?_⟩
    rcases K.find (w.drewN q) hkey es.toList hks with ⟨h1, h2⟩ | ⟨j, e, h1, h2, h3⟩
    · simp [Instr.lookup, run_underlying Try.underlying46, MapKept.run_getObj_map (hb' q), K.check (w.drewN q) _ hkey, h1, hz q, Result.andThen]
    · exact absurd ⟨j, e, h2, h3⟩ hin
set_option maxRecDepth 100000 in
theorem MarkMap.put {w : World} {m : Nat} {ks : List Nat} (h : MarkMap w m ks) (c : Nat) (hc : c < 256) (hnew : c ∉ ks) (v : Int) : ∃ w', (Instr.mapUpdate 46 (.map (some m)) (.int .u8 (c : Nat)) (.int .i64 v)).run Try.prog w = .ok () w' ∧ MarkMap w' m (ks ++ [c]) ∧ w.grownBy w' (some m) ∧ w'.heap.size = w.heap.size := by
  obtain ⟨es, cl, hb, hk, hk2, hnd, hv⟩ := h
  have K := int_keyed Try.underlying5
  have hkey : keyOf Try.prog 5 (.int .u8 (c : Nat)) = some (.int .u8 (c : Nat)) := keyOf_int_mk Try.underlying5 (mk_wf c hc)
  have hg : ∀ o : Obj, w.grownBy (ChangeMaps.setBlock w m o) (some m) := fun o => ⟨rfl, rfl, rfl, by simp [ChangeMaps.setBlock], fun i _ hi => heap_setBlock_other hb _ (fun e => hi (by rw [e]))⟩
  rcases K.find w hkey es.toList (keys_of hk hk2) with ⟨h1, h2⟩ | ⟨j, e0, h1, h2, h3⟩
  · refine ⟨ChangeMaps.setBlock w m (.map (es.push ⟨.int .u8 (c : Nat), .int .i64 v, cl⟩) (cl + 1)), ?_, ⟨_, _, heap_setBlock_same hb _, ?_, ?_, ?_, fun e he => ?_⟩, hg _, by simp [ChangeMaps.setBlock]⟩
    · simp [Instr.mapUpdate, run_underlying Try.underlying46, MapKept.run_getObj_map hb, K.check w false hkey, h1, MapKept.run_setObj_map _ hb, Result.andThen, ChangeMaps.setBlock]
    · rw [Array.toList_push, List.map_append, List.map_append, hk]; rfl
    · intro d hd
      rcases List.mem_append.1 hd with hd | hd
      · exact hk2 d hd
      · rw [List.mem_singleton.1 hd]; exact hc
    · rw [List.nodup_append]
      exact ⟨hnd, by simp, fun x hx y hy e => hnew (by rw [List.mem_singleton.1 hy] at e; rw [← e]; exact hx)⟩
    · rw [Array.toList_push, List.mem_append, List.mem_singleton] at he
      rcases he with he | rfl
      · exact hv e he
      · exact ⟨v, rfl⟩
  · exfalso
    have : e0.key ∈ es.toList.map (·.key) := List.mem_map.2 ⟨e0, List.mem_of_getElem? h2, rfl⟩
    rw [hk, h3] at this
    obtain ⟨d, hd, hde⟩ := List.mem_map.1 this
    injection hde with _ hde
    exact hnew (by have : d = c := by omega
                   rw [← this]; exact hd)
end
set_option maxRecDepth 100000 in
theorem Like_nil (s : ByteArray) (w : World) :
    Calls Try.prog 65 #[.string s, .slice none 0 0] w fun e w' => e = .returned (.tuple #[.slice none 0 0, .iface 85 (.int .i64 1)]) ∧ Below w.heap.size w w' := by
  go_enter Try.func65, Try.ntmps65
  go_wp2_with fail
  go_ret2
  exact ⟨rfl, Below.refl _ _⟩
/-- the place lies in a box; its parts are read -/
structure PS (w : World) (s : ByteArray) (at_ : Int) (a1 : Option Addr) (n1 c1 : Nat) (mm : Option Nat) (a2 : Option Addr) (n2 c2 : Nat) (L : List Int) (wr : World) : Prop where
  row : RowAt wr w.heap.size 0 49 [.string s, .int .i64 at_, .slice a1 n1 c1, .map mm, .slice a2 n2 c2]
  rd : RdI wr a2 L
  bel : Below w.heap.size w wr
theorem PS.new {w : World} {s : ByteArray} {at_ : Int} {a1 : Option Addr} {n1 c1 : Nat} {mm : Option Nat} {a2 : Option Addr} {n2 c2 : Nat} {L : List Int} (h : RdI w a2 L) : PS w s at_ a1 n1 c1 mm a2 n2 c2 L (w.alloc (.cells #[.string s, .int .i64 at_, .slice a1 n1 c1, .map mm, .slice a2 n2 c2] 49)) :=
  have hb := (Below.refl w.heap.size w).alloc (Nat.le_refl _) (.cells #[.string s, .int .i64 at_, .slice a1 n1 c1, .map mm, .slice a2 n2 c2] 49)
  ⟨RowAt.new w _ _, h.below hb (Nat.le_refl _), hb⟩
theorem PS.drewN {w : World} {s : ByteArray} {at_ : Int} {a1 : Option Addr} {n1 c1 : Nat} {mm : Option Nat} {a2 : Option Addr} {n2 c2 : Nat} {L : List Int} {wr : World} (h : PS w s at_ a1 n1 c1 mm a2 n2 c2 L wr) (q : Nat) : PS w s at_ a1 n1 c1 mm a2 n2 c2 L (wr.drewN q) := ⟨h.row.drewN q, h.rd.drewN q, bdrewN h.bel q⟩
set_option maxRecDepth 100000 in
set_option maxHeartbeats 2000000 in
theorem part_true (s : ByteArray) (at_ : Int) (a1 : Option Addr) (n1 c1 : Nat) (mm : Option Nat) (a2 : Option Addr) (n2 c2 : Nat) (k : Nat) (L : List Int) (w : World) (hs : s.size ≤ 1000) (h0 : 0 ≤ at_) (h1 : at_ ≤ 1000) (hk : k ≤ 10000) (hn : L.length = n2) (hn2 : n2 ≤ 1000) (hr : RdI w a2 L) (hL : ∀ x ∈ L, 0 ≤ x ∧ x ≤ 1000) :
    Calls Try.prog 99 #[plVal s at_ a1 n1 c1 mm a2 n2 c2, .bool true, .int .i64 (k : Nat)] w fun e w' => GoRes s.size e ∧ Below w.heap.size w w' := by
  have hps := PS.new (w := w) (s := s) (at_ := at_) (a1 := a1) (n1 := n1) (c1 := c1) (mm := mm) (n2 := n2) (c2 := c2) hr
  have HPS := Lib.hid hps; have HN := Lib.hid hn; have HL := Lib.hid hL
  have hla := fun x w => bound_any s at_ x a1 n1 c1 mm a2 n2 c2 w (by omega)
  have HLA := Lib.hid hla
  clear hps hn hL hr hla
  go_enter Try.func99, Try.ntmps99
  go_wp2_with fail
  go_loopw [9, 16] (fun v9 v16 wr => ∃ (j : Nat) (t : Int), j ≤ k ∧ v16 = .int .i64 j ∧ v9 = .int .i64 t ∧ 0 ≤ t ∧ t ≤ 1000 ∧ Hid (PS w s at_ a1 n1 c1 mm a2 n2 c2 L wr)) (fun _ v16 _ => k - (intOf v16).toNat)
  case atStart => exact ⟨0, at_, by omega, rfl, rfl, h0, h1, HPS⟩
  case round =>
    obtain ⟨j, t, hj, rfl, rfl, ht0, ht1, HS⟩ := hrel
    have row := HS.out.row
    have c0 := row.cell0 0 (by simp); have c1' := row.cell0 1 (by simp); have c2' := row.cell0 2 (by simp); have c3' := row.cell0 3 (by simp); have c4' := row.cell0 4 (by simp)
    simp only [List.getElem_cons_zero, List.getElem_cons_succ] at c0 c1' c2' c3' c4'
    clear row
    by_cases hlt : j < k
    · have hjk : (j : Int) < (k : Int) := by omega
      go_wp2_with fail
      go_loopw [10, 21] (fun v10 v21 wr2 => ∃ (i : Nat) (u : Int), i ≤ n2 ∧ v21 = .int .i64 i ∧ v10 = .int .i64 u ∧ -1 ≤ u ∧ u ≤ 1000 ∧ Hid (PS w s at_ a1 n1 c1 mm a2 n2 c2 L wr2)) (fun _ v21 _ => n2 - (intOf v21).toNat)
      case atStart => exact ⟨0, -1, by omega, rfl, rfl, by omega, by omega, HS⟩
      case round =>
        clear c0 c1' c2' c3' c4'
        obtain ⟨i, u, hi, rfl, rfl, hu0, hu1, HS2⟩ := hrel
        have row := HS2.out.row
        have c0 := row.cell0 0 (by simp); have c1' := row.cell0 1 (by simp); have c2' := row.cell0 2 (by simp); have c3' := row.cell0 3 (by simp); have c4' := row.cell0 4 (by simp)
        simp only [List.getElem_cons_zero, List.getElem_cons_succ] at c0 c1' c2' c3' c4'
        clear row
        by_cases hli : i < n2
        · have hii : (i : Int) < (n2 : Int) := by omega
          obtain ⟨xa, rfl, hxb, hxc⟩ := HS2.out.rd i (by rw [HN.out]; exact hli)
          have hxl := HL.out (L.getD i 0) (by rw [List.getD_eq_getElem?_getD, List.getElem?_eq_getElem (by rw [HN.out]; exact hli)]; exact List.getElem_mem _)
          generalize L.getD i 0 = x at *
          clear hxb
          by_cases q1 : t < x
          · have d1 : decide (t < x) = true := decide_eq_true q1
            by_cases q2 : u < 0
            · have d2 : decide (u < 0) = true := decide_eq_true q2
              go_wp2_with fail
              go_roundw
              case rel => exact ⟨i + 1, x, by omega, by go_num, rfl, by omega, by omega, HS2⟩
              case measure => simp [intOf]; omega
            · have d2 : decide (u < 0) = false := decide_eq_false q2
              by_cases q3 : x < u
              · have d3 : decide (x < u) = true := decide_eq_true q3
                go_wp2_with fail
                go_roundw
                case rel => exact ⟨i + 1, x, by omega, by go_num, rfl, by omega, by omega, HS2⟩
                case measure => simp [intOf]; omega
              · have d3 : decide (x < u) = false := decide_eq_false q3
                go_wp2_with fail
                go_roundw
                case rel => exact ⟨i + 1, u, by omega, by go_num, rfl, by omega, by omega, HS2⟩
                case measure => simp [intOf]; omega
          · have d1 : decide (t < x) = false := decide_eq_false q1
            go_wp2_with fail
            go_roundw
            case rel => exact ⟨i + 1, u, by omega, by go_num, rfl, by omega, by omega, HS2⟩
            case measure => simp [intOf]; omega
        · obtain rfl : i = n2 := by omega
          have hd9 : decide ((i : Int) < (i : Int)) = false := by simp
          by_cases hu : u < 0
          · have e1 : decide (u < 0) = true := decide_eq_true hu
            go_wp2_with fail
            go_ret3
            exact ⟨⟨_, _, _, rfl, .inr ⟨_, rfl⟩⟩, HS2.out.bel⟩
          · have e1 : decide (u < 0) = false := decide_eq_false hu
            go_wp2_with fail
            go_roundw
            case rel => exact ⟨j + 1, u, by omega, by go_num, rfl, by omega, hu1, HS2⟩
            case measure => simp [intOf]; omega
    · obtain rfl : j = k := by omega
      have hd9 : decide ((j : Int) < (j : Int)) = false := by simp
      go_wp2_with fail
      refine (HLA.out _ _).mono ?_
      rintro e w9 ⟨rfl, hb9⟩
      have hbb := HS.out.bel.trans (hb9.mono HS.out.bel.size)
      go_wp2_with fail
      go_ret3
      exact ⟨⟨_, _, _, rfl, .inl ⟨rfl, bnd_nn _ _⟩⟩, hbb⟩
set_option maxRecDepth 100000 in
set_option maxHeartbeats 2000000 in
theorem part_false (s : ByteArray) (at_ : Int) (a1 : Option Addr) (n1 c1 : Nat) (mm : Option Nat) (a2 : Option Addr) (n2 c2 : Nat) (k : Nat) (L : List Int) (w : World) (hs : s.size ≤ 1000) (h0 : 0 ≤ at_) (h1 : at_ ≤ 1000) (hk : k ≤ 10000) (hn : L.length = n2) (hn2 : n2 ≤ 1000) (hr : RdI w a2 L) (hL : ∀ x ∈ L, 0 ≤ x ∧ x ≤ 1000) :
    Calls Try.prog 99 #[plVal s at_ a1 n1 c1 mm a2 n2 c2, .bool false, .int .i64 (k : Nat)] w fun e w' => GoRes s.size e ∧ Below w.heap.size w w' := by
  have hps := PS.new (w := w) (s := s) (at_ := at_) (a1 := a1) (n1 := n1) (c1 := c1) (mm := mm) (n2 := n2) (c2 := c2) hr
  have HPS := Lib.hid hps; have HN := Lib.hid hn; have HL := Lib.hid hL
  have hla := fun x w => bound_any s at_ x a1 n1 c1 mm a2 n2 c2 w (by omega)
  have HLA := Lib.hid hla
  clear hps hn hL hr hla
  go_enter Try.func99, Try.ntmps99
  go_wp2_with fail
  go_loopw [9, 16] (fun v9 v16 wr => ∃ (j : Nat) (t : Int), j ≤ k ∧ v16 = .int .i64 j ∧ v9 = .int .i64 t ∧ 0 ≤ t ∧ t ≤ 1000 ∧ Hid (PS w s at_ a1 n1 c1 mm a2 n2 c2 L wr)) (fun _ v16 _ => k - (intOf v16).toNat)
  case atStart => exact ⟨0, at_, by omega, rfl, rfl, h0, h1, HPS⟩
  case round =>
    obtain ⟨j, t, hj, rfl, rfl, ht0, ht1, HS⟩ := hrel
    have row := HS.out.row
    have c0 := row.cell0 0 (by simp); have c1' := row.cell0 1 (by simp); have c2' := row.cell0 2 (by simp); have c3' := row.cell0 3 (by simp); have c4' := row.cell0 4 (by simp)
    simp only [List.getElem_cons_zero, List.getElem_cons_succ] at c0 c1' c2' c3' c4'
    clear row
    by_cases hlt : j < k
    · have hjk : (j : Int) < (k : Int) := by omega
      go_wp2_with fail
      go_loopw [10, 21] (fun v10 v21 wr2 => ∃ (i : Nat) (u : Int), i ≤ n2 ∧ v21 = .int .i64 i ∧ v10 = .int .i64 u ∧ -1 ≤ u ∧ u ≤ 1000 ∧ Hid (PS w s at_ a1 n1 c1 mm a2 n2 c2 L wr2)) (fun _ v21 _ => n2 - (intOf v21).toNat)
      case atStart => exact ⟨0, -1, by omega, rfl, rfl, by omega, by omega, HS⟩
      case round =>
        clear c0 c1' c2' c3' c4'
        obtain ⟨i, u, hi, rfl, rfl, hu0, hu1, HS2⟩ := hrel
        have row := HS2.out.row
        have c0 := row.cell0 0 (by simp); have c1' := row.cell0 1 (by simp); have c2' := row.cell0 2 (by simp); have c3' := row.cell0 3 (by simp); have c4' := row.cell0 4 (by simp)
        simp only [List.getElem_cons_zero, List.getElem_cons_succ] at c0 c1' c2' c3' c4'
        clear row
        by_cases hli : i < n2
        · have hii : (i : Int) < (n2 : Int) := by omega
          obtain ⟨xa, rfl, hxb, hxc⟩ := HS2.out.rd i (by rw [HN.out]; exact hli)
          have hxl := HL.out (L.getD i 0) (by rw [List.getD_eq_getElem?_getD, List.getElem?_eq_getElem (by rw [HN.out]; exact hli)]; exact List.getElem_mem _)
          generalize L.getD i 0 = x at *
          clear hxb
          by_cases q1 : x < t
          · have d1 : decide (x < t) = true := decide_eq_true q1
            by_cases q2 : u < x
            · have d2 : decide (u < x) = true := decide_eq_true q2
              go_wp2_with fail
              go_roundw
              case rel => exact ⟨i + 1, x, by omega, by go_num, rfl, by omega, by omega, HS2⟩
              case measure => simp [intOf]; omega
            · have d2 : decide (u < x) = false := decide_eq_false q2
              go_wp2_with fail
              go_roundw
              case rel => exact ⟨i + 1, u, by omega, by go_num, rfl, by omega, by omega, HS2⟩
              case measure => simp [intOf]; omega
          · have d1 : decide (x < t) = false := decide_eq_false q1
            go_wp2_with fail
            go_roundw
            case rel => exact ⟨i + 1, u, by omega, by go_num, rfl, by omega, by omega, HS2⟩
            case measure => simp [intOf]; omega
        · obtain rfl : i = n2 := by omega
          have hd9 : decide ((i : Int) < (i : Int)) = false := by simp
          by_cases hu : u < 0
          · have e1 : decide (u < 0) = true := decide_eq_true hu
            go_wp2_with fail
            go_ret3
            exact ⟨⟨_, _, _, rfl, .inr ⟨_, rfl⟩⟩, HS2.out.bel⟩
          · have e1 : decide (u < 0) = false := decide_eq_false hu
            go_wp2_with fail
            go_roundw
            case rel => exact ⟨j + 1, u, by omega, by go_num, rfl, by omega, hu1, HS2⟩
            case measure => simp [intOf]; omega
    · obtain rfl : j = k := by omega
      have hd9 : decide ((j : Int) < (j : Int)) = false := by simp
      go_wp2_with fail
      refine (HLA.out _ _).mono ?_
      rintro e w9 ⟨rfl, hb9⟩
      have hbb := HS.out.bel.trans (hb9.mono HS.out.bel.size)
      go_wp2_with fail
      go_ret3
      exact ⟨⟨_, _, _, rfl, .inl ⟨rfl, bnd_nn _ _⟩⟩, hbb⟩
set_option maxRecDepth 100000 in
theorem far_93 (s : ByteArray) (at_ : Int) (a1 : Option Addr) (n1 c1 : Nat) (mm : Option Nat) (a2 : Option Addr) (n2 c2 : Nat) (k : Nat) (arg : ByteArray) (w : World) (hs : s.size ≤ 1000) (h0 : 0 ≤ at_) (h1 : at_ ≤ 1000) (hk0 : 1 ≤ k) (hk : k ≤ 10000) (L : List Int) (hn : L.length = n2) (hn2 : n2 ≤ 1000) (hr : RdI w a2 L) (hL : ∀ x ∈ L, 0 ≤ x ∧ x ≤ 1000) :
    Calls Try.prog 63 #[plVal s at_ a1 n1 c1 mm a2 n2 c2, .int .u8 93, .int .i64 (k : Nat), .string arg] w fun e w' => GoRes s.size e ∧ Below w.heap.size w w' := by
  have hps := PS.new (w := w) (s := s) (at_ := at_) (a1 := a1) (n1 := n1) (c1 := c1) (mm := mm) (n2 := n2) (c2 := c2) hr
  have hp := part_true s at_ a1 n1 c1 mm a2 n2 c2 k L _ hs h0 h1 hk hn hn2 hps.rd hL
  have hbel := hps.bel
  have HP := Lib.hid hp; have HB := Lib.hid hbel
  clear hps hp hr hL hbel
  go_enter Try.func63, Try.ntmps63
  go_wp2_with fail
  refine HP.out.mono ?_
  rintro e w1 ⟨⟨dst, b, err, rfl, hc⟩, hb1⟩
  have hbb := HB.out.trans (hb1.mono HB.out.size)
  go_wp2_with fail
  go_ret3
  exact ⟨⟨_, _, _, rfl, hc⟩, hbb⟩
set_option maxRecDepth 100000 in
theorem far_91 (s : ByteArray) (at_ : Int) (a1 : Option Addr) (n1 c1 : Nat) (mm : Option Nat) (a2 : Option Addr) (n2 c2 : Nat) (k : Nat) (arg : ByteArray) (w : World) (hs : s.size ≤ 1000) (h0 : 0 ≤ at_) (h1 : at_ ≤ 1000) (hk0 : 1 ≤ k) (hk : k ≤ 10000) (L : List Int) (hn : L.length = n2) (hn2 : n2 ≤ 1000) (hr : RdI w a2 L) (hL : ∀ x ∈ L, 0 ≤ x ∧ x ≤ 1000) :
    Calls Try.prog 63 #[plVal s at_ a1 n1 c1 mm a2 n2 c2, .int .u8 91, .int .i64 (k : Nat), .string arg] w fun e w' => GoRes s.size e ∧ Below w.heap.size w w' := by
  have hps := PS.new (w := w) (s := s) (at_ := at_) (a1 := a1) (n1 := n1) (c1 := c1) (mm := mm) (n2 := n2) (c2 := c2) hr
  have hp := part_false s at_ a1 n1 c1 mm a2 n2 c2 k L _ hs h0 h1 hk hn hn2 hps.rd hL
  have hbel := hps.bel
  have HP := Lib.hid hp; have HB := Lib.hid hbel
  clear hps hp hr hL hbel
  go_enter Try.func63, Try.ntmps63
  go_wp2_with fail
  refine HP.out.mono ?_
  rintro e w1 ⟨⟨dst, b, err, rfl, hc⟩, hb1⟩
  have hbb := HB.out.trans (hb1.mono HB.out.size)
  go_wp2_with fail
  go_ret3
  exact ⟨⟨_, _, _, rfl, hc⟩, hbb⟩
set_option maxRecDepth 100000 in
theorem far_110 (s : ByteArray) (at_ : Int) (mm : Option Nat) (a2 : Option Addr) (n2 c2 : Nat) (k : Nat) (arg : ByteArray) (w : World) (hs : s.size ≤ 1000) (h0 : 0 ≤ at_) (h1 : at_ ≤ 1000) (hk0 : 1 ≤ k) (hk : k ≤ 10000) :
    Calls Try.prog 63 #[plVal s at_ none 0 0 mm a2 n2 c2, .int .u8 110, .int .i64 (k : Nat), .string arg] w fun e w' => GoRes s.size e ∧ Below w.heap.size w w' := by
  have hbel := (Below.refl w.heap.size w).alloc (Nat.le_refl _) (.cells #[.string s, .int .i64 at_, .slice none 0 0, .map mm, .slice a2 n2 c2] 49)
  have HB := Lib.hid hbel
  clear hbel
  go_enter Try.func63, Try.ntmps63
  go_wp2_with fail
  refine (Like_nil s _).mono ?_
  rintro e w1 ⟨rfl, hb1⟩
  have hbb := HB.out.trans (hb1.mono HB.out.size)
  go_wp2_with fail
  go_ret3
  exact ⟨⟨_, _, _, rfl, .inr ⟨_, rfl⟩⟩, hbb⟩
set_option maxRecDepth 100000 in
theorem far_78 (s : ByteArray) (at_ : Int) (mm : Option Nat) (a2 : Option Addr) (n2 c2 : Nat) (k : Nat) (arg : ByteArray) (w : World) (hs : s.size ≤ 1000) (h0 : 0 ≤ at_) (h1 : at_ ≤ 1000) (hk0 : 1 ≤ k) (hk : k ≤ 10000) :
    Calls Try.prog 63 #[plVal s at_ none 0 0 mm a2 n2 c2, .int .u8 78, .int .i64 (k : Nat), .string arg] w fun e w' => GoRes s.size e ∧ Below w.heap.size w w' := by
  have hbel := (Below.refl w.heap.size w).alloc (Nat.le_refl _) (.cells #[.string s, .int .i64 at_, .slice none 0 0, .map mm, .slice a2 n2 c2] 49)
  have HB := Lib.hid hbel
  clear hbel
  go_enter Try.func63, Try.ntmps63
  go_wp2_with fail
  refine (Like_nil s _).mono ?_
  rintro e w1 ⟨rfl, hb1⟩
  have hbb := HB.out.trans (hb1.mono HB.out.size)
  go_wp2_with fail
  go_ret3
  exact ⟨⟨_, _, _, rfl, .inr ⟨_, rfl⟩⟩, hbb⟩
open Digits in
set_option maxRecDepth 100000 in
set_option maxHeartbeats 2000000 in
theorem far_102 (s : ByteArray) (at_ : Int) (a1 : Option Addr) (n1 c1 : Nat) (mm : Option Nat) (a2 : Option Addr) (n2 c2 : Nat) (k : Nat) (c d : UInt8) (h g : Nat) (w : World) (hs : s.size ≤ 1000) (h0 : 0 ≤ at_) (h1 : at_ ≤ 1000) (hk0 : 1 ≤ k) (hk : k ≤ 10000) (hc : c ≠ 32) (hh : Keys.dig c.toNat = (h : Int)) (hg : Keys.dig d.toNat = (g : Int)) :
    Calls Try.prog 63 #[plVal s at_ a1 n1 c1 mm a2 n2 c2, .int .u8 102, .int .i64 (k : Nat), .string (bstr [c, d])] w fun e w' => GoRes s.size e ∧ Below w.heap.size w w' := by
  have hps := PS.new (w := w) (s := s) (at_ := at_) (a1 := a1) (n1 := n1) (c1 := c1) (mm := mm) (a2 := a2) (n2 := n2) (c2 := c2) (L := []) (fun i hi => by simp at hi)
  have hu := Unhex_any [c, d] [] _ (w.alloc (.cells #[.string s, .int .i64 at_, .slice a1 n1 c1, .map mm, .slice a2 n2 c2] 49)) (.byte hc hh hg .nil) (.inl rfl) (by simp)
  rw [List.append_nil] at hu
  obtain ⟨L, hL⟩ : ∃ L : List Int, L = [] := ⟨_, rfl⟩
  rw [← hL] at hps
  have HPS := Lib.hid hps; have HU := Lib.hid hu
  clear hps hu hL hc hh hg
  generalize UInt8.ofNat (16 * h + g) = z at *
  have hz : ∀ q : 0 < (bstr [z]).size, ((bstr [z])[0]'q).toNat = z.toNat := fun q => by rw [bstr_at]; rfl
  generalize hzn : z.toNat = zn at *
  have HZN := Lib.hid hzn
  clear hzn
  go_enter Try.func63, Try.ntmps63
  go_wp2_with fail
  refine HU.out.mono ?_
  rintro e w1 ⟨hout, hb1⟩
  obtain ⟨_, rfl⟩ : ([] : List UInt8) = [] ∧ e = .returned (.tuple #[.string (bstr [z]), .nilIface]) := by
    rcases hout with h | h
    · exact h
    · exact absurd rfl h.1
  have hps1 : PS w s at_ a1 n1 c1 mm a2 n2 c2 L w1 := ⟨HPS.out.row.below hb1 HPS.out.row.lt, HPS.out.rd.below hb1 (Nat.le_refl _), HPS.out.bel.trans (hb1.mono HPS.out.bel.size)⟩
  have HP1 := Lib.hid hps1
  have row := hps1.row
  have c0 := row.cell0 0 (by simp); have c1' := row.cell0 1 (by simp)
  simp only [List.getElem_cons_zero, List.getElem_cons_succ] at c0 c1'
  clear hps1 hout hb1 HPS HU row
  have hat : at_ + 1 = ((at_.toNat + 1 : Nat) : Int) := by omega
  go_wp2_with fail
  clear c0 c1'
  go_loopw [2, 13] (fun v2 v13 wr => ∃ (i j : Nat), i ≤ 2000 ∧ 1 ≤ j ∧ j ≤ 10000 ∧ v13 = .int .i64 i ∧ v2 = .int .i64 j ∧ Hid (PS w s at_ a1 n1 c1 mm a2 n2 c2 L wr)) (fun _ v13 _ => s.size - (intOf v13).toNat)
  case atStart => exact ⟨at_.toNat + 1, k, by omega, hk0, hk, by congr 1; omega, rfl, HP1⟩
  case round =>
    obtain ⟨i, j, hi, hj0, hj1, rfl, rfl, HS⟩ := hrel
    have row := HS.out.row
    have c0 := row.cell0 0 (by simp); have c1' := row.cell0 1 (by simp)
    simp only [List.getElem_cons_zero, List.getElem_cons_succ] at c0 c1'
    clear row
    by_cases hlt : i < s.size
    · have hii : (i : Int) < (s.size : Int) := by omega
      obtain ⟨x, hx⟩ : ∃ x : Nat, ∀ q : i < s.size, (s[i]'q).toNat = x := ⟨(s[i]'hlt).toNat, fun _ => rfl⟩
      by_cases hxz : x = zn
      · have d1 : ((x : Int) == (zn : Int)) = true := by rw [beq_iff_eq]; omega
        have d1' : (x == zn) = true := by rw [beq_iff_eq]; omega
        have HXZ := Lib.hid hxz
        clear hxz
        go_wp2_with fail
        go_quiet (fail)
        have HS3 := Lib.hid (HS.out.drewN nq)
        generalize wr.drewN nq = w3 at *
        by_cases hj : j = 1
        · have d2 : ((j : Int) - 1 == 0) = true := by rw [beq_iff_eq]; omega
          go_wp2_with fail
          go_ret3
          exact ⟨⟨_, _, _, rfl, .inl ⟨rfl, by omega, by omega⟩⟩, HS3.out.bel⟩
        · have d2 : ((j : Int) - 1 == 0) = false := by rw [beq_eq_false_iff_ne]; omega
          go_wp2_with fail
          go_roundw
          case rel => exact ⟨i + 1, j - 1, by omega, by omega, by omega, by go_num, by go_num, HS3⟩
          case measure => simp [intOf]; omega
      · have d1 : ((x : Int) == (zn : Int)) = false := by rw [beq_eq_false_iff_ne]; omega
        have d1' : (x == zn) = false := by rw [beq_eq_false_iff_ne]; omega
        have HXZ := Lib.hid hxz
        clear hxz
        go_wp2_with fail
        go_quiet (fail)
        have HS3 := Lib.hid (HS.out.drewN nq)
        generalize wr.drewN nq = w3 at *
        go_wp2_with fail
        go_roundw
        case rel => exact ⟨i + 1, j, by omega, by omega, by omega, by go_num, by go_num, HS3⟩
        case measure => simp [intOf]; omega
    · have d9 : decide ((i : Int) < (s.size : Int)) = false := decide_eq_false (by omega)
      have d8 : decide (i < s.size) = false := decide_eq_false (by omega)
      go_wp2_with fail
      go_ret3
      exact ⟨⟨_, _, _, rfl, .inr ⟨_, rfl⟩⟩, HS.out.bel⟩
end Go.Proofs.Ytenhblpegobbjaa
