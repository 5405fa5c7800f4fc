/- text.is, text.Encode of good signs. -/
import Derived.Test.YtnldobfafaajjaaDoorTextB
import Derived.Test.YtnldobfafaajjaaDoorRdI
namespace Go.Proofs.YtnldobfafaajjaaDoor
open Go.RowKit Go.Shelf
set_option linter.unusedVariables false
set_option linter.unusedSimpArgs false
attribute [local go_sem] Oper.semAt_some
namespace Txt
def good (r : Nat) : Prop := r ≤ 1114111 ∧ (r < 55296 ∨ 57343 < r)
def enc (L : List Nat) : List UInt8 := L.flatMap fun r => Lib.encodeRune (r : Nat)
theorem enc_snoc (L : List Nat) (r : Nat) : enc (L ++ [r]) = enc L ++ Lib.encodeRune (r : Nat) := by simp [enc]
theorem enc_len (L : List Nat) : (enc L).length ≤ 4 * L.length := by
  induction L with
  | nil => exact Nat.le_refl _
  | cons r L ih =>
    have h := (Lib.encodeRuneZ_length (r : Nat)).2
    have e : enc (r :: L) = Lib.encodeRune (r : Nat) ++ enc L := by simp [enc]
    rw [e, List.length_append, List.length_cons]
    have e2 : (Lib.encodeRune (r : Nat)).length = (Lib.encodeRuneZ (r : Nat)).length := by simp [Lib.encodeRune]
    omega
theorem take_snoc (L : List Nat) (k : Nat) (h : k < L.length) : L.take (k + 1) = L.take k ++ [L.getD k 0] := by
  rw [List.take_succ_eq_append_getElem h, List.getD_eq_getElem?_getD, List.getElem?_eq_getElem h]; rfl
end Txt
theorem ownsFormT {W : World} {base : Nat} {e : TypeId} {size : Nat} {v : Value} {k : Nat} {xs : List Value} (h : W.ownsRow base e size v k xs) : ∃ a c, v = .slice a k c := by
  rcases h.2 with ⟨h1, h2⟩ | ⟨g, cap, _, h1, _⟩
  · exact ⟨none, 0, by rw [h1, h2]⟩
  · exact ⟨_, cap, h1⟩
theorem conv_ownT {w : World} {B : Nat} {a : Option Addr} {n cap : Nat} {l : List UInt8} (h : w.ownsRow B 5 1 (.slice a n cap) n (bvals l)) : (convert 71 9 (.slice a n cap)).run Tryd.prog w = .ok (.string (bstr l)) w := by
  have h' : Owns w B 5 1 a n cap (bvals l) := h
  have hl := h'.len
  rw [bvals_length, Nat.mul_one] at hl
  cases a with
  | none =>
    obtain ⟨h1, h2, h3⟩ := h'.of_none
    subst h1 h2
    obtain rfl : l = [] := List.eq_nil_of_length_eq_zero hl
    have hcv : ∀ w, (convert 71 9 (.slice none 0 0)).run Tryd.prog w = .ok (.string (bstr [])) w := fun w => by kernel_rfl
    exact hcv w
  | some x =>
    obtain ⟨e1, e2, e3, e4, e5⟩ := h'.row
    rw [e1]
    exact run_string_of (P := Tryd.prog) 71 5 9 Tryd.underlying71 Tryd.underlying5 Tryd.underlying9 e5 n cap hl.symm
theorem infoTu : (Tryd.prog.info? 5).map (fun i => (i.zero, i.size, i.bytes)) = some (some (.int .u8 0), 1, 1) := by kernel_rfl
theorem bvals_app (a b : List UInt8) : bvals a ++ bvals b = bvals (a ++ b) := by simp [bvals]
theorem runeCells_eq (r : Int) : Lib.runeCells r = bvals (Lib.encodeRune r) := by
  rw [← Lib.byteCells_encodeRune]; rfl
theorem is_good (r : Nat) (h : Txt.good r) (w : World) : Calls Tryd.prog 39 #[.int .i64 (r : Nat)] w fun e w' => e = .returned (.bool true) ∧ w = w' := by
  obtain ⟨h1, h2⟩ := h
  have q1 : decide ((0 : Int) ≤ (r : Int)) = true := decide_eq_true (by omega)
  have q2 : decide ((r : Int) ≤ 1114111) = true := decide_eq_true (by omega)
  by_cases h3 : r < 55296
  · have q3 : decide ((r : Int) < 55296) = true := decide_eq_true (by omega)
    go_enter Tryd.func39, Tryd.ntmps39
    go_wp2_with fail
    go_ret
    exact ⟨rfl, rfl⟩
  · have q3 : decide ((r : Int) < 55296) = false := decide_eq_false (by omega)
    have q4 : decide ((57343 : Int) < (r : Int)) = true := decide_eq_true (by omega)
    go_enter Tryd.func39, Tryd.ntmps39
    go_wp2_with fail
    go_ret
    exact ⟨rfl, rfl⟩
theorem own_alloc_below {B : Nat} {w w1 w2 : World} {o : Obj} {e : TypeId} {size : Nat} {a : Option Addr} {n cap : Nat} {xs : List Value} (h : Below B w w1) (ho : Owns w1 B e size a n cap xs) (hz : B ≤ w1.heap.size) (hg : (w1.alloc o).grownBy w2 (Value.slice a n cap).ownBlock) : Below B w w2 := by
  rw [ownBlock_eq] at hg
  have h1 := h.trans ((Below.refl B w1).alloc hz o)
  exact below_blk h1 (ho.alloc o) (Nat.le_refl _) (by simp; omega) hg
open Txt in
set_option maxRecDepth 100000 in
set_option maxHeartbeats 2000000 in
theorem Encode_ok (L : List Nat) (a : Option Addr) (n c : Nat) (w : World) (hn : L.length = n) (h9 : n ≤ 100000) (hv : ∀ r ∈ L, good r) (hr : RdI w a (L.map fun r : Nat => (r : Int))) :
    Calls Tryd.prog 18 #[.slice a n c] w fun e w' => e = .returned (.tuple #[.string (bstr (enc L)), .nilIface]) ∧ Below w.heap.size w w' := by
  have HR := Lib.hid hr; have HN := Lib.hid hn; have HV := Lib.hid hv
  clear hr hn hv
  go_enter Tryd.func18, Tryd.ntmps18
  go_wp2_with fail
  go_loopw [4, 9] (fun v4 v9 wr => ∃ (k : Nat) (b : Option Addr) (cb : Nat), k ≤ n ∧ v9 = .int .i64 k ∧ v4 = .slice b (enc (L.take k)).length cb ∧ Hid (Owns wr w.heap.size 5 1 b (enc (L.take k)).length cb (bvals (enc (L.take k)))) ∧ Hid (Below w.heap.size w wr)) (fun _ v9 _ => n - (intOf v9).toNat)
  case atStart => exact ⟨0, none, 0, by omega, rfl, rfl, Lib.hid (Owns.nil _ _ _ _), Lib.hid (Below.refl _ _)⟩
  case round =>
    obtain ⟨k, b, cb, hk, rfl, rfl, HO, HB⟩ := hrel
    by_cases hlt : k < n
    · have hki : (k : Int) < (n : Int) := by omega
      have hkl : k < L.length := by rw [HN.out]; exact hlt
      obtain ⟨x, rfl, hxb, hxc⟩ := (HR.out.below HB.out (Nat.le_refl _)) k (by rw [List.length_map]; exact hkl)
      have hge : (L.map fun r : Nat => (r : Int)).getD k 0 = (L.getD k 0 : Nat) := by
        simp only [List.getD_eq_getElem?_getD, List.getElem?_map, List.getElem?_eq_getElem hkl]; rfl
      rw [hge] at hxc
      have hgd : good (L.getD k 0) := by
        have e : L.getD k 0 = L[k] := by rw [List.getD_eq_getElem?_getD, List.getElem?_eq_getElem hkl]; rfl
        rw [e]; exact HV.out _ (List.getElem_mem hkl)
      have hts := take_snoc L k hkl
      have hel := enc_len (L.take k)
      rw [List.length_take] at hel
      generalize L.getD k 0 = r at *
      have hes : enc (L.take (k + 1)) = enc (L.take k) ++ Lib.encodeRune (r : Nat) := by rw [hts, enc_snoc]
      have his := fun W => is_good r hgd W
      have hrb : r ≤ 1114111 := hgd.1
      have hap := fun W (h : Owns W w.heap.size 5 1 b (enc (L.take k)).length cb (bvals (enc (L.take k)))) hB => Tryd.utf8_AppendRune_plain w.heap.size (.slice b (enc (L.take k)).length cb) (enc (L.take k)).length (bvals (enc (L.take k))) (r : Nat) (by omega) (by omega) W h (by omega) hB
      have HES := Lib.hid hes; have HIS := Lib.hid his; have HAP := Lib.hid hap
      have hri : IntKind.i32.wrap (r : Int) = (r : Int) := by rw [IntKind.wrap_i32]; omega
      clear hes his hap hge hts hgd hxb
      go_wp2_with fail
      refine (HIS.out _).mono ?_
      rintro e w1 ⟨rfl, rfl⟩
      go_wp2_with fail
      refine (HAP.out _ HO.out HB.out.size).mono ?_
      rintro e w2 ⟨v2, rfl, ho2, o, hg2⟩
      obtain ⟨b2, c2, rfl⟩ := ownsFormT ho2
      have hbe := own_alloc_below HB.out HO.out HB.out.size hg2
      rw [runeCells_eq, bvals_app, bvals_length] at ho2
      have hl2 : (enc (L.take k)).length + (Lib.encodeRune (r : Nat)).length = (enc (L.take (k + 1))).length := by rw [HES.out, List.length_append]
      rw [hl2, ← HES.out] at ho2
      have HO2 := Lib.hid ho2; have HBE := Lib.hid hbe
      rw [runeCells_eq, bvals_length, hl2]
      clear ho2 hbe hg2 hl2
      go_wp2_with fail
      go_roundw
      case rel => exact ⟨k + 1, b2, c2, by omega, by go_num, rfl, HO2, HBE⟩
      case measure => simp [intOf]; omega
    · obtain rfl : k = n := by omega
      have hd : decide ((k : Int) < (k : Int)) = false := by simp
      have hcv := conv_ownT HO.out
      have hall : L.take k = L := List.take_of_length_le (by rw [HN.out]; exact Nat.le_refl _)
      rw [hall] at hcv
      have HA := Lib.hid hall
      rw [hall]
      clear hall
      go_wp2_with fail
      go_ret2
      exact ⟨rfl, HB.out⟩
end Go.Proofs.YtnldobfafaajjaaDoor
