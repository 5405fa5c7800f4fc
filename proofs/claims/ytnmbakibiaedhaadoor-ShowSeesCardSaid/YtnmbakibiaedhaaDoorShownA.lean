/- Contract of text.Shown. -/
import Derived.Test.YtnmbakibiaedhaaDoorPlainXxd
import Derived.Test.YtnmbakibiaedhaaDoorMem
import Derived.Test.YtnmbakibiaedhaaDoorChecked
import Derived.Test.YtnmbakibiaedhaaDoorCommon
import Derived.Deep.DeepCutAuto
namespace Go.Proofs.YtnmbakibiaedhaaDoor
open Go.RowKit
set_option linter.unusedVariables false
set_option linter.unusedSimpArgs false
namespace Xx
def sh (c : UInt8) : UInt8 := if c.toNat < 32 ∨ 126 < c.toNat then 46 else c
theorem shown_map (l : List UInt8) : shown l = l.map sh := rfl
theorem sh_step (l : List UInt8) (k : Nat) (h : k < l.length) : ((l.take k).map sh ++ l.drop k).set k (sh (l.getD k 0)) = (l.take (k + 1)).map sh ++ l.drop (k + 1) := by
  have hl : ((l.take k).map sh).length = k := by rw [List.length_map, List.length_take]; omega
  rw [List.set_append_right _ _ (by omega), hl, Nat.sub_self, List.drop_eq_getElem_cons h, List.set_cons_zero, List.take_succ_eq_append_getElem h, List.map_append, List.append_assoc, List.getD_eq_getElem?_getD, List.getElem?_eq_getElem h]
  rfl
theorem sh_get (l : List UInt8) (k : Nat) (h : k < l.length) : ((l.take k).map sh ++ l.drop k).getD k 0 = l.getD k 0 := by
  have hl : ((l.take k).map sh).length = k := by rw [List.length_map, List.length_take]; omega
  rw [List.getD_eq_getElem?_getD, List.getElem?_append_right (by omega), hl, Nat.sub_self, List.getElem?_drop, Nat.add_zero, List.getD_eq_getElem?_getD]
end Xx
set_option maxRecDepth 100000 in
set_option maxHeartbeats 1000000 in
theorem Shown_any (l : List UInt8) (w : World) (hl : l.length ≤ 100000) :
    Calls Tryd.prog 74 #[.string (bstr l)] w fun e w' => e = .returned (.string (bstr (Xx.shown l))) ∧ Below w.heap.size w w' := by
  go_enter Tryd.func74, Tryd.ntmps74
  go_wp2_with (first | (refine wpList_bytes _ rfl _ _ _ _ rfl Tryd.underlying9 Tryd.underlying95 Tryd.underlying5 (bstr l) rfl ?_; intro w1 cap hcap hrow hb1 hlt1))
  have hsz : (bstr l).size = l.length := bstr_size l
  generalize hg : w.heap.size = g at *
  have HG := Lib.hid hg
  clear hg
  rw [hsz] at hcap
  go_loopw [4, 5, 10] (fun _ _ v10 wr => ∃ k : Nat, k ≤ l.length ∧ v10 = .int .i64 k ∧ Hid (RowAt wr g 0 5 (bvals ((l.take k).map Xx.sh ++ l.drop k))) ∧ Hid (Below g w wr)) (fun _ _ v10 _ => l.length - (intOf v10).toNat)
  case atStart => exact ⟨0, by omega, rfl, Lib.hid (by simpa using (show RowAt w1 g 0 5 (bvals l) from hrow)), Lib.hid hb1⟩
  case round =>
    obtain ⟨k, hk, rfl, HR, HB⟩ := hrel
    by_cases hlt : k < l.length
    · have hln : ((l.take k).map Xx.sh ++ l.drop k).length = l.length := by rw [List.length_append, List.length_map, List.length_take, List.length_drop]; omega
      have hc := HR.out.byte0 k (by omega)
      rw [Xx.sh_get l k hlt] at hc
      have hf := HR.out.frozen0 k (by rw [bvals_length]; omega)
      have hst := Xx.sh_step l k hlt
      have hki : (k : Int) < (l.length : Int) := by omega
      have hset := HR.out.set0 k (by rw [bvals_length]; omega) (.int .u8 46)
      have hsame : ∀ u : UInt8, bvals (((l.take k).map Xx.sh ++ l.drop k).set k u) = (bvals ((l.take k).map Xx.sh ++ l.drop k)).set k (.int .u8 ((u.toNat : Nat) : Int)) := fun u => by simp [bvals, bval, List.map_set]
      have hgk := Xx.sh_get l k hlt
      have hself : Xx.sh (l.getD k 0) = l.getD k 0 → ((l.take k).map Xx.sh ++ l.drop k).set k (Xx.sh (l.getD k 0)) = (l.take k).map Xx.sh ++ l.drop k := fun h => by
        rw [h]
        have : l.getD k 0 = ((l.take k).map Xx.sh ++ l.drop k)[k]'(by omega) := by
          rw [← hgk, List.getD_eq_getElem?_getD, List.getElem?_eq_getElem (by omega)]; rfl
        rw [this, List.set_getElem_self]
      have hsh : Xx.sh (l.getD k 0) = if (l.getD k 0).toNat < 32 ∨ 126 < (l.getD k 0).toNat then 46 else l.getD k 0 := rfl
      generalize l.getD k 0 = c at *
      have hcl := c.toNat_lt
      by_cases hp : c.toNat < 32 ∨ 126 < c.toNat
      · rw [if_pos hp] at hsh
        have hnew : RowAt (wr.setCell ⟨g, k, none⟩ (.int .u8 46)) g 0 5 (bvals ((l.take (k + 1)).map Xx.sh ++ l.drop (k + 1))) := by
          rw [← hst, hsh, hsame]
          exact hset
        have HN := Lib.hid hnew
        have hbs := HB.out.setCell (p := ⟨g, k, none⟩) (Nat.le_refl _) (.int .u8 46)
        have HBS := Lib.hid hbs
        clear hnew hbs hset hst hsame hself hgk hsh hln
        generalize c.toNat = cc at *
        by_cases h32 : cc < 32
        · have q1 : decide ((cc : Int) < 32) = true := decide_eq_true (by omega)
          clear hp
          go_wp2_with fail
          go_roundw
          case rel => exact ⟨k + 1, by omega, by go_num, HN, HBS⟩
          case measure => simp [intOf]; omega
        · have q1 : decide ((cc : Int) < 32) = false := decide_eq_false (by omega)
          have q2 : decide ((126 : Int) < (cc : Int)) = true := decide_eq_true (by omega)
          clear hp
          go_wp2_with fail
          go_roundw
          case rel => exact ⟨k + 1, by omega, by go_num, HN, HBS⟩
          case measure => simp [intOf]; omega
      · rw [if_neg hp] at hsh
        have hnew : RowAt wr g 0 5 (bvals ((l.take (k + 1)).map Xx.sh ++ l.drop (k + 1))) := by
          rw [← hst, hself hsh]
          exact HR.out
        have HN := Lib.hid hnew
        clear hnew hset hst hsame hself hgk hsh hln
        generalize c.toNat = cc at *
        have q1 : decide ((cc : Int) < 32) = false := decide_eq_false (by omega)
        have q2 : decide ((126 : Int) < (cc : Int)) = false := decide_eq_false (by omega)
        clear hp
        go_wp2_with fail
        go_roundw
        case rel => exact ⟨k + 1, by omega, by go_num, HN, HB⟩
        case measure => simp [intOf]; omega
    · obtain rfl : k = l.length := by omega
      have hd : decide ((l.length : Int) < (l.length : Int)) = false := by simp
      have hr := HR.out
      rw [List.take_of_length_le (Nat.le_refl _), List.drop_eq_nil_of_le (Nat.le_refl _), List.append_nil, ← Xx.shown_map] at hr
      have hcv := run_string_of (P := Tryd.prog) 95 5 9 (by kernel_rfl) (by kernel_rfl) (by kernel_rfl) hr l.length cap (by simp [Xx.shown])
      go_wp2_with fail
      go_ret
      exact ⟨rfl, by rw [HG.out]; exact HB.out⟩
end Go.Proofs.YtnmbakibiaedhaaDoor
