/- Contract of package lz: longest. -/
import Derived.Test.YtnldobfafaajjaaLzA
import Derived.Test.YtnldobfafaajjaaPlainLz2
import Derived.Maps.GroupsBeside
import Derived.StringKeys
namespace Go.Proofs.Ytnldobfafaajjaa
open Go.RowKit Go.Maps
set_option linter.unusedVariables false
set_option linter.unusedSimpArgs false
namespace Lz
/-- the numbers in a slice, as they are read -/
def items (d : DataW Unit) : List Int := match d with
  | .slice es _ => es.map fun | .lit (.int _ z) => z | _ => 0
  | _ => []
theorem items_row (v : Value) (zs : List Int) (h : v = .slice none 0 0 → zs = []) (hv : ∃ a n c, v = .slice a n c ∧ (a = none → v = .slice none 0 0)) : items (rowDatum .i64 v zs) = zs := by
  obtain ⟨a, n, c, rfl, hn⟩ := hv
  cases a with
  | none =>
    have := h (hn rfl)
    subst this
    rfl
  | some x =>
    show (ChangeShapes.lits .i64 zs).map _ = zs
    simp only [ChangeShapes.lits, List.map_map]
    conv => rhs; rw [← List.map_id zs]
    apply List.map_congr_left
    intro z _
    rfl
end Lz
/-- the heads: block b is a map that has, by three bytes, where they stood ahead of p -/
def Heads (w : World) (B b n : Nat) (No : Nat → Prop) (l : List UInt8) (p : Nat) : Prop :=
  ∃ D : DataW Unit, w.ownsGroups Try.prog 9 B 3 .i64 b n D ∧ w.Shuns b No ∧ IsMap D ∧ ∀ key : List UInt8, key.length = 3 → Lz.items (D.atKey (.string key) .nil) = (Lz.places l p key).map fun (j : Nat) => (j : Int)
theorem zeroRow (w : World) : (zeroValue 43).run Try.prog w = .ok (.slice none 0 0) w := by kernel_rfl
theorem strKeyed : Keyed Try.prog 9 := string_keyed Try.underlying9
/-- what is looked up in the heads -/
theorem Heads.look {w : World} {B b n : Nat} {No : Nat → Prop} {l : List UInt8} {p : Nat} (h : Heads w B b n No l p) (hn : n < maxLen) (key : List UInt8) (hk : key.length = 3) :
    ∃ a cap, (Instr.lookup 50 (.map (some b)) (.string (bstr key)) false).run Try.prog w = .ok (.slice a (Lz.places l p key).length cap) w ∧ Owns w B 3 1 a (Lz.places l p key).length cap (nvals .i64 (Lz.places l p key)) := by
  obtain ⟨D, h1, h2, h3, h4⟩ := h
  obtain ⟨v, zs, hrun, hat, hoi, hzl, hback⟩ := h1.at strKeyed Try.underlying50 (zeroRow w) hn (WideMaps.keyOf_string_mk Try.underlying9 (show (bstr key).size ≤ maxLen by rw [bstr_size, hk]; decide))
  have hi := h4 key hk
  rw [show (Lit.string (bstr key).data.toList) = Lit.string key from rfl] at hat
  rw [hat] at hi
  have hsh : ∃ a c, v = .slice a zs.length c ∧ (a = none → v = .slice none 0 0) := by
    rcases hoi.1.2 with ⟨rfl, h0⟩ | ⟨g, cap, cur, rfl, _⟩
    · exact ⟨none, 0, by rw [h0], fun _ => rfl⟩
    · exact ⟨_, cap, rfl, fun e => by cases e⟩
  have hzs : zs = (Lz.places l p key).map fun (j : Nat) => (j : Int) := by
    rw [← hi]
    symm
    refine Lz.items_row v zs (fun e => ?_) ?_
    · rcases hoi.1.2 with ⟨_, h0⟩ | ⟨g, cap, cur, h0, _⟩
      · exact List.eq_nil_of_length_eq_zero h0
      · rw [h0] at e; cases e
    · obtain ⟨a, c, h5, h6⟩ := hsh
      exact ⟨a, _, c, h5, h6⟩
  have hlen : zs.length = (Lz.places l p key).length := by rw [hzs, List.length_map]
  obtain ⟨a, c, rfl, _⟩ := hsh
  rw [← hlen]
  refine ⟨a, c, hrun, ?_⟩
  have := hoi.1
  have e : zs.map (Value.int .i64) = nvals .i64 (Lz.places l p key) := by rw [hzs, List.map_map]; rfl
  rw [e] at this
  exact this
end Go.Proofs.Ytnldobfafaajjaa
