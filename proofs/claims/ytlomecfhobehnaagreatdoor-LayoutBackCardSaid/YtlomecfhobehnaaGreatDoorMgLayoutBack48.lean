/- The law LayoutBack, walked. -/
import Derived.Test.YtlomecfhobehnaaGreatDoorMgLayoutBack47
section
/- What is read: its numbers are ints, and it is no more than there is. -/
namespace Go.Proofs.YtlomecfhobehnaaGreatDoor
set_option linter.unusedVariables false
set_option linter.unusedSimpArgs false
open Ly
theorem val_any {w u : Tm.Wd} : Ex.InR (valW w u) := by
  cases hk : Tm.kindOf w with
  | some k => exact val_range (by rw [hk]; rfl)
  | none =>
    unfold valW widW ordW sgdW
    rw [hk]
    simp [Ex.InR, getN]
namespace Ly
/-- readers of structs that read no more than there is -/
def SubLe (S : Sub) : Prop := ∀ nm st ks st', S nm st = some (ks, st') → ks.ok ∧ ks.tot + st.at_ + 8 * st.n ≤ st'.at_ + 8 * st'.n
theorem tak_le {s u : Tm.Wd} {k : Int} {st st' : St} (h : tak s k st = some (u, st')) : u.length + st.at_ ≤ st'.at_ ∧ st'.n = st.n := by
  unfold tak at h
  split at h
  · cases h
  · cases h
    refine ⟨?_, rfl⟩
    rw [List.length_take]
    show min k.toNat _ + st.at_ ≤ st.at_ + k.toNat
    omega
theorem nod_le {st st' : St} (h : nod st = some st') : st'.at_ = st.at_ ∧ st'.n = st.n + 1 := ⟨nod_at h, nod_n h⟩
theorem one_le {S : Sub} (hS : SubLe S) {s : Tm.Wd} {N : Ex.Names} {h : Tm.Hd} {st st' : St} {d : Nd} (ho : oneH S s N h st = some (d, st')) : d.ok ∧ d.tot + st.at_ + 8 * st.n ≤ st'.at_ + 8 * st'.n := by
  unfold oneH at ho
  cases hn : nod st with
  | none => rw [hn] at ho; cases ho
  | some st1 =>
    obtain ⟨a1, a2⟩ := nod_le hn
    rw [hn] at ho
    simp only [Option.bind_some] at ho
    cases hk : h.k with
    | scalar w =>
      rw [hk] at ho
      simp only [] at ho
      cases ht : tak s (widW w : Nat) st1 with
      | none => rw [ht] at ho; cases ho
      | some p =>
        obtain ⟨u, st2⟩ := p
        obtain ⟨b1, b2⟩ := tak_le ht
        rw [ht] at ho
        simp only [Option.map_some, Option.some.injEq, Prod.mk.injEq] at ho
        obtain ⟨rfl, rfl⟩ := ho
        refine ⟨⟨val_any, trivial⟩, ?_⟩
        show 0 + 8 + 0 + st.at_ + 8 * st.n ≤ _
        omega
    | bytes =>
      rw [hk] at ho
      simp only [] at ho
      cases hc : h.cnt.bind (Ex.ev N) with
      | none => rw [hc] at ho; cases ho
      | some k =>
        rw [hc] at ho
        simp only [Option.bind_some] at ho
        cases ht : tak s k st1 with
        | none => rw [ht] at ho; cases ho
        | some p =>
          obtain ⟨u, st2⟩ := p
          obtain ⟨b1, b2⟩ := tak_le ht
          rw [ht] at ho
          simp only [Option.map_some, Option.some.injEq, Prod.mk.injEq] at ho
          obtain ⟨rfl, rfl⟩ := ho
          refine ⟨⟨(by unfold Ex.InR; simp), trivial⟩, ?_⟩
          show u.length + 8 + 0 + st.at_ + 8 * st.n ≤ _
          omega
    | struct t =>
      rw [hk] at ho
      simp only [] at ho
      cases ht : S t st1 with
      | none => rw [ht] at ho; cases ho
      | some p =>
        obtain ⟨ks, st2⟩ := p
        obtain ⟨b1, b2⟩ := hS _ _ _ _ ht
        rw [ht] at ho
        simp only [Option.map_some, Option.some.injEq, Prod.mk.injEq] at ho
        obtain ⟨rfl, rfl⟩ := ho
        refine ⟨⟨(by unfold Ex.InR; simp), b1⟩, ?_⟩
        show 0 + 8 + ks.tot + st.at_ + 8 * st.n ≤ _
        omega
theorem rep_le {f : St → Option (Nd × St)} (hf : ∀ st st' d, f st = some (d, st') → d.ok ∧ d.tot + st.at_ + 8 * st.n ≤ st'.at_ + 8 * st'.n) : ∀ (k : Nat) (st st' : St) (ks : Nds), Ly.rep f k st = some (ks, st') → ks.ok ∧ ks.tot + st.at_ + 8 * st.n ≤ st'.at_ + 8 * st'.n
  | 0, st, st', ks, h => by
    cases h
    exact ⟨trivial, by show 0 + _ + _ ≤ _; omega⟩
  | k + 1, st, st', ks, h => by
    have h2 : (f st).bind (fun p => (Ly.rep f k p.2).map fun q => (p.1.put q.1, q.2)) = some (ks, st') := h
    cases h3 : f st with
    | none => rw [h3] at h2; cases h2
    | some p =>
      obtain ⟨d, st1⟩ := p
      rw [h3] at h2
      simp only [Option.bind_some] at h2
      cases h4 : Ly.rep f k st1 with
      | none => rw [h4] at h2; cases h2
      | some q =>
        obtain ⟨r, st2⟩ := q
        rw [h4] at h2
        simp only [Option.map_some, Option.some.injEq, Prod.mk.injEq] at h2
        obtain ⟨rfl, rfl⟩ := h2
        obtain ⟨a1, a2⟩ := hf _ _ _ h3
        obtain ⟨b1, b2⟩ := rep_le hf k _ _ _ h4
        exact ⟨⟨a1.1, a1.2, b1⟩, by rw [put_tot]; omega⟩
theorem hd_le {S : Sub} (hS : SubLe S) {s : Tm.Wd} {N : Ex.Names} {h : Tm.Hd} {st st' : St} {d : Nd} (ho : hdR S s N h st = some (d, st')) : d.ok ∧ d.tot + st.at_ + 8 * st.n ≤ st'.at_ + 8 * st'.n := by
  unfold hdR at ho
  split at ho
  · unfold lstH at ho
    cases hn : nod st with
    | none => rw [hn] at ho; cases ho
    | some st1 =>
      obtain ⟨a1, a2⟩ := nod_le hn
      rw [hn] at ho
      simp only [Option.bind_some] at ho
      cases hc : h.cnt.bind (Ex.ev N) with
      | none => rw [hc] at ho; cases ho
      | some k =>
        rw [hc] at ho
        simp only [Option.bind_some] at ho
        split at ho
        · cases ho
        · cases hr : Ly.rep (oneH S s N h) k.toNat st1 with
          | none => rw [hr] at ho; cases ho
          | some p =>
            obtain ⟨ks, st2⟩ := p
            obtain ⟨b1, b2⟩ := rep_le (fun _ _ _ => one_le hS) _ _ _ _ hr
            rw [hr] at ho
            simp only [Option.map_some, Option.some.injEq, Prod.mk.injEq] at ho
            obtain ⟨rfl, rfl⟩ := ho
            refine ⟨⟨(by unfold Ex.InR; simp), b1⟩, ?_⟩
            show 0 + 8 + ks.tot + st.at_ + 8 * st.n ≤ _
            omega
  · exact one_le hS ho
theorem its_le {S : Sub} (hS : SubLe S) (s : Tm.Wd) : ∀ (l : Tm.Its) (N N' : Ex.Names) (st st' : St) (ks : Nds), itsR S s l N st = some (ks, N', st') → ks.ok ∧ ks.tot + st.at_ + 8 * st.n ≤ st'.at_ + 8 * st'.n
  | .nil, N, N', st, st', ks, h => by
    cases h
    exact ⟨trivial, by show 0 + _ + _ ≤ _; omega⟩
  | .cons h l, N, N', st, st', ks, ho => by
    cases h1 : hdR S s N h st with
    | none => rw [its_hd_bad h1] at ho; cases ho
    | some p =>
      obtain ⟨d, st1⟩ := p
      rw [its_hd h1] at ho
      cases h2 : itsR S s l (if Tm.single h then upd N h.name d.val else N) st1 with
      | none => rw [h2] at ho; cases ho
      | some q =>
        obtain ⟨r, N2, st2⟩ := q
        rw [h2] at ho
        simp only [Option.map_some, Option.some.injEq, Prod.mk.injEq] at ho
        obtain ⟨rfl, rfl, rfl⟩ := ho
        obtain ⟨a1, a2⟩ := hd_le hS h1
        obtain ⟨b1, b2⟩ := its_le hS s l _ _ _ _ _ h2
        exact ⟨⟨a1.1, a1.2, b1⟩, by rw [put_tot]; omega⟩
  | .when a c b l, N, N', st, st', ks, ho => by
    rw [its_when] at ho
    unfold whenR at ho
    cases hn : nod st with
    | none => rw [hn] at ho; cases ho
    | some st1 =>
      obtain ⟨a1, a2⟩ := nod_le hn
      rw [hn] at ho
      simp only [Option.bind_some] at ho
      cases hc : Ex.ev N c with
      | none => rw [hc] at ho; cases ho
      | some v =>
        rw [hc] at ho
        simp only [Option.bind_some] at ho
        cases hb : (if v = 0 then some (Nds.nil, N, st1) else itsR S s b N st1) with
        | none => rw [hb] at ho; cases ho
        | some p =>
          obtain ⟨kb, Nb, stb⟩ := p
          have hkb : kb.ok ∧ kb.tot + st1.at_ + 8 * st1.n ≤ stb.at_ + 8 * stb.n := by
            split at hb
            · cases hb
              exact ⟨trivial, by show 0 + _ + _ ≤ _; omega⟩
            · exact its_le hS s b _ _ _ _ _ hb
          rw [hb] at ho
          simp only [Option.map_some, Option.bind_some] at ho
          cases h2 : itsR S s l Nb stb with
          | none => rw [h2] at ho; cases ho
          | some q =>
            obtain ⟨r, N2, st2⟩ := q
            rw [h2] at ho
            simp only [Option.map_some, Option.some.injEq, Prod.mk.injEq] at ho
            obtain ⟨rfl, rfl, rfl⟩ := ho
            obtain ⟨b1, b2⟩ := its_le hS s l _ _ _ _ _ h2
            refine ⟨⟨(by show Ex.InR (if v = 0 then 0 else 1); split <;> (unfold Ex.InR; simp)), hkb.1, b1⟩, ?_⟩
            show 0 + 8 + kb.tot + r.tot + st.at_ + 8 * st.n ≤ _
            omega
theorem rdS_le (s : Tm.Wd) : ∀ l : List Tm.Ty, SubLe (rdS s l)
  | [], nm, st, ks, st', h => by cases h
  | t :: r, nm, st, ks, st', h => by
    by_cases hn : t.name = nm
    · subst hn
      rw [rdS_at] at h
      cases h1 : itsR (rdS s r) s t.items (fun _ => none) st with
      | none => rw [h1] at h; cases h
      | some p =>
        obtain ⟨k2, N2, st2⟩ := p
        rw [h1] at h
        simp only [Option.map_some, Option.some.injEq, Prod.mk.injEq] at h
        obtain ⟨rfl, rfl⟩ := h
        exact its_le (rdS_le s r) s _ _ _ _ _ _ h1
    · rw [rdS_skip hn] at h
      exact rdS_le s r nm st ks st' h
/-- readers of structs that read no more than there is -/
def SubFew (S : Sub) : Prop := ∀ nm st ks st', S nm st = some (ks, st') → (st.n ≤ 400 → st'.n ≤ 400)
theorem nod_few {st st' : St} (h : nod st = some st') : st.n ≤ 400 → st'.n ≤ 400 := by
  intro hn
  unfold nod at h
  split at h
  · cases h
  · cases h
    show st.n + 1 ≤ 400
    omega
theorem one_few {S : Sub} (hS : SubFew S) {s : Tm.Wd} {N : Ex.Names} {h : Tm.Hd} {st st' : St} {d : Nd} (ho : oneH S s N h st = some (d, st')) : (st.n ≤ 400 → st'.n ≤ 400) := by
  unfold oneH at ho
  cases hn : nod st with
  | none => rw [hn] at ho; cases ho
  | some st1 =>
    have a2 := nod_few hn
    rw [hn] at ho
    simp only [Option.bind_some] at ho
    cases hk : h.k with
    | scalar w =>
      rw [hk] at ho
      simp only [] at ho
      cases ht : tak s (widW w : Nat) st1 with
      | none => rw [ht] at ho; cases ho
      | some p =>
        obtain ⟨u, st2⟩ := p
        have b2 := (tak_le ht).2
        rw [ht] at ho
        simp only [Option.map_some, Option.some.injEq, Prod.mk.injEq] at ho
        obtain ⟨rfl, rfl⟩ := ho
        intro h400; have := a2 h400; omega
    | bytes =>
      rw [hk] at ho
      simp only [] at ho
      cases hc : h.cnt.bind (Ex.ev N) with
      | none => rw [hc] at ho; cases ho
      | some k =>
        rw [hc] at ho
        simp only [Option.bind_some] at ho
        cases ht : tak s k st1 with
        | none => rw [ht] at ho; cases ho
        | some p =>
          obtain ⟨u, st2⟩ := p
          have b2 := (tak_le ht).2
          rw [ht] at ho
          simp only [Option.map_some, Option.some.injEq, Prod.mk.injEq] at ho
          obtain ⟨rfl, rfl⟩ := ho
          intro h400; have e1 := a2 h400; have e2 := b2; first | omega | (exact b2 e1) | (exact b2 (hkb e1))
    | struct t =>
      rw [hk] at ho
      simp only [] at ho
      cases ht : S t st1 with
      | none => rw [ht] at ho; cases ho
      | some p =>
        obtain ⟨ks, st2⟩ := p
        have b2 := hS _ _ _ _ ht
        rw [ht] at ho
        simp only [Option.map_some, Option.some.injEq, Prod.mk.injEq] at ho
        obtain ⟨rfl, rfl⟩ := ho
        intro h400; have e1 := a2 h400; have e2 := b2; first | omega | (exact b2 e1) | (exact b2 (hkb e1))
theorem rep_few {f : St → Option (Nd × St)} (hf : ∀ st st' d, f st = some (d, st') → (st.n ≤ 400 → st'.n ≤ 400)) : ∀ (k : Nat) (st st' : St) (ks : Nds), Ly.rep f k st = some (ks, st') → (st.n ≤ 400 → st'.n ≤ 400)
  | 0, st, st', ks, h => by
    cases h
    exact id
  | k + 1, st, st', ks, h => by
    have h2 : (f st).bind (fun p => (Ly.rep f k p.2).map fun q => (p.1.put q.1, q.2)) = some (ks, st') := h
    cases h3 : f st with
    | none => rw [h3] at h2; cases h2
    | some p =>
      obtain ⟨d, st1⟩ := p
      rw [h3] at h2
      simp only [Option.bind_some] at h2
      cases h4 : Ly.rep f k st1 with
      | none => rw [h4] at h2; cases h2
      | some q =>
        obtain ⟨r, st2⟩ := q
        rw [h4] at h2
        simp only [Option.map_some, Option.some.injEq, Prod.mk.injEq] at h2
        obtain ⟨rfl, rfl⟩ := h2
        have a2 := hf _ _ _ h3
        have b2 := rep_few hf k _ _ _ h4
        exact fun h400 => b2 (a2 h400)
theorem hd_few {S : Sub} (hS : SubFew S) {s : Tm.Wd} {N : Ex.Names} {h : Tm.Hd} {st st' : St} {d : Nd} (ho : hdR S s N h st = some (d, st')) : (st.n ≤ 400 → st'.n ≤ 400) := by
  unfold hdR at ho
  split at ho
  · unfold lstH at ho
    cases hn : nod st with
    | none => rw [hn] at ho; cases ho
    | some st1 =>
      have a2 := nod_few hn
      rw [hn] at ho
      simp only [Option.bind_some] at ho
      cases hc : h.cnt.bind (Ex.ev N) with
      | none => rw [hc] at ho; cases ho
      | some k =>
        rw [hc] at ho
        simp only [Option.bind_some] at ho
        split at ho
        · cases ho
        · cases hr : Ly.rep (oneH S s N h) k.toNat st1 with
          | none => rw [hr] at ho; cases ho
          | some p =>
            obtain ⟨ks, st2⟩ := p
            have b2 := rep_few (fun _ _ _ => one_few hS) _ _ _ _ hr
            rw [hr] at ho
            simp only [Option.map_some, Option.some.injEq, Prod.mk.injEq] at ho
            obtain ⟨rfl, rfl⟩ := ho
            intro h400; have e1 := a2 h400; have e2 := b2; first | omega | (exact b2 e1) | (exact b2 (hkb e1))
  · exact one_few hS ho
theorem its_few {S : Sub} (hS : SubFew S) (s : Tm.Wd) : ∀ (l : Tm.Its) (N N' : Ex.Names) (st st' : St) (ks : Nds), itsR S s l N st = some (ks, N', st') → (st.n ≤ 400 → st'.n ≤ 400)
  | .nil, N, N', st, st', ks, h => by
    cases h
    exact id
  | .cons h l, N, N', st, st', ks, ho => by
    cases h1 : hdR S s N h st with
    | none => rw [its_hd_bad h1] at ho; cases ho
    | some p =>
      obtain ⟨d, st1⟩ := p
      rw [its_hd h1] at ho
      cases h2 : itsR S s l (if Tm.single h then upd N h.name d.val else N) st1 with
      | none => rw [h2] at ho; cases ho
      | some q =>
        obtain ⟨r, N2, st2⟩ := q
        rw [h2] at ho
        simp only [Option.map_some, Option.some.injEq, Prod.mk.injEq] at ho
        obtain ⟨rfl, rfl, rfl⟩ := ho
        have a2 := hd_few hS h1
        have b2 := its_few hS s l _ _ _ _ _ h2
        exact fun h400 => b2 (a2 h400)
  | .when a c b l, N, N', st, st', ks, ho => by
    rw [its_when] at ho
    unfold whenR at ho
    cases hn : nod st with
    | none => rw [hn] at ho; cases ho
    | some st1 =>
      have a2 := nod_few hn
      rw [hn] at ho
      simp only [Option.bind_some] at ho
      cases hc : Ex.ev N c with
      | none => rw [hc] at ho; cases ho
      | some v =>
        rw [hc] at ho
        simp only [Option.bind_some] at ho
        cases hb : (if v = 0 then some (Nds.nil, N, st1) else itsR S s b N st1) with
        | none => rw [hb] at ho; cases ho
        | some p =>
          obtain ⟨kb, Nb, stb⟩ := p
          have hkb : (st1.n ≤ 400 → stb.n ≤ 400) := by
            split at hb
            · cases hb
              exact id
            · exact its_few hS s b _ _ _ _ _ hb
          rw [hb] at ho
          simp only [Option.map_some, Option.bind_some] at ho
          cases h2 : itsR S s l Nb stb with
          | none => rw [h2] at ho; cases ho
          | some q =>
            obtain ⟨r, N2, st2⟩ := q
            rw [h2] at ho
            simp only [Option.map_some, Option.some.injEq, Prod.mk.injEq] at ho
            obtain ⟨rfl, rfl, rfl⟩ := ho
            have b2 := its_few hS s l _ _ _ _ _ h2
            intro h400; have e1 := a2 h400; have e2 := b2; first | omega | (exact b2 e1) | (exact b2 (hkb e1))
theorem rdS_few (s : Tm.Wd) : ∀ l : List Tm.Ty, SubFew (rdS s l)
  | [], nm, st, ks, st', h => by cases h
  | t :: r, nm, st, ks, st', h => by
    by_cases hn : t.name = nm
    · subst hn
      rw [rdS_at] at h
      cases h1 : itsR (rdS s r) s t.items (fun _ => none) st with
      | none => rw [h1] at h; cases h
      | some p =>
        obtain ⟨k2, N2, st2⟩ := p
        rw [h1] at h
        simp only [Option.map_some, Option.some.injEq, Prod.mk.injEq] at h
        obtain ⟨rfl, rfl⟩ := h
        exact its_few (rdS_few s r) s _ _ _ _ _ _ h1
    · rw [rdS_skip hn] at h
      exact rdS_few s r nm st ks st' h
/-- what Read finds -/
theorem layRead_small {l : List Tm.Ty} {root s : Tm.Wd} {d : Nd} (h : layRead l root s = some d) : d.ok ∧ d.tot ≤ s.length + 3200 ∧ ∃ st, oneH (rdS s l.reverse) s (fun _ => none) (rootH root) ⟨0, 0⟩ = some (d, st) ∧ st.at_ = s.length := by
  unfold layRead at h
  cases h1 : oneH (rdS s l.reverse) s (fun _ => none) (rootH root) ⟨0, 0⟩ with
  | none => rw [h1] at h; cases h
  | some p =>
    obtain ⟨d2, st⟩ := p
    rw [h1] at h
    simp only [Option.bind_some] at h
    split at h
    · rename_i he
      cases h
      obtain ⟨a1, a2⟩ := one_le (rdS_le s l.reverse) h1
      have a3 := one_few (rdS_few s l.reverse) h1 (Nat.zero_le _)
      simp only [] at a2 a3 he
      exact ⟨a1, by omega, st, rfl, he⟩
    · cases h
end Ly
end Go.Proofs.YtlomecfhobehnaaGreatDoor
end
section
/- The law LayoutBack, walked. -/
namespace Go.Proofs.YtlomecfhobehnaaGreatDoor
open Go Go.RowKit
set_option linter.unusedVariables false
set_option linter.unusedSimpArgs false
open Rd
open Ly
set_option maxRecDepth 100000 in
set_option maxHeartbeats 4000000 in
theorem LayoutBack_in (t root s : List UInt8) (hr : root.length ≤ 200000000000000) (w : World) (hB : Base w) : Calls Tryz.prog 3 #[.string (bstr t), .string (bstr root), .string (bstr s)] w fun e w' => e = .returned (.bool true) ∧ Below w.heap.size w w' := by
  have HLO := Lib.hid (laidOut_any w hB)
  have HB := Lib.hid hB
  clear hB
  go_enter Tryz.func3, Tryz.ntmps3
  go_wp2_with fail
  refine HLO.out.mono ?_
  rintro e w1 ⟨rfl, hb1⟩
  have HRI := Lib.hid (right_any t w1 (HB.out.up hb1))
  have HB1 := Lib.hid hb1
  clear hb1 HLO
  go_wp2_with fail
  refine HRI.out.mono ?_
  unfold RightOut
  rintro e w2 ⟨hb2, ⟨a0, n0, c0, rfl⟩ | ⟨s2, tys, a, cap, vs, hs2, hm, hchk, rfl⟩⟩
  · have HB2 := Lib.hid (HB1.out.trans (hb2.mono HB1.out.size))
    clear hb2 HRI
    go_wp2_with fail
    go_ret
    exact ⟨rfl, HB2.out⟩
  · have HB2 := Lib.hid (HB1.out.trans (hb2.mono HB1.out.size))
    by_cases h6 : 600 < s.length
    · have q1 : decide ((600 : Int) < (s.length : Int)) = true := decide_eq_true (by omega)
      have q2 : decide (600 < s.length) = true := decide_eq_true h6
      clear hb2 HRI hm hchk
      go_wp2_with fail
      go_ret
      exact ⟨rfl, HB2.out⟩
    · have q1 : decide ((600 : Int) < (s.length : Int)) = false := decide_eq_false (by omega)
      have q2 : decide (600 < s.length) = false := decide_eq_false h6
      obtain ⟨f1, f2, _, f4⟩ := hm.fine hs2
      have hF : ∀ t ∈ tys, Tm.FineT t ∧ Tm.Its.sz t.items ≤ 100000 := fun t ht => ⟨(f2 t ht).1, (f2 t ht).2.2⟩
      have hRD := LRead_any tys root s w2 w1.heap.size cap w1.heap.size a vs hm.own hm.enc hF (by omega) (chk_chain hchk) hr (by omega)
      have HM := Lib.hid hm; have HF := Lib.hid hF; have HCH := Lib.hid (chk_chain hchk); have HF4 := Lib.hid f4; have HF1 := Lib.hid f1; have HS6 := Lib.hid (show s.length ≤ 600 by omega)
      obtain ⟨n, hn⟩ : ∃ n, n = tys.length := ⟨_, rfl⟩
      rw [← hn] at hRD ⊢
      have HN := Lib.hid hn
      obtain ⟨o, ho⟩ : ∃ o, o = layRead tys root s := ⟨_, rfl⟩
      rw [← ho] at hRD
      have HO := Lib.hid ho
      unfold ReadOut at hRD
      have HRD := Lib.hid hRD
      clear hb2 HRI hm hchk h6 f1 f2 f4 hF hRD hn ho
      go_wp2_with fail
      refine HRD.out.mono ?_
      rintro e w3 ⟨hb3, hv⟩
      have HB3 := Lib.hid hb3
      cases o with
      | none =>
        obtain ⟨ty, v, rfl⟩ := hv
        have hbx : RowAt (w3.alloc (.cells #[.string { data := #[] }, .int .i64 0, .int .i64 0, .int .i64 0, .int .i64 0, .string { data := #[] }, .slice none 0 0] 28)) w3.heap.size 0 28 [.string { data := #[] }, .int .i64 0, .int .i64 0, .int .i64 0, .int .i64 0, .string { data := #[] }, .slice none 0 0] := RowAt.new w3 28 #[.string { data := #[] }, .int .i64 0, .int .i64 0, .int .i64 0, .int .i64 0, .string { data := #[] }, .slice none 0 0]
        have y0 := hbx.cell0 0 (by simp); have z0 := hbx.frozen0 0 (by simp)
        have y1 := hbx.cell0 1 (by simp); have z1 := hbx.frozen0 1 (by simp)
        have y2 := hbx.cell0 2 (by simp); have z2 := hbx.frozen0 2 (by simp)
        have y3 := hbx.cell0 3 (by simp); have z3 := hbx.frozen0 3 (by simp)
        have y4 := hbx.cell0 4 (by simp); have z4 := hbx.frozen0 4 (by simp)
        have y5 := hbx.cell0 5 (by simp); have z5 := hbx.frozen0 5 (by simp)
        have y6 := hbx.cell0 6 (by simp); have z6 := hbx.frozen0 6 (by simp)
        simp only [List.getElem_cons_zero, List.getElem_cons_succ] at y0 y1 y2 y3 y4 y5 y6
        have HBE := Lib.hid ((HB2.out.trans (hb3.mono HB2.out.size)).alloc (Nat.le_trans HB2.out.size hb3.size) (.cells #[.string { data := #[] }, .int .i64 0, .int .i64 0, .int .i64 0, .int .i64 0, .string { data := #[] }, .slice none 0 0] 28))
        clear hb3 hbx HRD
        go_wp2_with fail
        go_ret
        exact ⟨rfl, HBE.out⟩
      | some d =>
        obtain ⟨v, bl, rfl, hnd, hnodup⟩ := hv
        obtain ⟨g0, c0, hv⟩ := hnd.cells
        subst hv
        obtain ⟨d1, d2, st, d3, d4⟩ := layRead_small HO.out.symm
        have hw := lay_back (fun t ht => HF1.out t (List.mem_reverse.1 ht)) d3 d4
        have hbx : RowAt (w3.alloc (.cells #[.string { data := #[] }, .int .i64 0, .int .i64 0, .int .i64 0, .int .i64 0, .string { data := #[] }, .slice none 0 0] 28)) w3.heap.size 0 28 [.string { data := #[] }, .int .i64 0, .int .i64 0, .int .i64 0, .int .i64 0, .string { data := #[] }, .slice none 0 0] := RowAt.new w3 28 #[.string { data := #[] }, .int .i64 0, .int .i64 0, .int .i64 0, .int .i64 0, .string { data := #[] }, .slice none 0 0]
        have y0 := hbx.cell0 0 (by simp); have z0 := hbx.frozen0 0 (by simp)
        have y1 := hbx.cell0 1 (by simp); have z1 := hbx.frozen0 1 (by simp)
        have y2 := hbx.cell0 2 (by simp); have z2 := hbx.frozen0 2 (by simp)
        have y3 := hbx.cell0 3 (by simp); have z3 := hbx.frozen0 3 (by simp)
        have y4 := hbx.cell0 4 (by simp); have z4 := hbx.frozen0 4 (by simp)
        have y5 := hbx.cell0 5 (by simp); have z5 := hbx.frozen0 5 (by simp)
        have y6 := hbx.cell0 6 (by simp); have z6 := hbx.frozen0 6 (by simp)
        simp only [List.getElem_cons_zero, List.getElem_cons_succ] at y0 y1 y2 y3 y4 y5 y6
        obtain ⟨V, hV⟩ : ∃ V, V = w3.alloc (.cells #[.string (bstr d.name), .int .i64 (d.kind : Nat), .int .i64 (d.at_ : Nat), .int .i64 (d.size : Nat), .int .i64 d.val, .string (bstr d.text), .slice g0 d.kids.len c0] 28) := ⟨_, rfl⟩
        have hbV : Below w3.heap.size w3 V := by rw [hV]; exact (Below.refl _ _).alloc (Nat.le_refl _) _
        have hrV : RowAt V w3.heap.size 0 28 [.string (bstr d.name), .int .i64 (d.kind : Nat), .int .i64 (d.at_ : Nat), .int .i64 (d.size : Nat), .int .i64 d.val, .string (bstr d.text), .slice g0 d.kids.len c0] := by rw [hV]; exact RowAt.new w3 _ _
        have hndV := hnd.keep (w' := V) (fun b hb => hbV.block b (hnd.mem b hb).2)
        have hmV := (HM.out.up hb3).up hbV
        have hWR := LWrite_any tys root s d V w1.heap.size cap w1.heap.size _ a vs _ bl hmV.own hmV.enc HF.out (by have := HF4.out; omega) HCH.out hr hndV d1 (by have := HS6.out; omega) hw
        rw [← HN.out] at hWR
        have HWC := Lib.hid hWR
        have r0 := hrV.cell0 0 (by simp); have r1 := hrV.cell0 1 (by simp); have r2 := hrV.cell0 2 (by simp); have r3 := hrV.cell0 3 (by simp); have r4 := hrV.cell0 4 (by simp); have r5 := hrV.cell0 5 (by simp); have r6 := hrV.cell0 6 (by simp)
        simp only [List.getElem_cons_zero, List.getElem_cons_succ] at r0 r1 r2 r3 r4 r5 r6
        rw [hV] at r0 r1 r2 r3 r4 r5 r6
        have HBV := Lib.hid (show Below w.heap.size w V from (HB2.out.trans (hb3.mono HB2.out.size)).trans (hbV.mono (Nat.le_trans HB2.out.size hb3.size)))
        have HV := Lib.hid hV
        clear hb3 hnd hnodup hbx hV hbV hrV hndV hmV hWR hw d1 d2 d3 d4 HRD
        go_wp2_with fail
        rw [← HV.out]
        refine HWC.out.mono ?_
        rintro e w5 ⟨hb5, rfl⟩
        have HB5 := Lib.hid (HBV.out.trans (hb5.mono HBV.out.size))
        clear hb5
        go_wp2_with fail
        go_ret
        exact ⟨by simp, HB5.out⟩
theorem LayoutBack_walk (a0 a1 a2 : ByteArray) (h0 : a0.size ≤ 140737488351232) (h1 : a1.size ≤ 140737488351232) (h2 : a2.size ≤ 140737488351232) (w : World) (hB : Base w) : Calls Tryz.prog 3 #[.string a0, .string a1, .string a2] w fun e w' => e = .returned (.bool true) ∧ Below w.heap.size w w' := by
  obtain ⟨l, rfl⟩ : ∃ l, a0 = bstr l := ⟨_, eq_bstr a0⟩
  obtain ⟨m, rfl⟩ : ∃ m, a1 = bstr m := ⟨_, eq_bstr a1⟩
  obtain ⟨k, rfl⟩ : ∃ k, a2 = bstr k := ⟨_, eq_bstr a2⟩
  rw [bstr_size] at h1
  exact LayoutBack_in l m k (by omega) w hB
end Go.Proofs.YtlomecfhobehnaaGreatDoor
end
