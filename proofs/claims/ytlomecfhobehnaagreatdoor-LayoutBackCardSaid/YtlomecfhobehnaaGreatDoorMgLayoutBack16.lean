/- Plain Lean: numbers as bytes, in either order. No program in sight. -/
import Derived.Test.YtlomecfhobehnaaGreatDoorMgLayoutBack12
import Derived.Test.YtlomecfhobehnaaGreatDoorMgLayoutBack0
section
/- Whether templates fit together, in plain words; with other names they do as well. -/
namespace Go.Proofs.YtlomecfhobehnaaGreatDoor
set_option linter.unusedVariables false
set_option linter.unusedSimpArgs false
namespace Tm
open Ex
def namesX : X → List Wd
  | .num _ _ => []
  | .name _ s => [s]
  | .bin _ _ l r => namesX l ++ namesX r
def namesO : Option X → List Wd
  | none => []
  | some x => namesX x
/-- what rules see of an item -/
structure Sk where
  wh : Bool
  name : Wd
  rule : Rl
  many : Bool
  w4 : Bool
def w4K : Knd → Bool
  | .scalar w => decide (((kindOf w).getD (0, 0, false)).1 = 4) && !((kindOf w).getD (0, 0, false)).2.2
  | _ => false
def manyH (h : Hd) : Bool := match h.k, h.cnt with
  | .bytes, _ => false
  | _, some _ => true
  | _, none => false
def skH (h : Hd) : Sk := ⟨false, h.name, h.rule, manyH h, w4K h.k⟩
def skW : Sk := ⟨true, [], .none, false, false⟩
def Its.row : Its → List Sk
  | .nil => []
  | .cons h l => skH h :: l.row
  | .when _ _ _ l => skW :: l.row
def called (w : Wd) (s : Sk) : Bool := !s.wh && s.name == w
def findI (R : List Sk) (w : Wd) : Int := match R.findIdx? (called w) with
  | some k => (k : Int)
  | none => -1
def isCheck : Rl → Bool
  | .check _ _ => true
  | _ => false
def isCount : Rl → Bool
  | .count _ => true
  | _ => false
def isNone : Rl → Bool
  | .none => true
  | _ => false
def firstW : Rl → Wd
  | .none => []
  | .size f => f
  | .count f => f
  | .check f _ => f
def lastW : Rl → Wd
  | .check _ l => l
  | _ => []
def lastI (R : List Sk) (r : Rl) : Int := if isCheck r then findI R (lastW r) else findI R (firstW r)
def manyAt (R : List Sk) (k : Int) : Bool := match R[k.toNat]? with
  | some s => s.many
  | none => false
def rule1 (R : List Sk) (i : Nat) (s : Sk) : Option Nat :=
  if isNone s.rule then none else
  if findI R (firstW s.rule) < 0 ∨ lastI R s.rule < 0 then some 7 else
  if (isCount s.rule && !manyAt R (findI R (firstW s.rule))) || (isCheck s.rule && !s.w4) then some 13 else
  if lastI R s.rule < findI R (firstW s.rule) then some 10 else
  if findI R (firstW s.rule) ≤ (i : Int) ∧ (i : Int) ≤ lastI R s.rule then some 6 else none
def rulesA (R : List Sk) : Nat → List Sk → Option Nat
  | _, [] => none
  | i, s :: l => match rule1 R i s with
    | some e => some e
    | none => rulesA R (i + 1) l
def overB (R : List Sk) (i k : Nat) : Bool := match R[i]? with
  | some s => isCheck s.rule && decide (findI R (firstW s.rule) ≤ (k : Int)) && decide ((k : Int) ≤ findI R (lastW s.rule))
  | none => false
def checkAt (R : List Sk) (k : Nat) : Bool := match R[k]? with
  | some s => isCheck s.rule
  | none => false
def roundB (R : List Sk) : Nat → Nat → Nat → Bool
  | 0, _, _ => false
  | n + 1, i, to => (List.range R.length).any fun k => overB R i k && (k == to || (checkAt R k && roundB R n k to))
def cyc (R : List Sk) : Nat → List Sk → Option Nat
  | _, [] => none
  | i, s :: l => if isCheck s.rule && roundB R R.length i i then some 11 else cyc R (i + 1) l
def rulesE (R : List Sk) : Option Nat := match rulesA R 0 R with
  | some e => some e
  | none => cyc R 0 R
def asks (seen ns : List Wd) : Bool := ns.all fun n => seen.contains n
def lacks (ts : List Wd) : Knd → Bool
  | .struct t => !ts.contains t
  | _ => false
def single (h : Hd) : Bool := match h.k, h.cnt with
  | .scalar _, none => true
  | _, _ => false
/-- an error, or the names and what is seen -/
inductive Res where
  | bad (e : Nat)
  | ok (ns seen : List Wd)
def chkL (ts : List Wd) : Its → List Wd → List Wd → Res
  | .nil, ns, seen => .ok ns seen
  | .cons h l, ns, seen => if ns.contains h.name then .bad 9 else if lacks ts h.k then .bad 7 else if asks seen (namesO h.cnt) then chkL ts l (h.name :: ns) (if single h then seen ++ [h.name] else seen) else .bad 5
  | .when _ c b l, ns, seen => if asks seen (namesX c) then
      match chkL ts b ns seen with
      | .bad e => .bad e
      | .ok ns' _ => match rulesE b.row with
        | some e => .bad e
        | none => chkL ts l ns' seen
    else .bad 5
def chk : List Wd → List Ty → Option Nat
  | _, [] => none
  | ts, t :: r => if ts.contains t.name then some 9 else match chkL ts t.items [] [] with
    | .bad e => some e
    | .ok _ _ => match rulesE t.items.row with
      | some e => some e
      | none => chk (t.name :: ts) r
/-! ## other names -/
variable {f : Wd → Wd}
/-- unlike names stay unlike -/
def InjN (f : Wd → Wd) : Prop := ∀ u w, nameB u = true → nameB w = true → f u = f w → u = w
theorem Ren.inj (hf : Ren f) (hi : InjN f) {u w : Wd} (hu : nameB u = true) : f u = f w ↔ u = w := by
  constructor
  · intro h
    by_cases hw : nameB w = true
    · exact hi u w hu hw h
    · rw [hf.else_ w (by simpa using hw)] at h
      rw [← h] at hw
      exact absurd (hf.name u hu) hw
  · rintro rfl; rfl
def Sk.ren (f : Wd → Wd) (s : Sk) : Sk := ⟨s.wh, f s.name, renR f s.rule, s.many, s.w4⟩
def SkOk (s : Sk) : Prop := s.wh = true ∨ nameB s.name = true
theorem called_ren (hf : Ren f) (hi : InjN f) {s : Sk} (hs : SkOk s) (w : Wd) : called (f w) (s.ren f) = called w s := by
  unfold called Sk.ren
  rcases hs with h | h
  · simp only [h, Bool.not_true, Bool.false_and]
  · congr 1
    rw [Bool.eq_iff_iff, beq_iff_eq, beq_iff_eq]
    exact hf.inj hi h
theorem findI_ren (hf : Ren f) (hi : InjN f) {R : List Sk} (hR : ∀ s ∈ R, SkOk s) (w : Wd) : findI (R.map (Sk.ren f)) (f w) = findI R w := by
  unfold findI
  have : (R.map (Sk.ren f)).findIdx? (called (f w)) = R.findIdx? (called w) := by
    induction R with
    | nil => rfl
    | cons s R ih =>
      rw [List.map_cons, List.findIdx?_cons, List.findIdx?_cons, called_ren hf hi (hR s (by simp)), ih (fun t ht => hR t (by simp [ht]))]
  rw [this]
theorem isCheck_ren (r : Rl) : isCheck (renR f r) = isCheck r := by cases r <;> rfl
theorem isCount_ren (r : Rl) : isCount (renR f r) = isCount r := by cases r <;> rfl
theorem firstW_ren (hf : Ren f) (r : Rl) : firstW (renR f r) = f (firstW r) := by
  cases r with
  | none => exact (hf.else_ [] (by decide)).symm
  | _ => rfl
theorem lastW_ren (hf : Ren f) (r : Rl) : lastW (renR f r) = f (lastW r) := by
  cases r with
  | check => rfl
  | _ => exact (hf.else_ [] (by decide)).symm
theorem isNone_ren (r : Rl) : isNone (renR f r) = isNone r := by cases r <;> rfl
theorem lastI_ren (hf : Ren f) (hi : InjN f) {R : List Sk} (hR : ∀ s ∈ R, SkOk s) (r : Rl) : lastI (R.map (Sk.ren f)) (renR f r) = lastI R r := by
  unfold lastI
  rw [isCheck_ren, lastW_ren hf, firstW_ren hf, findI_ren hf hi hR, findI_ren hf hi hR]
theorem manyAt_ren (R : List Sk) (k : Int) : manyAt (R.map (Sk.ren f)) k = manyAt R k := by
  unfold manyAt
  rw [List.getElem?_map]
  cases R[k.toNat]? <;> rfl
theorem rule1_ren (hf : Ren f) (hi : InjN f) {R : List Sk} (hR : ∀ s ∈ R, SkOk s) (i : Nat) (s : Sk) : rule1 (R.map (Sk.ren f)) i (s.ren f) = rule1 R i s := by
  unfold rule1
  have e1 : (s.ren f).rule = renR f s.rule := rfl
  have e2 : (s.ren f).w4 = s.w4 := rfl
  rw [e1, e2, lastI_ren hf hi hR, firstW_ren hf, findI_ren hf hi hR, isCheck_ren, isCount_ren, manyAt_ren, isNone_ren]
theorem rulesA_ren (hf : Ren f) (hi : InjN f) {R : List Sk} (hR : ∀ s ∈ R, SkOk s) : ∀ (l : List Sk) (i : Nat), rulesA (R.map (Sk.ren f)) i (l.map (Sk.ren f)) = rulesA R i l
  | [], i => rfl
  | s :: l, i => by
    rw [List.map_cons]
    unfold rulesA
    rw [rule1_ren hf hi hR, rulesA_ren hf hi hR l]
theorem overB_ren (hf : Ren f) (hi : InjN f) {R : List Sk} (hR : ∀ s ∈ R, SkOk s) (i k : Nat) : overB (R.map (Sk.ren f)) i k = overB R i k := by
  unfold overB
  rw [List.getElem?_map]
  cases R[i]? with
  | none => rfl
  | some s =>
    have e1 : (s.ren f).rule = renR f s.rule := rfl
    simp only [Option.map_some, e1]
    rw [isCheck_ren, lastW_ren hf, firstW_ren hf, findI_ren hf hi hR, findI_ren hf hi hR]
theorem checkAt_ren (R : List Sk) (k : Nat) : checkAt (R.map (Sk.ren f)) k = checkAt R k := by
  unfold checkAt
  rw [List.getElem?_map]
  cases R[k]? with
  | none => rfl
  | some s => exact isCheck_ren s.rule
theorem roundB_ren (hf : Ren f) (hi : InjN f) {R : List Sk} (hR : ∀ s ∈ R, SkOk s) : ∀ n i to, roundB (R.map (Sk.ren f)) n i to = roundB R n i to
  | 0, i, to => rfl
  | n + 1, i, to => by
    unfold roundB
    rw [List.length_map]
    congr 1
    funext k
    rw [overB_ren hf hi hR, checkAt_ren, roundB_ren hf hi hR n]
theorem cyc_ren (hf : Ren f) (hi : InjN f) {R : List Sk} (hR : ∀ s ∈ R, SkOk s) : ∀ (l : List Sk) (i : Nat), cyc (R.map (Sk.ren f)) i (l.map (Sk.ren f)) = cyc R i l
  | [], i => rfl
  | s :: l, i => by
    rw [List.map_cons]
    unfold cyc
    have e1 : (s.ren f).rule = renR f s.rule := rfl
    rw [e1, isCheck_ren, List.length_map, roundB_ren hf hi hR, cyc_ren hf hi hR l]
theorem rulesE_ren (hf : Ren f) (hi : InjN f) {R : List Sk} (hR : ∀ s ∈ R, SkOk s) : rulesE (R.map (Sk.ren f)) = rulesE R := by
  unfold rulesE
  rw [rulesA_ren hf hi hR, cyc_ren hf hi hR]
theorem mem_ren (hf : Ren f) (hi : InjN f) {l : List Wd} (hl : ∀ w ∈ l, nameB w = true) (n : Wd) : (l.map f).contains (f n) = l.contains n := by
  rw [Bool.eq_iff_iff, List.contains_iff_mem, List.contains_iff_mem, List.mem_map]
  constructor
  · rintro ⟨a, h1, h2⟩
    rw [← (hf.inj hi (hl a h1)).1 h2]; exact h1
  · intro h; exact ⟨n, h, rfl⟩
theorem asks_ren (hf : Ren f) (hi : InjN f) {seen : List Wd} (hl : ∀ w ∈ seen, nameB w = true) (ns : List Wd) : asks (seen.map f) (ns.map f) = asks seen ns := by
  unfold asks
  rw [List.all_map]
  congr 1
  funext n
  exact mem_ren hf hi hl n
theorem namesX_ren : ∀ {x y : X}, renX f x y → namesX y = (namesX x).map f
  | .num _ _, .num _ _, _ => rfl
  | .name _ s, .name _ t, h => by rw [show t = f s from h]; rfl
  | .bin _ _ l r, .bin _ _ l' r', h => by
    obtain ⟨_, h1, h2⟩ := h
    show namesX l' ++ namesX r' = _
    rw [namesX_ren h1, namesX_ren h2]
    show _ = (namesX l ++ namesX r).map f
    rw [List.map_append]
  | .num _ _, .name _ _, h => h.elim
  | .num _ _, .bin _ _ _ _, h => h.elim
  | .name _ _, .num _ _, h => h.elim
  | .name _ _, .bin _ _ _ _, h => h.elim
  | .bin _ _ _ _, .num _ _, h => h.elim
  | .bin _ _ _ _, .name _ _, h => h.elim
theorem namesO_ren {x y : Option X} (h : renO f x y) : namesO y = (namesO x).map f := by
  cases x with
  | none =>
    cases y with
    | none => rfl
    | some b => exact h.elim
  | some a =>
    cases y with
    | none => exact h.elim
    | some b => exact namesX_ren h
theorem renO_some {x y : Option X} (h : renO f x y) : y.isSome = x.isSome := by
  cases x <;> cases y <;> first | rfl | exact h.elim
theorem manyH_eq (h : Hd) : manyH h = (match h.k with | .bytes => false | _ => h.cnt.isSome) := by
  unfold manyH
  cases h.k <;> cases h.cnt <;> rfl
theorem single_eq (h : Hd) : single h = (match h.k with | .scalar _ => !h.cnt.isSome | _ => false) := by
  unfold single
  cases h.k <;> cases h.cnt <;> rfl
theorem skH_ren {a b : Hd} (h : RenH f a b) : skH b = (skH a).ren f := by
  obtain ⟨h1, h2, h3, h4⟩ := h
  unfold skH Sk.ren
  simp only []
  rw [manyH_eq, manyH_eq, h1, h2, h4, renO_some h3]
  cases a.k <;> rfl
theorem row_ren (hf : Ren f) {l m : Its} (h : RenI f l m) : m.row = l.row.map (Sk.ren f) := by
  induction h with
  | nil => rfl
  | cons hh _ ih =>
    show skH _ :: _ = _
    rw [skH_ren hh, ih]; rfl
  | when _ _ _ _ ih =>
    show skW :: _ = _
    rw [ih]
    show _ = skW.ren f :: _
    congr 1
    unfold Sk.ren skW
    simp only [renR]
    rw [hf.else_ [] (by decide)]
theorem row_ok : ∀ {l : Its}, FineI l → ∀ s ∈ l.row, SkOk s
  | .nil, _, s, hs => by cases hs
  | .cons h l, hf, s, hs => by
    rcases List.mem_cons.1 hs with rfl | hs
    · exact .inr hf.1.2.1.2
    · exact row_ok hf.2 s hs
  | .when _ _ _ l, hf, s, hs => by
    rcases List.mem_cons.1 hs with rfl | hs
    · exact .inl rfl
    · exact row_ok hf.2.2 s hs
theorem lacks_ren (hf : Ren f) (hi : InjN f) {ts : List Wd} (hl : ∀ w ∈ ts, nameB w = true) (k : Knd) : lacks (ts.map f) (renK f k) = lacks ts k := by
  cases k with
  | struct t => show (!_) = (!_); rw [mem_ren hf hi hl]
  | _ => rfl
def Res.ren (f : Wd → Wd) : Res → Res
  | .bad e => .bad e
  | .ok ns seen => .ok (ns.map f) (seen.map f)
/-- what comes out are names -/
theorem chkL_names {ts : List Wd} : ∀ {l : Its} {ns seen ns' seen' : List Wd}, FineI l → (∀ w ∈ ns, nameB w = true) → (∀ w ∈ seen, nameB w = true) → chkL ts l ns seen = .ok ns' seen' → (∀ w ∈ ns', nameB w = true) ∧ (∀ w ∈ seen', nameB w = true)
  | .nil, ns, seen, ns', seen', _, h1, h2, h => by
    unfold chkL at h
    cases h
    exact ⟨h1, h2⟩
  | .cons a l, ns, seen, ns', seen', hf, h1, h2, h => by
    unfold chkL at h
    split at h
    · cases h
    · split at h
      · cases h
      · split at h
        · refine chkL_names hf.2 ?_ ?_ h
          · intro w hw
            rcases List.mem_cons.1 hw with rfl | hw
            · exact hf.1.2.1.2
            · exact h1 w hw
          · intro w hw
            split at hw
            · rcases List.mem_append.1 hw with hw | hw
              · exact h2 w hw
              · rw [List.mem_singleton] at hw; rw [hw]; exact hf.1.2.1.2
            · exact h2 w hw
        · cases h
  | .when _ c b l, ns, seen, ns', seen', hf, h1, h2, h => by
    unfold chkL at h
    split at h
    · cases hb : chkL ts b ns seen with
      | bad e => rw [hb] at h; cases h
      | ok n2 s2 =>
        rw [hb] at h
        simp only [] at h
        have hn2 := (chkL_names hf.2.1 h1 h2 hb).1
        split at h
        · cases h
        · exact chkL_names hf.2.2 hn2 h2 h
    · cases h
theorem chkL_ren (hf : Ren f) (hi : InjN f) {ts : List Wd} (hts : ∀ w ∈ ts, nameB w = true) {l m : Its} (h : RenI f l m) : FineI l → ∀ ns seen : List Wd, (∀ w ∈ ns, nameB w = true) → (∀ w ∈ seen, nameB w = true) → chkL (ts.map f) m (ns.map f) (seen.map f) = (chkL ts l ns seen).ren f := by
  induction h with
  | nil => intro _ ns seen _ _; rfl
  | @cons a b l m hh _ ih =>
    intro hF ns seen h1 h2
    obtain ⟨g1, g2, g3, g4⟩ := hh
    unfold chkL
    rw [g1, g2, mem_ren hf hi h1, lacks_ren hf hi hts, namesO_ren g3, asks_ren hf hi h2]
    split
    · rfl
    · split
      · rfl
      · split
        · have e1 : single b = single a := by rw [single_eq, single_eq, g1, renO_some g3]; cases a.k <;> rfl
          have e2 : (if single b then seen.map f ++ [f a.name] else seen.map f) = (if single a then seen ++ [a.name] else seen).map f := by
            rw [e1]; split <;> simp
          rw [e2]
          refine ih hF.2 (a.name :: ns) _ ?_ ?_
          · intro w hw
            rcases List.mem_cons.1 hw with rfl | hw
            · exact hF.1.2.1.2
            · exact h1 w hw
          · intro w hw
            split at hw
            · rcases List.mem_append.1 hw with hw | hw
              · exact h2 w hw
              · rw [List.mem_singleton] at hw; rw [hw]; exact hF.1.2.1.2
            · exact h2 w hw
        · rfl
  | @when a a' c c' b b' l m hx hb hl ih1 ih2 =>
    intro hF ns seen h1 h2
    unfold chkL
    rw [namesX_ren hx, asks_ren hf hi h2, ih1 hF.2.1 ns seen h1 h2, row_ren hf hb, rulesE_ren hf hi (row_ok hF.2.1)]
    split
    · cases hbr : chkL ts b ns seen with
      | bad e => rfl
      | ok n2 s2 =>
        simp only [Res.ren]
        split
        · rfl
        · exact ih2 hF.2.2 n2 seen (chkL_names hF.2.1 h1 h2 hbr).1 h2
    · rfl
theorem chk_ren (hf : Ren f) (hi : InjN f) {l m : List Ty} (h : RenTs f l m) : (∀ t ∈ l, FineT t) → ∀ ts : List Wd, (∀ w ∈ ts, nameB w = true) → chk (ts.map f) m = chk ts l := by
  induction h with
  | nil => intro _ ts _; rfl
  | @cons a b l m hh _ ih =>
    intro hF ts hts
    obtain ⟨g1, g2⟩ := hh
    have hFa := hF a (by simp)
    unfold chk
    have hc := chkL_ren hf hi hts g2 hFa.2 [] [] (fun w hw => by cases hw) (fun w hw => by cases hw)
    simp only [List.map_nil] at hc
    rw [g1, mem_ren hf hi hts, hc, row_ren hf g2, rulesE_ren hf hi (row_ok hFa.2)]
    split
    · rfl
    · cases chkL ts a.items [] [] with
      | bad e => rfl
      | ok n2 s2 =>
        simp only [Res.ren]
        split
        · rfl
        · refine ih (fun t ht => hF t (by simp [ht])) (a.name :: ts) ?_
          intro w hw
          rcases List.mem_cons.1 hw with rfl | hw
          · exact hFa.1.2
          · exact hts w hw
/-! ## the same at other places -/
theorem renX_of_same {x y : X} (h : Same x y) : renX id x y := by
  induction h with
  | num => exact rfl
  | name => exact rfl
  | bin a b op _ _ ih1 ih2 => exact ⟨rfl, ih1, ih2⟩
theorem renK_id (k : Knd) : renK id k = k := by cases k <;> rfl
theorem renR_id (r : Rl) : renR id r = r := by cases r <;> rfl
theorem renI_of_same {l m : Its} (h : SameI l m) : RenI id l m := by
  induction h with
  | nil => exact .nil
  | cons hh _ ih =>
    refine .cons ⟨by rw [renK_id]; exact hh.1.symm, hh.2.1.symm, ?_, by rw [renR_id]; exact hh.2.2.2.symm⟩ ih
    have := hh.2.2.1
    revert this
    cases Hd.cnt _ <;> cases Hd.cnt _ <;> intro h
    · trivial
    · exact h.elim
    · exact h.elim
    · exact renX_of_same h
  | when h1 _ _ ih1 ih2 => exact .when (renX_of_same h1) ih1 ih2
theorem renTs_of_same {l m : List Ty} (h : SameTs l m) : RenTs id l m := by
  induction h with
  | nil => exact .nil
  | cons hh _ ih => exact .cons ⟨hh.1.symm, renI_of_same hh.2⟩ ih
theorem chk_same {l m : List Ty} (h : SameTs l m) (hF : ∀ t ∈ l, FineT t) : chk [] m = chk [] l := chk_ren ren_id (fun u w _ _ h => h) (renTs_of_same h) hF [] (fun w hw => by cases hw)
/-! ## what fits is read -/
def Fit : Nat → Nat → Its → Prop
  | _, _, .nil => True
  | d, n, .cons _ l => n < 16 ∧ Fit d (n + 1) l
  | d, n, .when _ _ b l => n < 16 ∧ d + 1 ≤ 8 ∧ Fit (d + 1) 0 b ∧ Fit d (n + 1) l
theorem HdP.make {E : Nat} {h : Hd} (hf : FineH h) {S R : List Tok} (hS : S.map Prod.fst = ptH h) : ∃ h', SameH h h' ∧ HdP E (S ++ R) h' R := by
  obtain ⟨t, S1, rfl, ht, hS1⟩ := map1 hS
  obtain ⟨n, S2, rfl, hn, hS2⟩ := map1 hS1
  obtain ⟨c', s', h1, h2, h3⟩ := tail_back (E := E) hf (R := R) hS2
  have hk : KndP t h.k := by
    obtain ⟨at_, k, name, cnt, rule⟩ := h
    simp only [] at ht ⊢
    cases k with
    | scalar w => rw [show w = t.1 from ht.symm]; exact .scalar (by rw [ht]; exact hf.1)
    | bytes => exact .bytes ht
    | struct w => rw [show w = t.1 from ht.symm]; exact .struct (by rw [ht]; exact hf.1.2)
  have hnm : nameB n.1 = true := by rw [hn]; exact hf.2.1.2
  exact ⟨⟨t.2, h.k, n.1, c', h.rule⟩, ⟨rfl, hn.symm, h1, rfl⟩, .mk hk hnm h2 h3⟩
theorem Blk.make {E : Nat} : ∀ {l : Its} {d n : Nat}, Fit d n l → FineI l → ∀ S R : List Tok, S.map Prod.fst = ptI l ++ [[125]] → ∃ l', SameI l l' ∧ Blk E d n (S ++ R) l' R
  | .nil, d, n, _, _, S, R, hS => by
    obtain ⟨t, S1, rfl, ht, hS1⟩ := map1 hS
    obtain rfl := List.map_eq_nil_iff.1 hS1
    exact ⟨.nil, .nil, .fin ht⟩
  | .cons a l, d, n, h, hf, S, R, hS => by
    rw [show ptI (.cons a l) = ptH a ++ ptI l from rfl, List.append_assoc] at hS
    obtain ⟨U, V, rfl, hU, hV⟩ := mapa hS
    obtain ⟨l', g1, g2⟩ := Blk.make (E := E) h.2 hf.2 V R hV
    obtain ⟨a', g3, g4⟩ := HdP.make (E := E) hf.1 (R := V ++ R) hU
    exact ⟨.cons a' l', .cons g3 g1, by rw [List.append_assoc]; exact .item h.1 g4 g2⟩
  | .when a c body l, d, n, h, hf, S, R, hS => by
    rw [show ptI (.when a c body l) = wWhen :: (ptX c ++ [123] :: (ptI body ++ [125] :: ptI l)) from rfl] at hS
    obtain ⟨u, S1, rfl, hu, hS1⟩ := map1 (a := wWhen) (l := ptX c ++ ([123] :: (ptI body ++ [125] :: (ptI l ++ [[125]])))) (by rw [hS]; simp)
    obtain ⟨P, Q, rfl, hP, hQ⟩ := mapa hS1
    obtain ⟨o, Q1, rfl, ho, hQ1⟩ := map1 hQ
    obtain ⟨B, C, rfl, hB, hC⟩ := mapa (a := ptI body ++ [[125]]) (b := ptI l ++ [[125]]) (by rw [hQ1]; simp)
    obtain ⟨l', g1, g2⟩ := Blk.make (E := E) h.2.2.2 hf.2.2 C R hC
    obtain ⟨b', g3, g4⟩ := Blk.make (E := E) h.2.2.1 hf.2.1 B (C ++ R) hB
    obtain ⟨c', g5, g6⟩ := ParT.back (E := E) hf.1 hP (R := o :: (B ++ (C ++ R))) (stop_mark o _ (by rw [ho]; decide))
    refine ⟨.when u.2 c' b' l', .when g5 g3 g1, ?_⟩
    have e : (u :: (P ++ o :: (B ++ C))) ++ R = u :: (P ++ o :: (B ++ (C ++ R))) := by simp
    rw [e]
    exact .when h.1 hu g6 ho h.2.1 g4 g2
theorem Tys.make {E : Nat} : ∀ {l : List Ty} {n : Nat}, n + l.length ≤ 8 → (∀ t ∈ l, FineT t ∧ Fit 1 0 t.items) → ∀ S : List Tok, S.map Prod.fst = ptTs l → ∃ l', SameTs l l' ∧ Tys E n S l'
  | [], n, _, _, S, hS => by
    obtain rfl := List.map_eq_nil_iff.1 hS
    exact ⟨[], .nil, .fin⟩
  | t :: r, n, hn, hf, S, hS => by
    obtain ⟨hft, hfit⟩ := hf _ (List.mem_cons_self ..)
    rw [List.length_cons] at hn
    obtain ⟨u, S1, rfl, hu, hS1⟩ := map1 (a := wStruct) (l := t.name :: [123] :: ((ptI t.items ++ [[125]]) ++ ptTs r)) (by rw [hS]; show ptT _ ++ ptTs r = _; unfold ptT; simp)
    obtain ⟨v, S2, rfl, hv, hS2⟩ := map1 hS1
    obtain ⟨o, S3, rfl, ho, hS3⟩ := map1 hS2
    obtain ⟨U, V, rfl, hU, hV⟩ := mapa hS3
    obtain ⟨r', g1, g2⟩ := Tys.make (E := E) (n := n + 1) (by omega) (fun t ht => hf t (List.mem_cons_of_mem _ ht)) V hV
    obtain ⟨l', g3, g4⟩ := Blk.make (E := E) hfit hft.2 U V hU
    exact ⟨⟨v.1, v.2, l'⟩ :: r', .cons ⟨hv.symm, g3⟩ g1, .one (by omega) hu (by rw [hv]; exact hft.1.2) ho g4 g2⟩
end Tm
end Go.Proofs.YtlomecfhobehnaaGreatDoor
end
section
/- Plain Lean: numbers as bytes, in either order. No program in sight. -/
namespace Go.Proofs.YtlomecfhobehnaaGreatDoor
open Go.RowKit
set_option linter.unusedVariables false
set_option linter.unusedSimpArgs false

/-- which byte the k-th one is -/
def plc (k n o : Nat) : Nat := if o = 1 then n - 1 - k else k
/-- the k-th byte of a number -/
def byteOf (n k : Nat) : Nat := n / 256 ^ k % 256
/-- the row after k rounds of Put -/
def putCell (n wd o k j : Nat) : Nat := if plc j wd o < k then byteOf n (plc j wd o) else 0
def putRow (n wd o k : Nat) : List Value := (List.range wd).map fun j => .int .u8 ((putCell n wd o k j : Nat) : Int)
/-- a number as bytes -/
def putB (n wd o : Nat) : List UInt8 := (List.range wd).map fun j => UInt8.ofNat (byteOf n (plc j wd o))

theorem plc_lt {k n o : Nat} (h : k < n) : plc k n o < n := by unfold plc; split <;> omega
theorem plc_plc {k n o : Nat} (h : k < n) : plc (plc k n o) n o = k := by unfold plc; split <;> omega
theorem byteOf_lt (n k : Nat) : byteOf n k < 256 := Nat.mod_lt _ (by decide)

theorem putRow_length (n wd o k : Nat) : (putRow n wd o k).length = wd := by simp [putRow]
theorem putRow_zero (n wd o : Nat) : putRow n wd o 0 = List.replicate wd (.int .u8 0) := by
  apply List.ext_getElem
  · simp [putRow]
  · intro i h1 h2; simp [putRow, putCell]
theorem putRow_step (n wd o k : Nat) (h : k < wd) : (putRow n wd o k).set (plc k wd o) (.int .u8 ((byteOf n k : Nat) : Int)) = putRow n wd o (k + 1) := by
  apply List.ext_getElem
  · simp [putRow]
  · intro i h1 h2
    have hi : i < wd := by simpa [putRow] using h2
    rw [List.getElem_set]
    by_cases e : plc k wd o = i
    · subst e
      simp [putRow, putCell, plc_plc h]
    · rw [if_neg e]
      have : plc i wd o ≠ k := fun e' => e (by rw [← e', plc_plc hi])
      simp only [putRow, putCell, List.getElem_map, List.getElem_range]
      congr 2
      by_cases h' : plc i wd o < k
      · rw [if_pos h', if_pos (by omega)]
      · rw [if_neg h', if_neg (by omega)]
theorem pow_8k (k : Nat) : (2 : Int) ^ (8 * k) = ((256 ^ k : Nat) : Int) := by
  rw [Int.pow_mul]; simp
theorem byteOf_shr (n k : Nat) : ((n : Int) / 2 ^ (8 * k)) % 256 = ((byteOf n k : Nat) : Int) := by
  unfold byteOf
  rw [pow_8k]; simp
theorem putB_length (n wd o : Nat) : (putB n wd o).length = wd := by simp [putB]
theorem putCell_all (n wd o j : Nat) (h : j < wd) : putCell n wd o wd j = byteOf n (plc j wd o) := by
  unfold putCell; rw [if_pos (plc_lt h)]
theorem putB_of_row (n wd o : Nat) : strOfNums ((List.range wd).map fun j => ((putCell n wd o wd j : Nat) : Int)) = bstr (putB n wd o) := by
  rw [strOfNums_eq]
  congr 1
  rw [List.map_map]
  apply List.map_congr_left
  intro j hj
  have hj' : j < wd := by simpa using hj
  simp [putCell_all n wd o j hj']

/-- the number that the first k bytes from 'at' on make -/
def getN (l : List UInt8) (a wd o : Nat) : Nat → Nat
  | 0 => 0
  | k + 1 => getN l a wd o k + (l.getD (a + plc k wd o) 0).toNat * 256 ^ k
theorem getN_lt (l : List UInt8) (a wd o k : Nat) : getN l a wd o k < 256 ^ k := by
  induction k with
  | zero => simp [getN]
  | succ k ih =>
    have hb := (l.getD (a + plc k wd o) 0).toNat_lt
    have : (l.getD (a + plc k wd o) 0).toNat * 256 ^ k ≤ 255 * 256 ^ k := Nat.mul_le_mul_right _ (by omega)
    simp only [getN, Nat.pow_succ]
    omega
theorem pow256_le {k : Nat} (h : k ≤ 8) : 256 ^ k ≤ 18446744073709551616 := by
  have := Nat.pow_le_pow_right (n := 256) (by decide) h
  simpa using this
theorem or_step (g b k : Nat) (hg : g < 256 ^ k) (hb : b < 256) (hk : k < 8) :
    bits .or .u64 (g : Int) (IntKind.u64.wrap ((b : Int) * 2 ^ (8 * k))) = ((g + b * 256 ^ k : Nat) : Int) := by
  have h1 : b * 256 ^ k < 256 ^ (k + 1) := by
    rw [Nat.pow_succ, Nat.mul_comm]
    exact Nat.mul_lt_mul_of_pos_left hb (Nat.pow_pos (by decide))
  have h2 := pow256_le (show k + 1 ≤ 8 by omega)
  have h3 := pow256_le (show k ≤ 8 by omega)
  have h4 : IntKind.u64.wrap ((b : Int) * 2 ^ (8 * k)) = ((b * 256 ^ k : Nat) : Int) := by
    rw [pow_8k, ← Int.natCast_mul]
    exact IntWalk.u64_in _ ⟨by omega, by omega⟩
  rw [h4, bits_or_u64_nat _ _ (by omega) (by omega), Nat.or_comm]
  have h5 : b * 256 ^ k ||| g = b * 256 ^ k + g := by
    have e : 256 ^ k = 2 ^ (8 * k) := by rw [Nat.pow_mul]
    apply nat_join (8 * k)
    · rw [e]; simp
    · rw [← e]; exact hg
  rw [h5, Nat.add_comm]
theorem byte_at (s : ByteArray) (i : Nat) (h : i < s.size) : s[i] = s.data.toList.getD i 0 := by
  have h' : i < s.data.toList.length := by rw [Array.length_toList]; exact h
  rw [List.getD_eq_getElem?_getD, List.getElem?_eq_getElem h']
  rfl
theorem get_step (s : ByteArray) (a wd o k G : Nat) (hG : getN s.data.toList a wd o k = G) (hg : G < 256 ^ k) (hk : k < 8) (h : a + plc k wd o < s.size) :
    bits .or .u64 (G : Int) (IntKind.u64.wrap (IntKind.u64.wrap ((s[a + plc k wd o].toNat : Nat) : Int) * 2 ^ (8 * k))) = ((getN s.data.toList a wd o (k + 1) : Nat) : Int) := by
  have hb : s[a + plc k wd o].toNat < 256 := UInt8.toNat_lt _
  rw [IntWalk.u64_in ((s[a + plc k wd o].toNat : Nat) : Int) ⟨by omega, by omega⟩, or_step G _ k hg hb hk, byte_at, getN, hG]

/-- a number of so many bytes, without a sign, and with one -/
def unsN (n wd : Nat) : Nat := n % 256 ^ wd
def sgnI (n wd : Nat) : Int := if unsN n wd < 256 ^ wd / 2 then (unsN n wd : Int) else (unsN n wd : Int) - ((256 ^ wd : Nat) : Int)
/-- an int's bits -/
def u64N (n : Int) : Nat := (n % 18446744073709551616).toNat
theorem u64N_lt (n : Int) : u64N n < 18446744073709551616 := by unfold u64N; omega
theorem u64N_cast (n : Int) : ((u64N n : Nat) : Int) = n % 18446744073709551616 := by unfold u64N; omega
theorem u64N_wrap (n : Int) : IntKind.u64.wrap n = ((u64N n : Nat) : Int) := by rw [IntKind.wrap_u64, u64N_cast]
/-- one of 1, 2, 4, 8 -/
def wideN (a : Int) : Nat := 2 ^ pickN a 4
theorem wideN_or (a : Int) : wideN a = 1 ∨ wideN a = 2 ∨ wideN a = 4 ∨ wideN a = 8 := by
  have h := pickN_lt a 4 (by omega)
  unfold wideN
  obtain h | h | h | h : pickN a 4 = 0 ∨ pickN a 4 = 1 ∨ pickN a 4 = 2 ∨ pickN a 4 = 3 := by omega
  all_goals simp [h]

theorem byteOf_mod (n wd k : Nat) (h : k < wd) : byteOf (n % 256 ^ wd) k = byteOf n k := by
  unfold byteOf
  have e : 256 ^ wd = 256 ^ k * 256 ^ (wd - k) := by rw [← Nat.pow_add]; congr 1; omega
  have e2 : 256 ^ (wd - k) = 256 * 256 ^ (wd - k - 1) := by rw [← Nat.pow_succ']; congr 1; omega
  rw [e, Nat.mod_mul_right_div_self, e2, Nat.mod_mul_right_mod]
theorem putB_mod (n wd o : Nat) : putB (n % 256 ^ wd) wd o = putB n wd o := by
  unfold putB
  apply List.map_congr_left
  intro j hj
  rw [byteOf_mod _ _ _ (plc_lt (by simpa using hj))]
theorem putB_at (n wd o k : Nat) (h : k < wd) : ((putB n wd o).getD (plc k wd o) 0).toNat = byteOf n k := by
  have hp := plc_lt (o := o) h
  have hb := byteOf_lt n k
  unfold putB
  rw [List.getD_eq_getElem?_getD, List.getElem?_map, List.getElem?_range hp]
  simp [plc_plc h]
  exact hb
theorem mod_pow_succ (n k : Nat) : n % 256 ^ (k + 1) = n % 256 ^ k + byteOf n k * 256 ^ k := by
  unfold byteOf
  rw [Nat.pow_succ, Nat.mod_mul, Nat.mul_comm (256 ^ k)]
theorem getN_put (l : List UInt8) (n wd o a : Nat) (h : ∀ j, j < wd → l.getD (a + j) 0 = (putB n wd o).getD j 0) : ∀ k, k ≤ wd → getN l a wd o k = n % 256 ^ k := by
  intro k
  induction k with
  | zero => intro _; simp [getN]; omega
  | succ k ih =>
    intro hk
    rw [getN, ih (by omega), h _ (plc_lt (by omega)), putB_at _ _ _ _ (by omega), mod_pow_succ]
theorem getN_mid (x y : List UInt8) (n wd o : Nat) : getN (x ++ putB n wd o ++ y) x.length wd o wd = unsN n wd := by
  unfold unsN
  apply getN_put _ _ _ _ _ _ _ (Nat.le_refl _)
  intro j hj
  rw [List.getD_eq_getElem?_getD, List.getD_eq_getElem?_getD, List.append_assoc, List.getElem?_append_right (by omega), List.getElem?_append_left (by rw [putB_length]; omega)]
  congr 2
  omega
theorem byteOf_low (g b k : Nat) (hg : g < 256 ^ k) (j : Nat) (h : j < k) : byteOf (g + b * 256 ^ k) j = byteOf g j := by
  rw [← byteOf_mod (g + b * 256 ^ k) k j h, Nat.add_mul_mod_self_right, byteOf_mod _ _ _ h]
theorem byteOf_top (g b k : Nat) (hg : g < 256 ^ k) (hb : b < 256) : byteOf (g + b * 256 ^ k) k = b := by
  unfold byteOf
  rw [Nat.add_mul_div_right _ _ (Nat.pow_pos (by decide)), Nat.div_eq_of_lt hg]; omega
theorem byteOf_getN (l : List UInt8) (a wd o : Nat) : ∀ m k, k < m → byteOf (getN l a wd o m) k = (l.getD (a + plc k wd o) 0).toNat := by
  intro m
  induction m with
  | zero => intro k h; omega
  | succ m ih =>
    intro k h
    rw [getN]
    by_cases e : k = m
    · subst e; exact byteOf_top _ _ _ (getN_lt _ _ _ _ _) (UInt8.toNat_lt _)
    · rw [byteOf_low _ _ _ (getN_lt _ _ _ _ _) _ (by omega)]; exact ih k (by omega)
theorem putB_getN (l : List UInt8) (wd o : Nat) (h : l.length = wd) : putB (getN l 0 wd o wd) wd o = l := by
  apply List.ext_getElem
  · simp [putB, h]
  · intro i h1 h2
    have hi : i < wd := by omega
    simp only [putB, List.getElem_map, List.getElem_range]
    rw [byteOf_getN _ _ _ _ _ _ (plc_lt hi), plc_plc hi, Nat.zero_add, List.getD_eq_getElem?_getD, List.getElem?_eq_getElem h2]
    simp
theorem putB_rev (n wd : Nat) : putB n wd 1 = (putB n wd 0).reverse := by
  apply List.ext_getElem
  · simp [putB]
  · intro i h1 h2
    have hi : i < wd := by simpa [putB] using h1
    simp [putB, plc]
theorem swap_put (n wd : Nat) : putB (getN (putB n wd 0) 0 wd 1 wd) wd 1 = putB n wd 0 := putB_getN _ _ _ (putB_length _ _ _)
theorem swap_swap (n wd : Nat) : getN (putB (getN (putB n wd 0) 0 wd 1 wd) wd 0) 0 wd 1 wd = unsN n wd := by
  have h : putB (getN (putB n wd 0) 0 wd 1 wd) wd 0 = putB n wd 1 := by
    have h1 := putB_rev (getN (putB n wd 0) 0 wd 1 wd) wd
    rw [swap_put] at h1
    have h2 := congrArg List.reverse h1
    rw [List.reverse_reverse] at h2
    rw [← h2, putB_rev]
  rw [h]
  exact getN_put _ n wd 1 0 (fun j _ => by rw [Nat.zero_add]) _ (Nat.le_refl _)
theorem get_mid (s1 s2 : ByteArray) (n wd o : Nat) : getN (s1 ++ bstr (putB n wd o) ++ s2).data.toList s1.size wd o wd = unsN n wd := by
  rw [append_data, append_data, bstr_data, ← data_length s1]
  exact getN_mid _ _ _ _ _
theorem unsN_lt (n wd : Nat) (h : n < 18446744073709551616) : unsN n wd < 18446744073709551616 := Nat.lt_of_le_of_lt (Nat.mod_le _ _) h
end Go.Proofs.YtlomecfhobehnaaGreatDoor
end
