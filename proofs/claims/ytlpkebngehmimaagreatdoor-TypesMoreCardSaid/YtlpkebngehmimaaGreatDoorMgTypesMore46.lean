/- Two texts with a line feed between: the tokens of both. -/
import Derived.Test.YtlpkebngehmimaaGreatDoorMgTypesMore31
import Derived.Test.YtlpkebngehmimaaGreatDoorMgTypesMore0
section
/- Whether templates fit together: with other names they do as well, where names that are used stay apart. -/
namespace Go.Proofs.YtlpkebngehmimaaGreatDoor
set_option linter.unusedVariables false
set_option linter.unusedSimpArgs false
namespace Tm
open Ex
variable {f : Wd → Wd} {P : Wd → Prop}
def InjP (f : Wd → Wd) (P : Wd → Prop) : Prop := ∀ u w, nameB u = true → nameB w = true → P u → P w → f u = f w → u = w
def NmP (P : Wd → Prop) (w : Wd) : Prop := nameB w = true ∧ P w
def ExP (P : Wd → Prop) (w : Wd) : Prop := nameB w = true → P w
theorem NmP.ex {w : Wd} (h : NmP P w) : ExP P w := fun _ => h.2
theorem Ren.injP (hf : Ren f) (hi : InjP f P) {u w : Wd} (hu : NmP P u) (hw : ExP P w) : f u = f w ↔ u = w := by
  constructor
  · intro h
    by_cases hn : nameB w = true
    · exact hi u w hu.1 hn hu.2 (hw hn) h
    · rw [hf.else_ w (by simpa using hn)] at h
      rw [← h] at hn
      exact absurd (hf.name u hu.1) hn
  · rintro rfl; rfl
def SkP (P : Wd → Prop) (s : Sk) : Prop := (s.wh = true ∨ NmP P s.name) ∧ ExP P (firstW s.rule) ∧ ExP P (lastW s.rule)
theorem called_renP (hf : Ren f) (hi : InjP f P) {s : Sk} (hs : SkP P s) {w : Wd} (hw : ExP P w) : called (f w) (s.ren f) = called w s := by
  unfold called Sk.ren
  rcases hs.1 with h | h
  · simp only [h, Bool.not_true, Bool.false_and]
  · congr 1
    rw [Bool.eq_iff_iff, beq_iff_eq, beq_iff_eq]
    exact hf.injP hi h hw
theorem findI_renP (hf : Ren f) (hi : InjP f P) {R : List Sk} (hR : ∀ s ∈ R, SkP P s) {w : Wd} (hw : ExP P w) : findI (R.map (Sk.ren f)) (f w) = findI R w := by
  unfold findI
  have : (R.map (Sk.ren f)).findIdx? (called (f w)) = R.findIdx? (called w) := by
    induction R with
    | nil => rfl
    | cons s R ih =>
      rw [List.map_cons, List.findIdx?_cons, List.findIdx?_cons, called_renP hf hi (hR s (by simp)) hw, ih (fun t ht => hR t (by simp [ht]))]
  rw [this]
theorem lastI_renP (hf : Ren f) (hi : InjP f P) {R : List Sk} (hR : ∀ s ∈ R, SkP P s) {s : Sk} (hs : SkP P s) : lastI (R.map (Sk.ren f)) (renR f s.rule) = lastI R s.rule := by
  unfold lastI
  rw [isCheck_ren, lastW_ren hf, firstW_ren hf, findI_renP hf hi hR hs.2.2, findI_renP hf hi hR hs.2.1]
theorem rule1_renP (hf : Ren f) (hi : InjP f P) {R : List Sk} (hR : ∀ s ∈ R, SkP P s) (i : Nat) {s : Sk} (hs : SkP P s) : rule1 (R.map (Sk.ren f)) i (s.ren f) = rule1 R i s := by
  unfold rule1
  have e1 : (s.ren f).rule = renR f s.rule := rfl
  have e2 : (s.ren f).w4 = s.w4 := rfl
  rw [e1, e2, lastI_renP hf hi hR hs, firstW_ren hf, findI_renP hf hi hR hs.2.1, isCheck_ren, isCount_ren, manyAt_ren, isNone_ren]
theorem rulesA_renP (hf : Ren f) (hi : InjP f P) {R : List Sk} (hR : ∀ s ∈ R, SkP P s) : ∀ (l : List Sk) (i : Nat), (∀ s ∈ l, SkP P s) → rulesA (R.map (Sk.ren f)) i (l.map (Sk.ren f)) = rulesA R i l
  | [], i, _ => rfl
  | s :: l, i, h => by
    rw [List.map_cons]
    unfold rulesA
    rw [rule1_renP hf hi hR i (h s (by simp)), rulesA_renP hf hi hR l _ (fun t ht => h t (by simp [ht]))]
theorem overB_renP (hf : Ren f) (hi : InjP f P) {R : List Sk} (hR : ∀ s ∈ R, SkP P s) (i k : Nat) : overB (R.map (Sk.ren f)) i k = overB R i k := by
  unfold overB
  rw [List.getElem?_map]
  cases hs : R[i]? with
  | none => rfl
  | some s =>
    have hm := hR s (List.mem_of_getElem? hs)
    have e1 : (s.ren f).rule = renR f s.rule := rfl
    simp only [Option.map_some, e1]
    rw [isCheck_ren, lastW_ren hf, firstW_ren hf, findI_renP hf hi hR hm.2.1, findI_renP hf hi hR hm.2.2]
theorem roundB_renP (hf : Ren f) (hi : InjP f P) {R : List Sk} (hR : ∀ s ∈ R, SkP P s) : ∀ n i to, roundB (R.map (Sk.ren f)) n i to = roundB R n i to
  | 0, i, to => rfl
  | n + 1, i, to => by
    unfold roundB
    rw [List.length_map]
    congr 1
    funext k
    rw [overB_renP hf hi hR, checkAt_ren, roundB_renP hf hi hR n]
theorem cyc_renP (hf : Ren f) (hi : InjP f P) {R : List Sk} (hR : ∀ s ∈ R, SkP P s) : ∀ (l : List Sk) (i : Nat), cyc (R.map (Sk.ren f)) i (l.map (Sk.ren f)) = cyc R i l
  | [], i => rfl
  | s :: l, i => by
    rw [List.map_cons]
    unfold cyc
    have e1 : (s.ren f).rule = renR f s.rule := rfl
    rw [e1, isCheck_ren, List.length_map, roundB_renP hf hi hR, cyc_renP hf hi hR l]
theorem rulesE_renP (hf : Ren f) (hi : InjP f P) {R : List Sk} (hR : ∀ s ∈ R, SkP P s) : rulesE (R.map (Sk.ren f)) = rulesE R := by
  unfold rulesE
  rw [rulesA_renP hf hi hR _ _ hR, cyc_renP hf hi hR]
theorem mem_renP (hf : Ren f) (hi : InjP f P) {l : List Wd} (hl : ∀ w ∈ l, NmP P w) {n : Wd} (hn : ExP P n) : (l.map f).contains (f n) = l.contains n := by
  rw [Bool.eq_iff_iff, List.contains_iff_mem, List.contains_iff_mem, List.mem_map]
  constructor
  · rintro ⟨a, h1, h2⟩
    rw [← (hf.injP hi (hl a h1) hn).1 h2]; exact h1
  · intro h; exact ⟨n, h, rfl⟩
theorem asks_renP (hf : Ren f) (hi : InjP f P) {seen : List Wd} (hl : ∀ w ∈ seen, NmP P w) : ∀ (ns : List Wd), (∀ n ∈ ns, ExP P n) → asks (seen.map f) (ns.map f) = asks seen ns
  | [], _ => rfl
  | n :: ns, h => by
    unfold asks
    rw [List.map_cons, List.all_cons, List.all_cons, mem_renP hf hi hl (h n (by simp))]
    congr 1
    exact asks_renP hf hi hl ns (fun m hm => h m (by simp [hm]))
def AllH (P : Wd → Prop) (h : Hd) : Prop := NmP P h.name ∧ (∀ t, h.k = .struct t → ExP P t) ∧ ExP P (firstW h.rule) ∧ ExP P (lastW h.rule) ∧ ∀ n ∈ namesO h.cnt, ExP P n
def AllI (P : Wd → Prop) : Its → Prop
  | .nil => True
  | .cons h l => AllH P h ∧ AllI P l
  | .when _ c b l => (∀ n ∈ namesX c, ExP P n) ∧ AllI P b ∧ AllI P l
def AllT (P : Wd → Prop) (t : Ty) : Prop := NmP P t.name ∧ AllI P t.items
theorem nil_ex : ExP P [] := fun h => absurd h (by decide)
theorem row_okP : ∀ {l : Its}, AllI P l → ∀ s ∈ l.row, SkP P s
  | .nil, _, s, hs => by cases hs
  | .cons h l, hf, s, hs => by
    rcases List.mem_cons.1 hs with rfl | hs
    · exact ⟨.inr hf.1.1, hf.1.2.2.1, hf.1.2.2.2.1⟩
    · exact row_okP hf.2 s hs
  | .when _ _ _ l, hf, s, hs => by
    rcases List.mem_cons.1 hs with rfl | hs
    · exact ⟨.inl rfl, nil_ex, nil_ex⟩
    · exact row_okP hf.2.2 s hs
theorem lacks_renP (hf : Ren f) (hi : InjP f P) {ts : List Wd} (hl : ∀ w ∈ ts, NmP P w) {k : Knd} (hk : ∀ t, k = .struct t → ExP P t) : lacks (ts.map f) (renK f k) = lacks ts k := by
  cases k with
  | struct t => show (!_) = (!_); rw [mem_renP hf hi hl (hk t rfl)]
  | _ => rfl
theorem chkL_namesP {ts : List Wd} : ∀ {l : Its} {ns seen ns' seen' : List Wd}, AllI P l → (∀ w ∈ ns, NmP P w) → (∀ w ∈ seen, NmP P w) → chkL ts l ns seen = .ok ns' seen' → (∀ w ∈ ns', NmP P w) ∧ (∀ w ∈ seen', NmP P w)
  | .nil, ns, seen, ns', seen', _, h1, h2, h => by
    unfold chkL at h
    cases h
    exact ⟨h1, h2⟩
  | .cons a l, ns, seen, ns', seen', hf, h1, h2, h => by
    unfold chkL at h
    split at h
    · cases h
    · split at h
      · cases h
      · split at h
        · refine chkL_namesP hf.2 ?_ ?_ h
          · intro w hw
            rcases List.mem_cons.1 hw with rfl | hw
            · exact hf.1.1
            · exact h1 w hw
          · intro w hw
            split at hw
            · rcases List.mem_append.1 hw with hw | hw
              · exact h2 w hw
              · rw [List.mem_singleton] at hw; rw [hw]; exact hf.1.1
            · exact h2 w hw
        · cases h
  | .when _ c b l, ns, seen, ns', seen', hf, h1, h2, h => by
    unfold chkL at h
    split at h
    · cases hb : chkL ts b ns seen with
      | bad e => rw [hb] at h; cases h
      | ok n2 s2 =>
        rw [hb] at h
        simp only [] at h
        have hn2 := (chkL_namesP hf.2.1 h1 h2 hb).1
        split at h
        · cases h
        · exact chkL_namesP hf.2.2 hn2 h2 h
    · cases h
theorem chkL_renP (hf : Ren f) (hi : InjP f P) {ts : List Wd} (hts : ∀ w ∈ ts, NmP P w) {l m : Its} (h : RenI f l m) : AllI P l → ∀ ns seen : List Wd, (∀ w ∈ ns, NmP P w) → (∀ w ∈ seen, NmP P w) → chkL (ts.map f) m (ns.map f) (seen.map f) = (chkL ts l ns seen).ren f := by
  induction h with
  | nil => intro _ ns seen _ _; rfl
  | @cons a b l m hh _ ih =>
    intro hF ns seen h1 h2
    obtain ⟨g1, g2, g3, g4⟩ := hh
    unfold chkL
    rw [g1, g2, mem_renP hf hi h1 hF.1.1.ex, lacks_renP hf hi hts hF.1.2.1, namesO_ren g3, asks_renP hf hi h2 _ hF.1.2.2.2.2]
    split
    · rfl
    · split
      · rfl
      · split
        · have e1 : single b = single a := by rw [single_eq, single_eq, g1, renO_some g3]; cases a.k <;> rfl
          have e2 : (if single b then seen.map f ++ [f a.name] else seen.map f) = (if single a then seen ++ [a.name] else seen).map f := by
            rw [e1]; split <;> simp
          rw [e2]
          refine ih hF.2 (a.name :: ns) _ ?_ ?_
          · intro w hw
            rcases List.mem_cons.1 hw with rfl | hw
            · exact hF.1.1
            · exact h1 w hw
          · intro w hw
            split at hw
            · rcases List.mem_append.1 hw with hw | hw
              · exact h2 w hw
              · rw [List.mem_singleton] at hw; rw [hw]; exact hF.1.1
            · exact h2 w hw
        · rfl
  | @when a a' c c' b b' l m hx hb hl ih1 ih2 =>
    intro hF ns seen h1 h2
    unfold chkL
    rw [namesX_ren hx, asks_renP hf hi h2 _ hF.1, ih1 hF.2.1 ns seen h1 h2, row_ren hf hb, rulesE_renP hf hi (row_okP hF.2.1)]
    split
    · cases hbr : chkL ts b ns seen with
      | bad e => rfl
      | ok n2 s2 =>
        simp only [Res.ren]
        split
        · rfl
        · exact ih2 hF.2.2 n2 seen (chkL_namesP hF.2.1 h1 h2 hbr).1 h2
    · rfl
theorem chk_renP (hf : Ren f) (hi : InjP f P) {l m : List Ty} (h : RenTs f l m) : (∀ t ∈ l, AllT P t) → ∀ ts : List Wd, (∀ w ∈ ts, NmP P w) → chk (ts.map f) m = chk ts l := by
  induction h with
  | nil => intro _ ts _; rfl
  | @cons a b l m hh _ ih =>
    intro hF ts hts
    obtain ⟨g1, g2⟩ := hh
    have hFa := hF a (by simp)
    unfold chk
    have hc := chkL_renP hf hi hts g2 hFa.2 [] [] (fun w hw => by cases hw) (fun w hw => by cases hw)
    simp only [List.map_nil] at hc
    rw [g1, mem_renP hf hi hts hFa.1.ex, hc, row_ren hf g2, rulesE_renP hf hi (row_okP hFa.2)]
    split
    · rfl
    · cases chkL ts a.items [] [] with
      | bad e => rfl
      | ok n2 s2 =>
        simp only [Res.ren]
        split
        · rfl
        · refine ih (fun t ht => hF t (by simp [ht])) (a.name :: ts) ?_
          intro w hw
          rcases List.mem_cons.1 hw with rfl | hw
          · exact hFa.1
          · exact hts w hw
/-! ## names are tokens -/
theorem par_names {num : NumOf} {E : Nat} {c : Cat} {d : Nat} {T : List Tok} {o : Out} (h : Par num E c d T o) : ∀ x R, o = .ok x R → ∀ n ∈ namesX x, (∃ t ∈ T, t.1 = n) ∨ (match c with | .loop _ y => n ∈ namesX y | _ => False) := by
  induction h with
  | top _ ih => intro x R e n hn; exact (ih x R e n hn).imp_right (fun h => h.elim)
  | lev _ h1 h2 ih1 ih2 =>
    intro x R e n hn
    rcases ih2 x R e n hn with h | h
    · obtain ⟨t, ht, rfl⟩ := h
      exact .inl ⟨t, (h1.less _ _ rfl).1.subset ht, rfl⟩
    · exact (ih1 _ _ rfl n h).imp_right (fun h => h.elim)
  | done _ => intro x R e n hn; cases e; exact .inr hn
  | @more k x d t T T' y o h1 h2 h3 ih1 ih2 =>
    intro z R e n hn
    rcases ih2 z R e n hn with h | h
    · obtain ⟨u, hu, rfl⟩ := h
      exact .inl ⟨u, List.mem_cons_of_mem _ ((h2.less _ _ rfl).1.subset hu), rfl⟩
    · rcases List.mem_append.1 h with h | h
      · exact .inr h
      · rcases ih1 _ _ rfl n h with h | h
        · obtain ⟨u, hu, rfl⟩ := h
          exact .inl ⟨u, List.mem_cons_of_mem _ hu, rfl⟩
        · exact h.elim
  | paren _ _ h3 _ ih =>
    intro x R e n hn
    cases e
    rcases ih _ _ rfl n hn with h | h
    · obtain ⟨u, hu, rfl⟩ := h
      exact .inl ⟨u, List.mem_cons_of_mem _ hu, rfl⟩
    · exact h.elim
  | @name d t T c r h1 h2 h3 =>
    intro x R e n hn
    cases e
    simp only [namesX, List.mem_singleton] at hn
    exact .inl ⟨t, by simp, hn.symm⟩
  | num _ _ _ => intro x R e n hn; cases e; simp [namesX] at hn
  | levBad => intro x R e; cases e
  | moreBad => intro x R e; cases e
  | parenNone => intro x R e; cases e
  | parenBad => intro x R e; cases e
  | deep => intro x R e; cases e
  | nameLong => intro x R e; cases e
  | mark => intro x R e; cases e
  | numBad => intro x R e; cases e
  | _ => intro x R e; cases e
variable {E d : Nat}
/-- what holds of tokens -/
def TkP (P : Wd → Prop) (T : List Tok) : Prop := ∀ t ∈ T, ExP P t.1
theorem TkP.suf {T R : List Tok} (h : TkP P T) (hs : R <:+ T) : TkP P R := fun t ht => h t (hs.subset ht)
theorem parT_names {T R : List Tok} {x : X} (h : ParT E T x R) (hT : TkP P T) : ∀ n ∈ namesX x, ExP P n := by
  intro n hn
  rcases par_names h x R rfl n hn with ⟨t, ht, rfl⟩ | h
  · exact hT t ht
  · exact h.elim
theorem hd_all {T R : List Tok} {a : Hd} (h : HdP E T a R) (hT : TkP P T) : AllH P a := by
  cases h with
  | @mk t n s T R k c r h1 h2 h3 h4 =>
    have hn : NmP P n.1 := ⟨h2, hT n (by simp) h2⟩
    have hk : ∀ u, k = .struct u → ExP P u := by
      intro u hu
      subst hu
      cases h1
      exact hT t (by simp)
    have hT3 : TkP P T := hT.suf ((List.suffix_cons _ _).trans (List.suffix_cons _ _))
    cases h3 with
    | cnt hc hb =>
      cases hc with
      | no h5 => exact ⟨hn, hk, nil_ex, nil_ex, fun n hn => by cases hn⟩
      | yes h5 h6 h7 => exact ⟨hn, hk, nil_ex, nil_ex, parT_names h6 (hT3.suf (List.suffix_cons _ _))⟩
    | rule h5 h6 =>
      have hT4 := hT3.suf (List.suffix_cons _ _)
      cases h6 with
      | size g1 g2 => exact ⟨hn, hk, hT4 _ (by simp), nil_ex, fun n hn => by cases hn⟩
      | count g1 g2 => exact ⟨hn, hk, hT4 _ (by simp), nil_ex, fun n hn => by cases hn⟩
      | check1 g1 g2 g3 => exact ⟨hn, hk, hT4 _ (by simp), hT4 _ (by simp), fun n hn => by cases hn⟩
      | check2 g1 g2 g3 g4 => exact ⟨hn, hk, hT4 _ (by simp), hT4 _ (by simp), fun n hn => by cases hn⟩
theorem blk_all {n : Nat} {T R : List Tok} {l : Its} (h : Blk E d n T l R) : TkP P T → AllI P l := by
  induction h with
  | fin => intro _; trivial
  | item h1 h2 _ ih => intro hT; exact ⟨hd_all h2 hT, ih (hT.suf h2.suf.1)⟩
  | when h1 h2 h3 h4 h5 h6 _ ih1 ih2 =>
    intro hT
    have hT1 := hT.suf (List.suffix_cons _ _)
    have hT2 := (hT1.suf h3.suf.1).suf (List.suffix_cons _ _)
    exact ⟨parT_names h3 hT1, ih1 hT2, ih2 (hT2.suf h6.suf.1)⟩
theorem tys_all {n : Nat} {T : List Tok} {l : List Ty} (h : Tys E n T l) : TkP P T → ∀ t ∈ l, AllT P t := by
  induction h with
  | fin => intro _ t ht; cases ht
  | @one n t m b T R l r h1 h2 h3 h4 h5 _ ih =>
    intro hT t' ht'
    have hT3 : TkP P T := hT.suf ((List.suffix_cons _ _).trans ((List.suffix_cons _ _).trans (List.suffix_cons _ _)))
    rcases List.mem_cons.1 ht' with rfl | ht'
    · exact ⟨⟨h3, hT m (by simp) h3⟩, blk_all h5 hT3⟩
    · exact ih (hT3.suf h5.suf.1) t' ht'
/-! ## a letter more -/
def addZ (w : Wd) : Wd := if nameB w && decide (w.length ≤ 11) then w ++ [90] else w
theorem kept_noZ : ∀ w, keptB (w ++ [90]) = false := by
  intro w
  have k1 : ∀ p ∈ numWords, p.1.getLast? ≠ some 90 := by decide
  have k2 : ∀ p ∈ keptWords, p.getLast? ≠ some 90 := by decide
  unfold keptB
  have e1 : kindOf (w ++ [90]) = none := by
    unfold kindOf
    rw [Option.map_eq_none_iff, List.find?_eq_none]
    intro p hp he
    rw [beq_iff_eq] at he
    have := k1 p hp
    rw [he] at this
    simp at this
  have e2 : keptWords.contains (w ++ [90]) = false := by
    rw [Bool.eq_false_iff]
    intro h
    rw [List.contains_iff_mem] at h
    have := k2 _ h
    simp at this
  rw [e1, e2]; rfl
theorem addZ_name {w : Wd} (h : nameB w = true) (hl : w.length ≤ 11) : addZ w = w ++ [90] ∧ nameB (w ++ [90]) = true := by
  refine ⟨by unfold addZ; simp [h, hl], ?_⟩
  unfold nameB at h ⊢
  simp only [Bool.and_eq_true, decide_eq_true_eq, kept_noZ, Bool.not_false, and_true] at h ⊢
  refine ⟨?_, by simp; omega⟩
  cases w with
  | nil => exact absurd h.1.1 (by decide)
  | cons c r => exact h.1.1
theorem addZ_ren : Ren addZ := by
  refine ⟨fun w h => ?_, fun w h => by unfold addZ; simp [h]⟩
  by_cases hl : w.length ≤ 11
  · rw [(addZ_name h hl).1]; exact (addZ_name h hl).2
  · unfold addZ; simp [hl, h]
theorem addZ_inj : InjP addZ (fun w => w.length ≤ 11) := by
  intro u w hu hw h1 h2 h
  rw [(addZ_name hu h1).1, (addZ_name hw h2).1] at h
  exact List.append_cancel_right h
end Tm
end Go.Proofs.YtlpkebngehmimaaGreatDoor
end
section
/- Two texts with a line feed between: the tokens of both. -/
namespace Go.Proofs.YtlpkebngehmimaaGreatDoor
set_option linter.unusedVariables false
set_option linter.unusedSimpArgs false
namespace Lex
theorem takeWhile_nl (p : UInt8 → Bool) (hp : p 10 = false) (r : List UInt8) : ∀ x : List UInt8, (x ++ 10 :: r).takeWhile p = x.takeWhile p
  | [] => by simp [List.takeWhile_cons, hp]
  | c :: x => by
    rw [List.cons_append, List.takeWhile_cons, List.takeWhile_cons, takeWhile_nl p hp r x]
theorem prefix_nl (r : List UInt8) : ∀ (m x : List UInt8), 10 ∉ m → m.isPrefixOf (x ++ 10 :: r) = m.isPrefixOf x
  | [], x, _ => by cases x <;> rfl
  | a :: m, [], h => by
    have : a ≠ 10 := fun e => h (by simp [e])
    simp [List.isPrefixOf, this]
  | a :: m, c :: x, h => by
    show (a == c && m.isPrefixOf (x ++ 10 :: r)) = (a == c && m.isPrefixOf x)
    rw [prefix_nl r m x (fun e => h (List.mem_cons_of_mem _ e))]
theorem marks_nl : ∀ m ∈ marks, 10 ∉ m := by decide
theorem find_ext {α : Type} {p q : α → Bool} : ∀ {l : List α}, (∀ a ∈ l, p a = q a) → l.find? p = l.find? q
  | [], _ => rfl
  | a :: l, h => by
    rw [List.find?_cons, List.find?_cons, h a (by simp), find_ext (l := l) (fun b hb => h b (by simp [hb]))]
theorem next_nl (c : UInt8) (l r : List UInt8) : next (c :: l ++ 10 :: r) = next (c :: l) := by
  rw [List.cons_append, next_cons, next_cons, ← List.cons_append, takeWhile_nl word (by decide)]
  split
  · rfl
  · unfold markLen
    rw [find_ext (q := fun m => m.isPrefixOf (c :: l)) (fun m hm => prefix_nl r m (c :: l) (marks_nl m hm))]
theorem note_nl (l r : List UInt8) : note (l ++ 10 :: r) = note l := by
  unfold note
  rw [takeWhile_nl _ (by decide)]
theorem lex_join (r : List UInt8) : ∀ (n : Nat) (l : List UInt8) (i : Nat) (T : List (List UInt8 × Nat)), l.length ≤ n → lexA l i = some T → lexA (l ++ 10 :: r) i = (lexA r (i + l.length + 1)).map (T ++ ·) := by
  intro n
  induction n with
  | zero =>
    intro l i T h hT
    obtain rfl : l = [] := List.eq_nil_of_length_eq_zero (by omega)
    rw [lexA_nil] at hT
    cases hT
    rw [List.nil_append, lexA_blank 10 r i (.inr (.inl rfl))]
    simp
  | succ n ih =>
    intro l i T h hT
    cases l with
    | nil =>
      rw [lexA_nil] at hT
      cases hT
      rw [List.nil_append, lexA_blank 10 r i (.inr (.inl rfl))]
      simp
    | cons c l =>
      simp only [List.length_cons] at h
      by_cases h1 : c = 32 ∨ c = 10 ∨ c = 9
      · rw [lexA_blank c l i h1] at hT
        rw [List.cons_append, lexA_blank c _ i h1, ih l (i + 1) T (by omega) hT, List.length_cons]
        congr 2
        omega
      · by_cases h2 : c = 35
        · subst h2
          rw [lexA_note] at hT
          have h3 := note_pos l
          have h4 := note_le (35 :: l)
          rw [List.cons_append, lexA_note, ← List.cons_append, note_nl, List.drop_append_of_le_length h4, ih _ _ T (by rw [List.length_drop]; simp only [List.length_cons] at h4 ⊢; omega) hT, List.length_drop]
          congr 2
          simp only [List.length_cons] at h4 ⊢
          omega
        · by_cases h3 : next (c :: l) = 0
          · rw [lexA_bad c l i h1 h2 h3] at hT; cases hT
          · have h4 := next_le (c :: l)
            rw [lexA_tok c l i h1 h2 h3] at hT
            have h5 : next (c :: (l ++ 10 :: r)) = next (c :: l) := next_nl c l r
            rw [List.cons_append, lexA_tok c _ i h1 h2 (by rw [h5]; exact h3), h5, ← List.cons_append, List.drop_append_of_le_length h4, List.take_append_of_le_length h4]
            cases hx : lexA ((c :: l).drop (next (c :: l))) (i + next (c :: l)) with
            | none => rw [hx] at hT; cases hT
            | some T' =>
              rw [hx] at hT
              simp only [Option.map_some, Option.some.injEq] at hT
              subst hT
              rw [ih _ _ T' (by rw [List.length_drop]; simp only [List.length_cons] at h4 ⊢; omega) hx, List.length_drop, Option.map_map]
              have e : i + next (c :: l) + ((c :: l).length - next (c :: l)) + 1 = i + (c :: l).length + 1 := by omega
              rw [e]
              congr 1
end Lex
end Go.Proofs.YtlpkebngehmimaaGreatDoor
end
