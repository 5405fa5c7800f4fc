/- Plain law of package diff: edits make the one text of the other; changes; both. -/
import Derived.Test.YtmmkbjinkdgdbaaDiffE
namespace Go.Proofs.Ytmmkbjinkdgdbaa
namespace Diff
set_option linter.unusedVariables false
set_option linter.unusedSimpArgs false
set_option maxRecDepth 10000
/-- bytes from one place on up to another one -/
def sub (old : List UInt8) (i j : Nat) : List UInt8 := (old.drop i).take (j - i)
theorem sub_self (old : List UInt8) (i : Nat) : sub old i i = [] := by simp [sub]
theorem sub_append (old : List UInt8) (i j k : Nat) (h1 : i ≤ j) (h2 : j ≤ k) : sub old i j ++ sub old j k = sub old i k := by
  unfold sub
  have e : old.drop j = (old.drop i).drop (j - i) := by rw [List.drop_drop]; congr 1; omega
  rw [e, show k - i = (j - i) + (k - j) by omega, List.take_add]
theorem sub_end (old : List UInt8) (i : Nat) : sub old i old.length = old.drop i := by
  unfold sub; rw [List.take_of_length_le (by simp)]
theorem sub_length (old : List UInt8) (i j : Nat) (h : j ≤ old.length) : (sub old i j).length = j - i := by
  unfold sub; rw [List.length_take, List.length_drop]; omega
/-- changes stand in a row -/
def Chain (n : Nat) : Nat → List Ch → Prop
  | at_, [] => at_ ≤ n
  | at_, c :: t => at_ ≤ c.from_ ∧ c.from_ ≤ c.to_ ∧ Chain n c.to_ t
theorem Chain.le {n : Nat} {l : List Ch} : ∀ {at_ : Nat}, Chain n at_ l → at_ ≤ n := by
  induction l with
  | nil => intro a h; exact h
  | cons c t ih => intro a h; have := ih h.2.2; have := h.1; have := h.2.1; omega
theorem Chain.low {n : Nat} {l : List Ch} {a b : Nat} (h : Chain n a l) (hb : b ≤ a) : Chain n b l := by
  cases l with
  | nil => have h' : a ≤ n := h; show b ≤ n; omega
  | cons c t => exact ⟨by have := h.1; omega, h.2⟩
theorem Chain.from_low {n : Nat} {c : Ch} {t : List Ch} {a b : Nat} (h : Chain n a (c :: t)) (hb : b ≤ c.from_) : Chain n b (c :: t) := ⟨hb, h.2⟩
instance : DecidableEq Ch := fun a b =>
  if h : a.from_ = b.from_ ∧ a.to_ = b.to_ ∧ a.text = b.text then isTrue (by cases a; cases b; obtain ⟨h1, h2, h3⟩ := h; subst h1; subst h2; subst h3; rfl)
  else isFalse fun e => h (by rw [e]; exact ⟨rfl, rfl, rfl⟩)
/-- both sides' changes, together -/
def mergeB (old : List UInt8) : List Ch → List Ch → Nat → List UInt8 → Option (List UInt8)
  | [], [], at_, s => some (s ++ old.drop at_)
  | c :: p, [], at_, s => mergeB old p [] c.to_ (s ++ sub old at_ c.from_ ++ c.text)
  | [], d :: q, at_, s => mergeB old [] q d.to_ (s ++ sub old at_ d.from_ ++ d.text)
  | c :: p, d :: q, at_, s =>
    if c = d then mergeB old p q c.to_ (s ++ sub old at_ c.from_ ++ c.text)
    else if c.from_ ≤ d.to_ ∧ d.from_ ≤ c.to_ then none
    else if c.from_ < d.from_ then mergeB old p (d :: q) c.to_ (s ++ sub old at_ c.from_ ++ c.text)
    else mergeB old (c :: p) q d.to_ (s ++ sub old at_ d.from_ ++ d.text)
termination_by p q => p.length + q.length
decreasing_by all_goals (simp only [List.length_cons]; omega)
theorem merge_same (old : List UInt8) : ∀ (p : List Ch) (at_ : Nat) (s : List UInt8), mergeB old p p at_ s = mergeB old p [] at_ s
  | [], at_, s => rfl
  | c :: p, at_, s => by
    conv => lhs; rw [mergeB]
    rw [if_pos rfl, merge_same old p]
    conv => rhs; rw [mergeB]
theorem merge_nil (old : List UInt8) : ∀ (p : List Ch) (at_ : Nat) (s : List UInt8), mergeB old [] p at_ s = mergeB old p [] at_ s
  | [], at_, s => rfl
  | c :: p, at_, s => by rw [mergeB, mergeB, merge_nil old p]
/-- whose is first is nothing -/
theorem merge_comm (old : List UInt8) (p q : List Ch) (at_ : Nat) (s : List UInt8) (hp : ∀ c ∈ p, c.from_ ≤ c.to_) (hq : ∀ c ∈ q, c.from_ ≤ c.to_) : mergeB old p q at_ s = mergeB old q p at_ s := by
  fun_induction mergeB old p q at_ s with
  | case1 at_ s => rw [mergeB]
  | case2 at_ s c p ih => rw [merge_nil]; rw [mergeB]
  | case3 at_ s d q ih =>
    have ih := ih hp (fun c hc => hq c (by simp [hc]))
    rw [merge_nil] at ih ⊢
    rw [mergeB]
  | case4 at_ s c p q ih =>
    rw [mergeB, if_pos rfl, ih (fun c hc => hp c (by simp [hc])) (fun c hc => hq c (by simp [hc]))]
  | case5 at_ s c p d q hne ht => rw [mergeB, if_neg (fun h => hne h.symm), if_pos ⟨ht.2, ht.1⟩]
  | case6 at_ s c p d q hne ht hlt ih =>
    rw [mergeB, if_neg (fun h => hne h.symm), if_neg (fun h => ht ⟨h.2, h.1⟩), if_neg (by omega), ih (fun c hc => hp c (by simp [hc])) hq]
  | case7 c p d q at_ s hne ht hlt ih =>
    have h1 := hp c (by simp)
    have h2 := hq d (by simp)
    rw [mergeB, if_neg (fun h => hne h.symm), if_neg (fun h => ht ⟨h.2, h.1⟩), if_pos (by omega), ih hp (fun c hc => hq c (by simp [hc]))]
theorem Chain.fine {n : Nat} : ∀ {l : List Ch} {a : Nat}, Chain n a l → ∀ c ∈ l, c.from_ ≤ c.to_
  | [], a, _, c, hc => by cases hc
  | d :: t, a, h, c, hc => by
    rcases List.mem_cons.mp hc with rfl | hc
    · exact h.2.1
    · exact Chain.fine h.2.2 c hc
/-- one side's changes -/
def Q (old : List UInt8) : Nat → List Ch → Nat → List UInt8
  | a, [], b => sub old a b
  | a, c :: t, b => sub old a c.from_ ++ c.text ++ Q old c.to_ t b
theorem merge_one (old : List UInt8) : ∀ (p : List Ch) (at_ : Nat) (s : List UInt8), mergeB old p [] at_ s = some (s ++ Q old at_ p old.length)
  | [], at_, s => by rw [mergeB, Q, sub_end]
  | c :: p, at_, s => by rw [mergeB, merge_one old p, Q]; simp [List.append_assoc]
theorem Q_snoc (old : List UInt8) (c : Ch) (b : Nat) : ∀ (t : List Ch) (a : Nat), Q old a (t ++ [c]) b = Q old a t c.from_ ++ c.text ++ sub old c.to_ b
  | [], a => by simp [Q]
  | d :: t, a => by rw [List.cons_append, Q, Q_snoc old c b t, Q]; simp [List.append_assoc]
/-- what edits do to a text -/
def run : List UInt8 → List Ed → List UInt8
  | _, [] => []
  | x, e :: l => if e.what = 1 then x.take e.n ++ run (x.drop e.n) l else if e.what = 2 then run (x.drop e.n) l else e.text ++ run x l
/-- edits of a right form -/
def Fine (e : Ed) : Prop := e.what = 1 ∧ e.text = [] ∨ e.what = 2 ∧ e.text = [] ∨ e.what = 3 ∧ e.n = 0
def tot (l : List Ed) : Nat := (l.map fun e => e.n).sum
theorem tot_append (l m : List Ed) : tot (l ++ m) = tot l + tot m := by simp [tot]
theorem tot_cons (e : Ed) (l : List Ed) : tot (e :: l) = e.n + tot l := by simp [tot]
theorem run_append (x : List UInt8) (l m : List Ed) (hf : ∀ e ∈ l, Fine e) : run x (l ++ m) = run x l ++ run (x.drop (tot l)) m := by
  induction l generalizing x with
  | nil => simp [run, tot]
  | cons e l ih =>
    rw [List.cons_append, run, run, tot_cons]
    have h := hf e (by simp)
    rw [ih _ (fun e he => hf e (by simp [he])), ih _ (fun e he => hf e (by simp [he]))]
    rcases h with ⟨h1, h2⟩ | ⟨h1, h2⟩ | ⟨h1, h2⟩
    · rw [if_pos h1, if_pos h1, List.drop_drop, List.append_assoc]
    · have n1 : ¬ e.what = 1 := by omega
      simp only [if_neg n1, if_pos h1, List.drop_drop]
    · have n1 : ¬ e.what = 1 := by omega
      have n2 : ¬ e.what = 2 := by omega
      simp only [if_neg n1, if_neg n2, h2, Nat.zero_add, List.append_assoc]
theorem addE_keeps (l : List Ed) (e : Ed) (hf : ∀ f ∈ l, Fine f) (he : Fine e) : (∀ f ∈ addE l e, Fine f) ∧ tot (addE l e) = tot l + e.n ∧ ∀ x, run x (addE l e) = run x (l ++ [e]) := by
  rcases snoc_cases l with rfl | ⟨m, f, rfl⟩
  · rw [addE_nil]
    exact ⟨fun f hf' => by rw [List.mem_singleton.mp hf']; exact he, by simp [tot], fun x => rfl⟩
  · by_cases hw : f.what = e.what
    · rw [addE_same _ _ _ hw]
      have hff := hf f (by simp)
      have hfm : ∀ g ∈ m, Fine g := fun g hg => hf g (by simp [hg])
      have hff2 : ∀ g ∈ m ++ [f], Fine g := hf
      have hnew : Fine ⟨f.what, f.n + e.n, f.text ++ e.text⟩ := by
        unfold Fine at hff he ⊢
        rcases hff with ⟨a1, a2⟩ | ⟨a1, a2⟩ | ⟨a1, a2⟩ <;> rcases he with ⟨b1, b2⟩ | ⟨b1, b2⟩ | ⟨b1, b2⟩ <;> first | (exfalso; omega) | (simp [a1, a2, b2])
      refine ⟨fun g hg => ?_, ?_, fun x => ?_⟩
      · rcases List.mem_append.mp hg with hg | hg
        · exact hfm g hg
        · rw [List.mem_singleton.mp hg]; exact hnew
      · rw [tot_append, tot_append]; simp [tot]; omega
      · rw [run_append _ _ _ hfm, run_append _ _ _ hff2, run_append _ _ _ hfm, tot_append, List.append_assoc]
        congr 1
        rw [← List.drop_drop]
        generalize x.drop (tot m) = y
        simp only [run, tot, List.map_cons, List.map_nil, List.sum_cons, List.sum_nil, Nat.add_zero]
        rw [← hw]
        unfold Fine at hff he
        split
        · rw [List.append_nil, List.append_nil, List.take_add]; simp
        · split
          · simp
          · simp [List.append_assoc]
    · rw [addE_other _ _ _ hw]
      refine ⟨fun g hg => ?_, by rw [tot_append]; simp [tot], fun x => rfl⟩
      rcases List.mem_append.mp hg with hg | hg
      · exact hf g hg
      · rw [List.mem_singleton.mp hg]; exact he
theorem fold_keeps (r : List Ed) : ∀ (l : List Ed), (∀ f ∈ l, Fine f) → (∀ f ∈ r, Fine f) → (∀ f ∈ r.foldl addE l, Fine f) ∧ tot (r.foldl addE l) = tot l + tot r ∧ ∀ x, run x (r.foldl addE l) = run x (l ++ r) := by
  induction r with
  | nil => intro l h1 h2; exact ⟨h1, by simp [tot], fun x => by simp⟩
  | cons e r ih =>
    intro l h1 h2
    have he := h2 e (by simp)
    obtain ⟨p1, p2, p3⟩ := addE_keeps l e h1 he
    obtain ⟨q1, q2, q3⟩ := ih (addE l e) p1 (fun f hf => h2 f (by simp [hf]))
    refine ⟨q1, by rw [List.foldl_cons, q2, p2, tot_cons]; omega, fun x => ?_⟩
    rw [List.foldl_cons, q3, run_append _ _ _ p1, p3, p2]
    have : l ++ e :: r = (l ++ [e]) ++ r := by simp
    rw [this, run_append _ (l ++ [e]) r (fun f hf => by
      rcases List.mem_append.mp hf with hf | hf
      · exact h1 f hf
      · rw [List.mem_singleton.mp hf]; exact he), tot_append]
    simp [tot]
theorem raw_fine (a b : List UInt8) : (∀ e ∈ raw a b, Fine e) ∧ tot (raw a b) = a.length ∧ run a (raw a b) = b := by
  fun_induction raw a b with
  | case1 => exact ⟨fun e he => (by cases he), rfl, rfl⟩
  | case2 x a ih =>
    obtain ⟨p1, p2, p3⟩ := ih
    refine ⟨fun e he => ?_, by rw [tot_cons, p2]; simp; omega, by simp [run, p3]⟩
    rcases List.mem_cons.mp he with rfl | he
    · exact .inr (.inl ⟨rfl, rfl⟩)
    · exact p1 e he
  | case3 y b ih =>
    obtain ⟨p1, p2, p3⟩ := ih
    refine ⟨fun e he => ?_, by rw [tot_cons, p2]; simp, by simp [run, p3]⟩
    rcases List.mem_cons.mp he with rfl | he
    · exact .inr (.inr ⟨rfl, rfl⟩)
    · exact p1 e he
  | case4 x a b ih =>
    obtain ⟨p1, p2, p3⟩ := ih
    refine ⟨fun e he => ?_, by rw [tot_cons, p2]; simp; omega, by simp [run, p3]⟩
    rcases List.mem_cons.mp he with rfl | he
    · exact .inl ⟨rfl, rfl⟩
    · exact p1 e he
  | case5 x a y b h1 h2 ih =>
    obtain ⟨p1, p2, p3⟩ := ih
    refine ⟨fun e he => ?_, by rw [tot_cons, p2]; simp; omega, by simp [run, p3]⟩
    rcases List.mem_cons.mp he with rfl | he
    · exact .inr (.inl ⟨rfl, rfl⟩)
    · exact p1 e he
  | case6 x a y b h1 h2 ih =>
    obtain ⟨p1, p2, p3⟩ := ih
    refine ⟨fun e he => ?_, by rw [tot_cons, p2]; simp, by simp [run, p3]⟩
    rcases List.mem_cons.mp he with rfl | he
    · exact .inr (.inr ⟨rfl, rfl⟩)
    · exact p1 e he
/-- IT MAKES THE ONE THE OTHER. -/
theorem edits_fine (a b : List UInt8) : (∀ e ∈ edits a b, Fine e) ∧ tot (edits a b) = a.length ∧ run a (edits a b) = b := by
  obtain ⟨p1, p2, p3⟩ := raw_fine a b
  obtain ⟨q1, q2, q3⟩ := fold_keeps (raw a b) [] (fun f hf => (by cases hf)) p1
  have e : edits a b = (raw a b).foldl addE [] := rfl
  rw [e]
  refine ⟨q1, by rw [q2, p2]; simp [tot], by rw [q3, List.nil_append, p3]⟩
/-- changes so far, in a row up to a place -/
structure Sofar (old : List UInt8) (n : Nat) (s : St) (done : List UInt8) : Prop where
  chain : Chain s.at_ 0 s.out
  low : s.at_ ≤ n
  open_ : s.open_ = true → ∃ m c, s.out = m ++ [c] ∧ c.to_ = s.at_
  text : Q old 0 s.out s.at_ = done
theorem Chain.snoc {n : Nat} {c : Ch} : ∀ {t : List Ch} {a : Nat}, Chain c.from_ a t → c.from_ ≤ c.to_ → c.to_ ≤ n → Chain n a (t ++ [c])
  | [], a, h, h1, h2 => ⟨h, h1, h2⟩
  | d :: t, a, h, h1, h2 => ⟨h.1, h.2.1, Chain.snoc h.2.2 h1 h2⟩
theorem Chain.wider {n m : Nat} : ∀ {t : List Ch} {a : Nat}, Chain n a t → n ≤ m → Chain m a t
  | [], a, h, hm => Nat.le_trans h hm
  | d :: t, a, h, hm => ⟨h.1, h.2.1, Chain.wider h.2.2 hm⟩
theorem Chain.unsnoc {n : Nat} {c : Ch} : ∀ {t : List Ch} {a : Nat}, Chain n a (t ++ [c]) → Chain c.from_ a t ∧ c.from_ ≤ c.to_ ∧ c.to_ ≤ n
  | [], a, h => ⟨h.1, h.2.1, h.2.2⟩
  | d :: t, a, h => by
    obtain ⟨p, q⟩ := Chain.unsnoc h.2.2
    exact ⟨⟨h.1, h.2.1, p⟩, q⟩
theorem Q_more (old : List UInt8) (b c : Nat) : ∀ {t : List Ch} {a : Nat}, Chain b a t → b ≤ c → Q old a t c = Q old a t b ++ sub old b c
  | [], a, h, hc => (sub_append old a b c h hc).symm
  | d :: t, a, h, hc => by rw [Q, Q, Q_more old b c h.2.2 hc]; simp [List.append_assoc]
theorem sofar (old : List UInt8) : ∀ (l : List Ed) (s : St) (done : List UInt8), (∀ e ∈ l, Fine e) → Sofar old old.length s done → s.at_ + tot l = old.length →
    Chain old.length 0 (l.foldl stepC s).out ∧ Q old 0 (l.foldl stepC s).out old.length = done ++ run (old.drop s.at_) l
  | [], s, done, _, h, ht => by
    have : s.at_ = old.length := by simpa [tot] using ht
    refine ⟨by rw [← this]; exact h.chain, ?_⟩
    rw [List.foldl_nil, ← this, h.text]
    simp [run]
  | e :: l, s, done, hf, h, ht => by
    rw [tot_cons] at ht
    have he := hf e (by simp)
    have hfl : ∀ e ∈ l, Fine e := fun f hf' => hf f (by simp [hf'])
    rw [List.foldl_cons]
    have hdd : old.drop (s.at_ + e.n) = (old.drop s.at_).drop e.n := by rw [List.drop_drop]
    have hsub : sub old s.at_ (s.at_ + e.n) = (old.drop s.at_).take e.n := by unfold sub; congr 1; omega
    have key : ∀ (s' : St) (done' : List UInt8), stepC s e = s' → s'.at_ = s.at_ + e.n → Sofar old old.length s' done' → done' ++ run (old.drop s'.at_) l = done ++ run (old.drop s.at_) (e :: l) →
        Chain old.length 0 (l.foldl stepC (stepC s e)).out ∧ Q old 0 (l.foldl stepC (stepC s e)).out old.length = done ++ run (old.drop s.at_) (e :: l) := by
      intro s' done' h1 h2 h3 h4
      rw [h1]
      have := sofar old l s' done' hfl h3 (by omega)
      rw [h4] at this
      exact this
    by_cases hw : e.what = 1
    · refine key ⟨s.out, s.at_ + e.n, false⟩ (done ++ sub old s.at_ (s.at_ + e.n)) (by rw [stepC, if_pos hw]) rfl ⟨h.chain.wider (by simp), by show s.at_ + e.n ≤ old.length; omega, fun h => (by cases h), ?_⟩ ?_
      · show Q old 0 s.out (s.at_ + e.n) = _
        rw [Q_more old s.at_ _ h.chain (by omega), h.text]
      · rw [run, if_pos hw, hsub, List.append_assoc]
        show _ ++ (_ ++ run (old.drop (s.at_ + e.n)) l) = _
        rw [hdd]
    · have htk : e.text = [] ∧ e.what = 2 ∨ e.what = 3 ∧ e.n = 0 := by
        rcases he with ⟨h1, h2⟩ | ⟨h1, h2⟩ | ⟨h1, h2⟩
        · exact absurd h1 hw
        · exact .inl ⟨h2, h1⟩
        · exact .inr ⟨h1, h2⟩
      have hrun : e.text ++ run (old.drop (s.at_ + e.n)) l = run (old.drop s.at_) (e :: l) := by
        rw [run, if_neg hw]
        rcases htk with ⟨h1, h2⟩ | ⟨h1, h2⟩
        · rw [if_pos h2, h1, hdd]; rfl
        · rw [if_neg (by omega), h2, Nat.add_zero]
      cases ho : s.open_ with
      | true =>
        obtain ⟨m, c, hout, hto⟩ := h.open_ ho
        have hch := h.chain
        rw [hout] at hch
        obtain ⟨c1, c2, c3⟩ := hch.unsnoc
        refine key ⟨m ++ [⟨c.from_, s.at_ + e.n, c.text ++ e.text⟩], s.at_ + e.n, true⟩ (done ++ e.text) (by rw [stepC, if_neg hw, if_pos ho, hout, ext_snoc]) rfl ⟨?_, by show s.at_ + e.n ≤ old.length; omega, fun _ => ⟨m, _, rfl, rfl⟩, ?_⟩ ?_
        · exact Chain.snoc (c := ⟨c.from_, s.at_ + e.n, c.text ++ e.text⟩) c1 (by show c.from_ ≤ s.at_ + e.n; omega) (Nat.le_refl _)
        · show Q old 0 (m ++ [⟨c.from_, s.at_ + e.n, c.text ++ e.text⟩]) (s.at_ + e.n) = _
          have ht2 := h.text
          rw [hout, Q_snoc, hto, sub_self, List.append_nil] at ht2
          rw [Q_snoc, sub_self, List.append_nil]
          show Q old 0 m c.from_ ++ (c.text ++ e.text) = _
          rw [← List.append_assoc, ht2]
        · rw [List.append_assoc]
          show done ++ (e.text ++ run (old.drop (s.at_ + e.n)) l) = _
          rw [hrun]
      | false =>
        refine key ⟨s.out ++ [⟨s.at_, s.at_ + e.n, e.text⟩], s.at_ + e.n, true⟩ (done ++ e.text) (by rw [stepC, if_neg hw, if_neg (by rw [ho]; simp)]) rfl ⟨?_, by show s.at_ + e.n ≤ old.length; omega, fun _ => ⟨s.out, _, rfl, rfl⟩, ?_⟩ ?_
        · exact Chain.snoc (c := ⟨s.at_, s.at_ + e.n, e.text⟩) h.chain (by show s.at_ ≤ s.at_ + e.n; omega) (Nat.le_refl _)
        · show Q old 0 (s.out ++ [⟨s.at_, s.at_ + e.n, e.text⟩]) (s.at_ + e.n) = _
          rw [Q_snoc, sub_self, List.append_nil]
          show Q old 0 s.out s.at_ ++ e.text = _
          rw [h.text]
        · rw [List.append_assoc]
          show done ++ (e.text ++ run (old.drop (s.at_ + e.n)) l) = _
          rw [hrun]
/-- all changes are in a row, and make the one of the other -/
theorem chs_edits (old a : List UInt8) : Chain old.length 0 (chs (edits old a)) ∧ Q old 0 (chs (edits old a)) old.length = a := by
  obtain ⟨p1, p2, p3⟩ := edits_fine old a
  have := sofar old (edits old a) ⟨[], 0, false⟩ [] p1 ⟨Nat.le_refl _, Nat.zero_le _, fun h => (by cases h), by simp [Q, sub]⟩ (by rw [p2]; simp)
  refine ⟨this.1, ?_⟩
  rw [show chs (edits old a) = ((edits old a).foldl stepC ⟨[], 0, false⟩).out from rfl, this.2]
  simp [p3]
/-- nothing changed -/
theorem edits_self (a : List UInt8) : chs (edits a a) = [] := by
  have hraw : ∀ a : List UInt8, raw a a = List.replicate a.length ⟨1, 1, []⟩ := by
    intro a
    induction a with
    | nil => rw [raw]; rfl
    | cons x a ih => rw [raw, if_pos rfl, ih]; rfl
  have hk : ∀ (n : Nat) (l : List Ed), (∀ e ∈ l, e.what = 1) → ∀ e ∈ (List.replicate n (⟨1, 1, []⟩ : Ed)).foldl addE l, e.what = 1 := by
    intro n
    induction n with
    | zero => intro l h; exact h
    | succ n ih =>
      intro l h
      rw [List.replicate_succ, List.foldl_cons]
      refine ih _ fun e he => ?_
      rcases snoc_cases l with rfl | ⟨m, f, rfl⟩
      · rw [addE_nil] at he; rw [List.mem_singleton.mp he]
      · have hf := h f (by simp)
        rw [addE_same m f _ hf] at he
        rcases List.mem_append.mp he with he | he
        · exact h e (by simp [he])
        · rw [List.mem_singleton.mp he]; exact hf
  have hall : ∀ e ∈ edits a a, e.what = 1 := by
    have : edits a a = (raw a a).foldl addE [] := rfl
    rw [this, hraw]
    exact hk _ _ (fun e he => (by cases he))
  have hst : ∀ (l : List Ed) (s : St), (∀ e ∈ l, e.what = 1) → (l.foldl stepC s).out = s.out := by
    intro l
    induction l with
    | nil => intro s _; rfl
    | cons e l ih =>
      intro s h
      rw [List.foldl_cons, ih _ (fun f hf => h f (by simp [hf])), stepC, if_pos (h e (by simp))]
  exact hst _ _ hall
end Diff
end Go.Proofs.Ytmmkbjinkdgdbaa
