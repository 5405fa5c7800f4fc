/- Contract of find.grown. -/
import Derived.Test.YtkahceijhokmoaaAhoB
import Derived.Test.YtkahceijhokmoaaPushAt
import Derived.Deep.DeepCutAuto
import Derived.Deep.LoopGhost
import Derived.Deep.QuietTactic
import Derived.BigQuiet
import Derived.Deep.RegionLaw
namespace Go.Proofs.Ytkahceijhokmoaa
open Go.RowKit
set_option linter.unusedVariables false
set_option linter.unusedSimpArgs false
/-- the patterns that came in -/
def PsAt (w : World) (a : Option Addr) (m : Nat) (ps : List Aho.Wd) : Prop := ps.length = m ∧ ∀ k, k < m → ∃ x : Addr, a = some x ∧ x.block < w.heap.size ∧ w.cell? (x.add k) = some (.string (bstr (ps.getD k [])))
theorem PsAt.below {w w' : World} {a : Option Addr} {m : Nat} {ps : List Aho.Wd} (h : PsAt w a m ps) (hb : Below w.heap.size w w') : PsAt w' a m ps := by
  refine ⟨h.1, fun k hk => ?_⟩
  obtain ⟨x, h1, h2, h3⟩ := h.2 k hk
  refine ⟨x, h1, Nat.lt_of_lt_of_le h2 hb.size, ?_⟩
  rw [World.cell?_of_block (w := w) (w' := w') (a := x.add k)]
  · exact h3
  · rw [Addr.add_block]; exact hb.block _ h2
theorem grown_drew' {a w : World} {row : Option Nat} (h : a.grownBy w row) : a.grownBy w.drew row := ⟨h.os, h.tape, h.output, h.size, h.block⟩
theorem infoNode : (Try.prog.info? 53).map (fun i => (i.zero, i.size, i.bytes)) = some (some (.agg #[.map none, .int .i64 0, .slice none 0 0]), 3, 40) := by kernel_rfl
theorem own_len (ps : List Aho.Wd) (x : Aho.Wd) : (Aho.own ps x).length ≤ ps.length := by
  unfold Aho.own
  refine Nat.le_trans (List.length_filter_le _ _) ?_
  rw [List.length_range]; exact Nat.le_refl _
theorem ends_len (ps : List Aho.Wd) : ∀ x : Aho.Wd, (Aho.endsW ps x).length ≤ ps.length * (x.length + 1)
  | [] => by rw [Aho.endsW]; have := own_len ps []; simpa using this
  | c :: l => by
    rw [Aho.endsW, List.length_append, List.length_cons, Nat.mul_succ]
    have h1 := own_len ps (c :: l)
    have h2 := ends_len ps l
    omega
theorem word_short {N : List Aho.Wd} (h : Aho.Tree N) {x : Aho.Wd} (hx : x ∈ N) : x.length + 1 ≤ N.length := by
  have hmem : ∀ k, k ≤ x.length → x.take (x.length - k) ∈ N := by
    intro k
    induction k with
    | zero => intro _; rw [Nat.sub_zero, List.take_length]; exact hx
    | succ k ih =>
      intro hk
      have h1 := ih (by omega)
      have e : x.take (x.length - k) = x.take (x.length - (k + 1)) ++ [x[x.length - (k + 1)]'(by omega)] := by
        rw [show x.length - k = (x.length - (k + 1)) + 1 by omega]
        exact List.take_succ_eq_append_getElem (by omega)
      rw [e] at h1
      exact h.cl _ _ h1
  have h2 := Aho.nd_len ((List.range (x.length + 1)).map fun k => x.take k) N (by
    rw [List.Nodup, List.pairwise_map]
    refine List.Pairwise.imp_of_mem ?_ (List.nodup_range (n := x.length + 1))
    intro a b ha hb hne e
    rw [List.mem_range] at ha hb
    have := congrArg List.length e
    rw [List.length_take, List.length_take] at this
    omega) (by
    intro y hy
    obtain ⟨k, hk, rfl⟩ := List.mem_map.1 hy
    rw [List.mem_range] at hk
    have := hmem (x.length - k) (by omega)
    rwa [show x.length - (x.length - k) = k by omega] at this)
  simpa using h2
theorem kids_len (N : List Aho.Wd) (x : Aho.Wd) (c : Nat) : (Aho.kids N x c).length ≤ c := by
  unfold Aho.kids
  rw [List.length_map]
  refine Nat.le_trans (List.length_filter_le _ _) ?_
  rw [List.length_range]; exact Nat.le_refl _
/-- the tree that grown makes -/
def GrownOut (B : Nat) (w : World) (ps : List Aho.Wd) (e : Ending) (w' : World) : Prop := ∃ (ga cap n q : Nat) (F : Nat → Nat → Option Nat) (T : List Nd) (N : List Aho.Wd), e = .returned (.slice (some ⟨ga, 0, none⟩) n cap) ∧ n ≤ 700 ∧
  PhB w w' B ga cap n q F T N ps (fun _ => true) (fun _ => true)
def dK (d : Aho.Wd → Bool) (K : List Aho.Wd) : Aho.Wd → Bool := fun y => d y || K.contains y
theorem dK_snoc (d : Aho.Wd → Bool) (K : List Aho.Wd) (y x : Aho.Wd) : (dK d K x || decide (x = y)) = dK d (K ++ [y]) x := by
  unfold dK
  rw [Bool.or_assoc]
  congr 1
  rw [Bool.eq_iff_iff]
  simp
theorem dK_nil (d : Aho.Wd → Bool) (x : Aho.Wd) : d x = dK d [] x := by unfold dK; simp
set_option maxRecDepth 100000 in
set_option maxHeartbeats 4000000 in
theorem grown_any (w : World) (a : Option Addr) (m cap0 : Nat) (ps : List Aho.Wd) (hps : PsAt w a m ps) (hm : m ≤ 20) (hpl : ∀ p ∈ ps, p ≠ [] ∧ p.length ≤ 30) :
    Calls Try.prog 16 #[.slice a m cap0] w fun e w' => GrownOut w.heap.size w ps e w' := by
  have hpk : ∀ k, k < m → (ps.getD k []).length ≤ 30 ∧ ps.getD k [] ≠ [] := by
    intro k hk
    have hk2 : k < ps.length := by rw [hps.1]; exact hk
    have := hpl (ps.getD k []) (by rw [List.getD_eq_getElem?_getD, List.getElem?_eq_getElem hk2]; exact List.getElem_mem hk2)
    exact ⟨this.2, this.1⟩
  have HPS := Lib.hid hps; have HPK := Lib.hid hpk; have HPL := Lib.hid hpl
  obtain ⟨B, hB⟩ : ∃ B, B = w.heap.size := ⟨_, rfl⟩
  have HEB := Lib.hid hB
  have hbw := Below.refl w.heap.size w
  rw [← hB] at hbw
  have h0t : TreeM ((w.alloc (.map #[] 0)).alloc (.cells #[.map (some w.heap.size), .int .i64 0, .slice none 0 0] 53)) B (w.heap.size + 1) 1 1 0 (fun _ _ => none) [⟨w.heap.size, 0, none, [], 0⟩] := by
    refine ⟨rfl, ?_, ?_, ?_, ?_, ?_⟩
    · exact Owns.of_row rfl _ (w.heap.size + 1) #[.map (some w.heap.size), .int .i64 0, .slice none 0 0] (by omega) (by have := heap_alloc_new (w.alloc (.map #[] 0)) (.cells #[.map (some w.heap.size), .int .i64 0, .slice none 0 0] 53); rw [World.size_alloc] at this; exact this) rfl (Nat.le_refl _) (by unfold maxLen; omega) rfl
    · intro i hi
      obtain rfl : i = 0 := by omega
      exact ⟨(MapB.made (P := Try.prog) (k := 5) (e := 3) w).keep (Below.heap_alloc _ _ _ (by simp)), Nat.le_of_eq hB⟩
    · intro i j hi hj hne; omega
    · intro i hi
      obtain rfl : i = 0 := by omega
      exact Owns.nil _ _ _ _
    · intro i j x y hi hj hne; omega
  have h0 : PhA w ((w.alloc (.map #[] 0)).alloc (.cells #[.map (some w.heap.size), .int .i64 0, .slice none 0 0] 53)) B (w.heap.size + 1) 1 1 0 (fun _ _ => none) [⟨w.heap.size, 0, none, [], 0⟩] [[]] ps 0 := by
    refine ⟨h0t, Aho.tree_one, rfl, ?_, ?_, ?_, ?_, by omega, Nat.zero_le _, ?_, ?_⟩
    · intro x hx c hc
      rw [List.mem_singleton.1 hx]
      unfold Aho.child
      rw [if_neg (by simp)]
    · intro i hi
      obtain rfl : i = 0 := by omega
      rfl
    · intro x hx
      rw [List.mem_singleton.1 hx]
      rfl
    · intro j hj; omega
    · exact (hbw.alloc (by omega) _).alloc (by simp; omega) _
    · simp; omega
  have H0 := Lib.hid h0
  clear hps hpk hpl hB hbw h0t h0
  have hmk : ∀ V : World, (Instr.makeMap 51 none).run Try.prog V = .ok (.map (some V.heap.size)) (V.alloc (.map #[] 0)) := fun V => by kernel_rfl
  go_enter Try.func16, Try.ntmps16
  go_wp2_with fail
  go_loopw [3, 20] (fun v3 v20 wr => ∃ (k ga cap n q : Nat) (F : Nat → Nat → Option Nat) (T : List Nd) (N : List Aho.Wd), k ≤ m ∧ n ≤ 1 + 30 * k ∧ v20 = .int .i64 k ∧ v3 = .slice (some ⟨ga, 0, none⟩) n cap ∧ Hid (PhA w wr B ga cap n q F T N ps k)) (fun _ v20 _ => m - (intOf v20).toNat)
  case atStart => exact ⟨0, w.heap.size + 1, 1, 1, 0, _, _, _, by omega, by omega, rfl, rfl, H0⟩
  case round =>
    obtain ⟨k, ga, cap, n, q, F, T, N, hk, hn6, rfl, rfl, HA⟩ := hrel
    by_cases hlt : k < m
    · have hltI : (k : Int) < (m : Int) := by omega
      have hltN : decide (k < m) = true := decide_eq_true hlt
      obtain ⟨x, rfl, hxb, hxc⟩ := (HPS.out.below (HEB.out ▸ HA.out.bel)).2 k hlt
      obtain ⟨hp30, hpne⟩ := HPK.out k hlt
      obtain ⟨p, hp⟩ : ∃ p, p = ps.getD k [] := ⟨_, rfl⟩
      rw [← hp] at hxc hp30 hpne
      have HP := Lib.hid hp
      clear hp hpne
      go_wp2_with fail
      go_loopw [3, 6, 27] (fun v3 v6 v27 wr => ∃ (i ga cap n q at_ : Nat) (F : Nat → Nat → Option Nat) (T : List Nd) (N : List Aho.Wd), i ≤ p.length ∧ n ≤ 1 + 30 * k + i ∧ v27 = .int .i64 i ∧ v6 = .int .i64 at_ ∧ v3 = .slice (some ⟨ga, 0, none⟩) n cap ∧ Hid (PhA w wr B ga cap n q F T N ps k) ∧ Hid (at_ = Aho.ix N (p.take i) ∧ p.take i ∈ N)) (fun _ _ v27 _ => p.length - (intOf v27).toNat)
      case atStart =>
        refine ⟨0, ga, cap, n, q, 0, F, T, N, by omega, by omega, rfl, rfl, rfl, HA, Lib.hid ⟨?_, ?_⟩⟩
        · rw [List.take_zero, Aho.ix_root HA.out.tr]
        · rw [List.take_zero]; exact HA.out.tr.nil
      case round =>
        clear HA hn6
        obtain ⟨i, ga, cap, n, q, at_, F, T, N, hi, hn6, rfl, rfl, rfl, HA, HAT⟩ := hrel
        by_cases hil : i < p.length
        · have hilI : (i : Int) < (p.length : Int) := by omega
          have hilN : decide (i < p.length) = true := decide_eq_true hil
          have hcx : ∀ h : i < (bstr p).size, ((bstr p)[i]'h).toNat = (p.getD i 0).toNat := fun h => by
            have e : (bstr p)[i]'h = p.getD i 0 := by
              rw [List.getD_eq_getElem?_getD, List.getElem?_eq_getElem hil]; rfl
            rw [e]
          have hc8 : (p.getD i 0).toNat < 256 := UInt8.toNat_lt _
          have htk : p.take (i + 1) = p.take i ++ [UInt8.ofNat (p.getD i 0).toNat] := by
            rw [List.take_succ_eq_append_getElem hil, UInt8.ofNat_toNat, List.getD_eq_getElem?_getD, List.getElem?_eq_getElem hil]; rfl
          obtain ⟨hat, hzN⟩ := HAT.out
          generalize (p.getD i 0).toNat = c at *
          have hatn : at_ < n := by rw [hat, ← HA.out.hn]; exact Aho.ix_lt hzN
          have hatI : (at_ : Int) < (n : Int) := by omega
          have cm := HA.out.tm.cm at_ hatn
          have hlook : ∀ j, (Instr.lookup 51 (.map (some (T.getD at_ dn).m)) (.int .u8 (c : Int)) true).run Try.prog (wr.drewN j) = .ok (.tuple #[.int .i64 (((F at_ c).getD 0 : Nat) : Int), .bool (F at_ c).isSome]) (wr.drewN j) := fun j => ((HA.out.tm.mp at_ hatn).1.drewN j).look (t := 51) Try.underlying5 Try.underlying51 Try.underlying3 (zeroI _) c hc8
          have hfi : F at_ c = Aho.child N (p.take i) (UInt8.ofNat c) := by rw [hat]; exact HA.out.mf _ hzN c hc8
          rw [hfi] at hlook
          unfold Aho.child at hlook
          rw [← htk] at hlook
          have HTK := Lib.hid htk
          by_cases hy : p.take (i + 1) ∈ N
          · rw [if_pos hy] at hlook
            simp only [Option.getD_some, Option.isSome_some] at hlook
            generalize (T.getD at_ dn).m = mb at *
            obtain ⟨nx, hnx⟩ : ∃ nx, nx = Aho.ix N (p.take (i + 1)) := ⟨_, rfl⟩
            rw [← hnx] at hlook
            have HNX : Hid (nx = Aho.ix N (p.take (i + 1)) ∧ p.take (i + 1) ∈ N) := Lib.hid ⟨hnx, hy⟩
            clear hnx
            have hl0 := hlook 0
            clear hy hfi htk hat hzN
            go_wp2_with fail
            go_quiet (fail)
            have HA2 := Lib.hid (HA.out.drewN nq)
            generalize wr.drewN nq = wq at *
            clear cm hlook hl0
            go_wp2_with fail
            go_roundw
            case rel => exact ⟨i + 1, ga, cap, n, q, _, F, T, N, by omega, by omega, by go_num, rfl, rfl, HA2, HNX⟩
            case measure => simp [intOf]; omega
          · rw [if_neg hy] at hlook
            simp only [Option.getD_none, Option.isSome_none] at hlook
            have hl0 := hlook 0
            have HY := Lib.hid hy
            have HAZ := Lib.hid (show at_ = Aho.ix N (p.take i) ∧ p.take i ∈ N from ⟨hat, hzN⟩)
            obtain ⟨mb, hmb⟩ : ∃ mb, mb = (T.getD at_ dn).m := ⟨_, rfl⟩
            have HMB := Lib.hid hmb
            rw [← hmb] at cm hlook hl0
            clear hy hfi htk hat hzN hmb
            go_wp2_with fail
            go_quiet (fail)
            have HA2 := Lib.hid (HA.out.drewN nq)
            generalize wr.drewN nq = wq at *
            clear cm hlook hl0
            have hml : n + 1 ≤ maxLen := by unfold maxLen; omega
            have hby : (n + 1) * 40 ≤ 140737488355328 := by omega
            have hbs : B ≤ (wq.alloc (.map #[] 0)).heap.size := by rw [World.size_alloc]; have := HA2.out.hB; omega
            have ho := HA2.out.tm.own.alloc (.map #[] 0)
            have hws : wq.heap.size + 1 = (wq.alloc (.map #[] 0)).heap.size := by rw [World.size_alloc]
            have HWS := Lib.hid hws
            clear hws
            go_wp2_with (with_reducible refine wpList_pushW _ (wq.heap.size + 1) HWS.out rfl _ _ 48 rfl B 53 (.agg #[.map none, .int .i64 0, .slice none 0 0]) 3 40 Try.underlying48 infoNode rfl (by decide) (some ⟨ga, 0, none⟩) n cap _ rfl ho [.map (some wq.heap.size), .int .i64 0, .slice none 0 0] rfl (by simp [Value.oneCell']) rfl hml hby hbs ?_; intro a4 cap' w4 hown4 hgrow4 hloc4 hsz4 hex4)
            obtain ⟨g4, rfl⟩ := hex4
            have h4 := HA2.out.tm.addN hown4 hgrow4 HA2.out.hB
            have hold : (T ++ [(⟨wq.heap.size, 0, none, [], 0⟩ : Nd)]).getD at_ dn = T.getD at_ dn := by
              rw [List.getD_eq_getElem?_getD, List.getElem?_append_left (by rw [HA2.out.tm.len]; exact hatn), List.getD_eq_getElem?_getD]
            have cm4 := h4.cm at_ (by omega)
            have mp4 := (h4.mp at_ (by omega)).1
            rw [hold, ← HMB.out] at cm4 mp4
            rw [show addF F n at_ = F at_ from if_neg (by omega)] at mp4
            have hat4 : (at_ : Int) < (n : Int) + 1 := by omega
            have hat5 : at_ < n + 1 := by omega
            have H4 := Lib.hid mp4; have HO4 := Lib.hid hown4; have HG4 := Lib.hid hgrow4
            have hqm : q < maxLen := by unfold maxLen; have := HA2.out.hq; omega
            clear h4 hold mp4 hown4 hgrow4 hloc4 hsz4 ho hbs
            go_still_tail 9, (by kernel_rfl)
            change wpList _ _ _ _ _ w4.drew
            refine wpList_storeB w4.drew rfl _ _ _ 51 rfl 5 3 Try.underlying51 Try.underlying5 Try.underlying3 mb q (F at_) rfl H4.out.drew hqm c n rfl rfl hc8 (by omega) ?_
            intro w5 hmb5 hgr5
            have HNX : Hid (PhA w w5 B g4 cap' (n + 1) (q + 1) (updF (addF F n) at_ c n) (T ++ [⟨wq.heap.size, 0, none, [], 0⟩]) (N ++ [p.take (i + 1)]) ps k) := by
              have hat := HAZ.out.1
              have hmb := HMB.out
              rw [hat] at hmb hmb5 ⊢
              rw [HTK.out]
              exact Lib.hid (HA2.out.new (W4 := w4.drew) HAZ.out.2 hc8 (by rw [← HTK.out]; exact HY.out) HO4.out.drew (grown_drew' HG4.out) (hmb ▸ hmb5) (hmb ▸ hgr5))
            have HN2 : Hid (n = Aho.ix (N ++ [p.take (i + 1)]) (p.take (i + 1)) ∧ p.take (i + 1) ∈ N ++ [p.take (i + 1)]) := Lib.hid ⟨by rw [Aho.ix_new HY.out, HA2.out.hn], by simp⟩
            clear hmb5 hgr5 cm4
            go_wp2_with fail
            go_roundw
            case rel => exact ⟨i + 1, g4, cap', n + 1, q + 1, n, _, _, _, by omega, by omega, by go_num, rfl, rfl, HNX, HN2⟩
            case measure => simp [intOf]; omega
        · obtain rfl : i = p.length := by omega
          have hd9 : decide ((p.length : Int) < (p.length : Int)) = false := by simp
          obtain ⟨hat, hzN⟩ := HAT.out
          rw [List.take_length] at hat hzN
          have hatn : at_ < n := by rw [hat, ← HA.out.hn]; exact Aho.ix_lt hzN
          have hatI : (at_ : Int) < (n : Int) := by omega
          have ce := HA.out.tm.ce at_ hatn
          have hen := HA.out.tm.en at_ hatn
          have hel : (T.getD at_ dn).e.length ≤ 20 := by
            rw [hat, HA.out.en p hzN]
            unfold Aho.own
            refine Nat.le_trans (List.length_filter_le _ _) ?_
            rw [List.length_range, List.length_take]
            omega
          have HAZ := Lib.hid (show at_ = Aho.ix N p ∧ p ∈ N from ⟨hat, hzN⟩)
          obtain ⟨a0, ha0⟩ : ∃ a0, a0 = (T.getD at_ dn).a := ⟨_, rfl⟩
          obtain ⟨c0, hc0⟩ : ∃ c0, c0 = (T.getD at_ dn).c := ⟨_, rfl⟩
          obtain ⟨e0, he0⟩ : ∃ e0, e0 = (T.getD at_ dn).e := ⟨_, rfl⟩
          obtain ⟨n0, hn0⟩ : ∃ n0, n0 = e0.length := ⟨_, rfl⟩
          rw [← ha0, ← hc0, ← he0, ← hn0] at ce hen
          rw [← he0, ← hn0] at hel
          have hfin : ∀ (a4 : Option Addr) (cap' : Nat) (w4 : World), Owns w4 B 3 1 a4 (n0 + 1) cap' (ivals (nints e0) ++ [.int .i64 (k : Nat)]) → wr.grownBy w4 (blk a0) → (∀ x, a4 = some x → a0 = some x ∨ wr.heap.size < x.block) →
              (∃ v, w4.cell? ⟨ga, at_ * 3 + 2, none⟩ = some v) ∧ w4.frozen? ⟨ga, at_ * 3 + 2, none⟩ = false ∧ ∃ T', PhA w (w4.setCell ⟨ga, at_ * 3 + 2, none⟩ (.slice a4 (n0 + 1) cap')) B ga cap n q F T' N ps (k + 1) := by
            intro a4 cap' w4 h1 h2 h3
            subst hn0 he0 hc0 ha0
            obtain ⟨hrow, hPh⟩ := HA.out.ended (by rw [HPS.out.1]; exact hlt) HP.out.symm hzN hat h1 h2 (fun x hx => (h3 x hx).imp_right Nat.le_of_lt)
            have hl : at_ * 3 + 2 < (treeCells T).length := by rw [treeCells_length, HA.out.tm.len]; omega
            exact ⟨⟨_, hrow.cell0 _ hl⟩, hrow.frozen0 _ hl, _, hPh⟩
          have HFIN := Lib.hid hfin
          have HEN := Lib.hid hen
          have hml : n0 + 1 ≤ maxLen := by unfold maxLen; omega
          have hby : (n0 + 1) * 8 ≤ 140737488355328 := by omega
          have hBw := HA.out.hB
          have hn7 : n ≤ 1 + 30 * (k + 1) := by omega
          clear hat hzN ha0 hc0 he0 hn0 hen hfin
          go_wp2_with (with_reducible refine wpList_push _ rfl _ _ 32 rfl B 3 (.int .i64 0) 1 8 Try.underlying32 infoInt rfl (by decide) a0 n0 c0 _ rfl HEN.out [.int .i64 (k : Nat)] rfl (by simp [Value.oneCell']) rfl hml hby hBw ?_; intro a4 cap' w4 hown4 hgrow4 hloc4 hsz4 hex4; obtain ⟨⟨v4, k4⟩, kf4, T', hPh⟩ := HFIN.out a4 cap' w4 hown4 hgrow4 hloc4; have HPH := Lib.hid hPh; clear hown4 hgrow4 hloc4 hsz4 hex4 hPh)
          go_roundw
          case rel => exact ⟨k + 1, ga, cap, n, q, F, T', N, by omega, hn7, by go_num, rfl, HPH⟩
          case measure => simp [intOf]; omega
    · obtain rfl : k = m := by omega
      have hd9 : decide ((k : Int) < (k : Int)) = false := by simp
      have hmm : k = ps.length := HPS.out.1.symm
      have hpb : PhB w wr B ga cap n q F T N ps (fun x => decide (x = [])) (fun x => decide (x = [])) := (hmm ▸ HA.out).toB (fun p hp => (HPL.out p hp).1)
      have hpq := PhQ.start hpb.tm hpb.hB
      have hbf := Aho.Bfs.start hpb.tr
      have hpb2 := hpb.alloc (.cells #[.int .i64 0] 3)
      have hn7 : n ≤ 700 := by omega
      have HNN : Hid (N.length = n) := Lib.hid hpb.hn
      rw [show [0] = ([[]] : List Aho.Wd).map (Aho.ix N) by simp [Aho.ix_root hpb.tr]] at hpq
      have HPB := Lib.hid hpb2; have HPQ := Lib.hid hpq; have HBF := Lib.hid hbf
      have HQW : Hid (∃ z, z = wr.heap.size) := Lib.hid ⟨_, rfl⟩
      clear hmm hpb hpq hbf hpb2 HA hn6 hlt
      go_wp2_with fail
      obtain ⟨gq0, hgq⟩ := HQW.out
      rw [← hgq] at HPQ ⊢
      clear hgq
      generalize wr.alloc (.cells #[.int .i64 0] 3) = w0 at *
      go_loopg [10] n (fun gf v10 wr => ∃ (gq off nq cq : Nat) (T : List Nd) (P Q : List Aho.Wd) (d : Aho.Wd → Bool), v10 = .slice (some ⟨gq, off, none⟩) nq cq ∧ n ≤ P.length + gf ∧ Hid (PhB w wr B ga cap n q F T N ps d d) ∧ Hid (PhQ wr B ga n T gq off nq cq (Q.map (Aho.ix N))) ∧ Hid (Aho.Bfs N d P Q))
      case atStart => exact ⟨gq0, 0, 1, 1, T, [], [[]], _, rfl, by simp, HPB, HPQ, HBF⟩
      case round =>
        clear HPB HPQ HBF
        obtain ⟨gq, off, nq, cq, T, P, Q, d, rfl, hgf, HPB, HPQ, HBF⟩ := hrel
        have hql := HPQ.out.len
        rw [List.length_map] at hql
        cases Q with
        | nil =>
          have hq0 : nq = 0 := hql
          subst hq0
          have HEND : Hid (PhB w wr w.heap.size ga cap n q F T N ps (fun _ => true) (fun _ => true)) := by
            have h := HPB.out
            have hall := fun x hx => HBF.out.all x.length x hx rfl
            rw [HEB.out] at h
            exact Lib.hid ⟨h.tm, h.tr, h.hn, h.mf, fun x hx => by rw [h.fl x hx]; unfold Aho.failOf; rw [if_pos (hall x hx), if_pos rfl], fun x hx => by rw [h.en x hx]; unfold Aho.endsOf; rw [if_pos (hall x hx), if_pos rfl], h.all, h.bel, h.hB⟩
          clear hql
          go_wp2_with fail
          go_ret
          exact ⟨ga, cap, n, q, F, T, N, rfl, hn7, HEND.out⟩
        | cons x Q =>
          have hxN : x ∈ N := HBF.out.sub x (by simp)
          have hqh := HPQ.out.head
          obtain ⟨off2, hoff2, hrest⟩ := HPQ.out.rest
          have hnq1 : (1 : Int) ≤ (nq : Int) := by simp at hql; omega
          have hnq0 : (0 : Int) < (nq : Int) := by omega
          have hnqN : 0 < nq := by omega
          have hcq : nq ≤ cq := HPQ.out.own.le
          obtain ⟨ai, hai⟩ : ∃ ai, ai = Aho.ix N x := ⟨_, rfl⟩
          rw [← hai] at hqh
          have HAI := Lib.hid hai; have HXN := Lib.hid hxN; have HRE := Lib.hid hrest; have HQL := Lib.hid hql
          have hfew := HBF.out.few
          rw [HNN.out] at hfew
          simp only [List.length_cons] at hfew
          clear hai hxN hrest hql
          go_wp2_with fail
          go_loopw [10, 84] (fun v10 v84 wr => ∃ (c gq off nq cq : Nat) (T : List Nd), c ≤ 256 ∧ v84 = .int .i64 c ∧ v10 = .slice (some ⟨gq, off, none⟩) nq cq ∧ Hid (PhB w wr B ga cap n q F T N ps (dK d (Aho.kids N x c)) (dK d (Aho.kids N x c))) ∧ Hid (PhQ wr B ga n T gq off nq cq ((Q ++ Aho.kids N x c).map (Aho.ix N)))) (fun _ v84 _ => 256 - (intOf v84).toNat)
          case atStart =>
            refine ⟨0, gq, off2, nq - 1, cq - 1, T, by omega, rfl, rfl, Lib.hid (HPB.out.congr (dK_nil d) (dK_nil d)), Lib.hid ?_⟩
            rw [Aho.kids_zero, List.append_nil]
            exact HRE.out
          case round =>
            clear HPB HPQ HRE hoff2 hnq1 hnq0 hnqN hcq hqh HQL
            obtain ⟨c, gq, off, nq, cq, T, hc, rfl, rfl, HPB, HPQ⟩ := hrel
            by_cases hlt : c < 256
            · have hltI : (c : Int) < 256 := by omega
              have hcu : IntKind.u8.wrap (c : Int) = (c : Int) := by rw [IntKind.wrap_u8]; omega
              have hain : ai < n := by rw [HAI.out, ← HNN.out]; exact Aho.ix_lt HXN.out
              have hainI : (ai : Int) < (n : Int) := by omega
              have cm := HPB.out.tm.cm ai hain
              have hlook := (HPB.out.tm.mp ai hain).1.look (t := 51) Try.underlying5 Try.underlying51 Try.underlying3 (zeroI _) c hlt
              have hfi : F ai c = Aho.child N x (UInt8.ofNat c) := by rw [HAI.out]; exact HPB.out.mf _ HXN.out c hlt
              rw [hfi] at hlook
              unfold Aho.child at hlook
              obtain ⟨y, hy⟩ : ∃ y, y = x ++ [UInt8.ofNat c] := ⟨_, rfl⟩
              rw [← hy] at hlook
              have hnq7 : nq ≤ 1000 := by
                have h1 := HPQ.out.len
                have h2 := kids_len N x c
                rw [List.length_map, List.length_append] at h1
                omega
              have hnm : nq + 1 ≤ maxLen := by unfold maxLen; omega
              have hnb : (nq + 1) * 8 ≤ 140737488355328 := by omega
              by_cases hyN : y ∈ N
              · rw [if_pos hyN] at hlook
                simp only [Option.getD_some, Option.isSome_some] at hlook
                obtain ⟨ni, hni⟩ : ∃ ni, ni = Aho.ix N y := ⟨_, rfl⟩
                rw [← hni] at hlook
                obtain ⟨mb, hmb⟩ : ∃ mb, mb = (T.getD ai dn).m := ⟨_, rfl⟩
                rw [← hmb] at cm hlook
                have HY := Lib.hid hy; have HYN := Lib.hid hyN; have HNI := Lib.hid hni
                have hnin : ni < n := by rw [hni, ← HNN.out]; exact Aho.ix_lt hyN
                have hninI : (ni : Int) < (n : Int) := by omega
                by_cases hx0 : x = []
                · have hai0 : ai = 0 := by rw [HAI.out, hx0, Aho.ix_root HPB.out.tr]
                  have b0 : decide ((0 : Int) < (ai : Int)) = false := decide_eq_false (by omega)
                  have b0n : decide (0 < ai) = false := decide_eq_false (by omega)
                  have HX0 := Lib.hid hx0
                  clear hfi hy hyN hni hmb hx0 hai0
                  go_wp2_with fail
                  have HP1 : Hid (PhB w wr B ga cap n q F T N ps (fun z => dK d (Aho.kids N x c) z || decide (z = y)) (dK d (Aho.kids N x c))) := by
                    refine Lib.hid (HPB.out.freeF ?_ ?_)
                    · unfold dK
                      rw [HY.out, HBF.out.fresh _ (by rw [← HY.out]; exact HYN.out), Bool.false_or, Bool.eq_false_iff]
                      intro e
                      rw [List.contains_iff_mem, Aho.mem_kids] at e
                      obtain ⟨b, hb1, _, hb3⟩ := e
                      have := Aho.ofNat_inj hlt (by omega) (Aho.snoc_inj hb3).2
                      omega
                    · rw [HY.out, HX0.out, List.nil_append, Aho.lps_one, Aho.ix_root HPB.out.tr]
                  have HQ1 := HPQ
                  clear HPB HPQ cm hlook b0 b0n hcu HX0
                  generalize wr = wt at *
                  generalize T = T1 at *
                  have hyi := HNI.out
                  obtain ⟨zz, hzz⟩ : ∃ zz, zz = Aho.lps N y := ⟨_, rfl⟩
                  have hzN : zz ∈ N := by rw [hzz]; exact Aho.lps_mem HP1.out.tr.nil y
                  obtain ⟨zi, hzi⟩ : ∃ zi, zi = Aho.ix N zz := ⟨_, rfl⟩
                  have hzin : zi < n := by rw [hzi, ← HNN.out]; exact Aho.ix_lt hzN
                  have hziI : (zi : Int) < (n : Int) := by omega
                  have hyne : y ≠ [] := by rw [HY.out]; simp
                  have hylen : y.length = x.length + 1 := by rw [HY.out]; simp
                  have hzlen : zz.length < y.length := by rw [hzz]; exact Aho.lps_len N y hyne
                  have hdz : dK d (Aho.kids N x c) zz = true := by
                    unfold dK
                    rw [HBF.out.low' zz hzN (by omega)]; rfl
                  have hdy : dK d (Aho.kids N x c) y = false := by
                    unfold dK
                    rw [HY.out, HBF.out.fresh _ (by rw [← HY.out]; exact HYN.out), Bool.false_or, Bool.eq_false_iff]
                    intro e
                    rw [List.contains_iff_mem, Aho.mem_kids] at e
                    obtain ⟨b, hb1, _, hb3⟩ := e
                    have := Aho.ofNat_inj hlt (by omega) (Aho.snoc_inj hb3).2
                    omega
                  have hfy : (T1.getD ni dn).f = zi := by
                    rw [hyi, HP1.out.fl y HYN.out, hzi, hzz]
                    unfold Aho.failOf
                    rw [if_pos (by simp)]
                  have hey : (T1.getD ni dn).e = Aho.own ps y := by
                    rw [hyi, HP1.out.en y HYN.out]
                    unfold Aho.endsOf
                    rw [hdy, if_neg (by simp)]
                  have hez : (T1.getD zi dn).e = Aho.endsW ps zz := by
                    rw [hzi, HP1.out.en zz hzN]
                    unfold Aho.endsOf
                    rw [hdz, if_pos rfl]
                  have hew : Aho.endsW ps y = Aho.own ps y ++ Aho.endsW ps zz := by rw [hzz]; exact Aho.ends_lps HP1.out.all (fun p hp => (HPL.out p hp).1) y
                  have ceN := HP1.out.tm.ce ni hnin
                  have cfN := HP1.out.tm.cf ni hnin
                  have ceZ := HP1.out.tm.ce zi hzin
                  have enN := HP1.out.tm.en ni hnin
                  have enZ := HP1.out.tm.en zi hzin
                  rw [hfy] at cfN
                  rw [hey] at ceN enN
                  rw [hez] at ceZ enZ
                  obtain ⟨eN, heN⟩ : ∃ eN, eN = Aho.own ps y := ⟨_, rfl⟩
                  obtain ⟨eZ, heZ⟩ : ∃ eZ, eZ = Aho.endsW ps zz := ⟨_, rfl⟩
                  rw [← heN] at ceN enN
                  rw [← heZ] at ceZ enZ
                  rw [← heN, ← heZ] at hew
                  have hln : eN.length ≤ 20 := by
                    rw [heN]; unfold Aho.own
                    refine Nat.le_trans (List.length_filter_le _ _) ?_
                    rw [List.length_range, HPS.out.1]; omega
                  have hlz : eZ.length ≤ 14020 := by
                    rw [heZ]
                    have h1 := ends_len ps zz
                    have h2 := word_short HP1.out.tr hzN
                    have h3 : ps.length * (zz.length + 1) ≤ 20 * 701 := Nat.mul_le_mul (by rw [HPS.out.1]; exact hm) (by have := HNN.out; omega)
                    omega
                  obtain ⟨aN, haN⟩ : ∃ aN, aN = (T1.getD ni dn).a := ⟨_, rfl⟩
                  obtain ⟨cN, hcN⟩ : ∃ cN, cN = (T1.getD ni dn).c := ⟨_, rfl⟩
                  obtain ⟨aZ, haZ⟩ : ∃ aZ, aZ = (T1.getD zi dn).a := ⟨_, rfl⟩
                  obtain ⟨cZ, hcZ⟩ : ∃ cZ, cZ = (T1.getD zi dn).c := ⟨_, rfl⟩
                  rw [← haN, ← hcN] at ceN enN
                  rw [← haZ, ← hcZ] at ceZ enZ
                  have hBw := HP1.out.hB
                  have fzN := HP1.out.tm.fz (ni * 3 + 2) (by omega)
                  have hfin : ∀ (a' : Option Addr) (c' : Nat) (w4 : World), Owns w4 B 3 1 a' (eN.length + eZ.length) c' (ivals (nints eN) ++ ivals (nints eZ)) → wt.drew.grownBy w4 (blk aN) → (∀ x, a' = some x → aN = some x ∨ wt.drew.heap.size ≤ x.block) →
                      (∃ v, w4.cell? ⟨ga, ni * 3 + 2, none⟩ = some v) ∧ w4.frozen? ⟨ga, ni * 3 + 2, none⟩ = false ∧ ∃ T2, PhB w (w4.setCell ⟨ga, ni * 3 + 2, none⟩ (.slice a' (eN.length + eZ.length) c')) B ga cap n q F T2 N ps (fun z => dK d (Aho.kids N x c) z || decide (z = y)) (fun z => dK d (Aho.kids N x c) z || decide (z = y)) ∧
                        PhQ (w4.setCell ⟨ga, ni * 3 + 2, none⟩ (.slice a' (eN.length + eZ.length) c')) B ga n T2 gq off nq cq ((Q ++ Aho.kids N x c).map (Aho.ix N)) := by
                    intro a' c' w4 h1 h2 h3
                    subst haN
                    have h4 : Owns w4 B 3 1 a' (eN ++ eZ).length c' (ivals (nints (eN ++ eZ))) := by
                      rw [List.length_append, show ivals (nints (eN ++ eZ)) = ivals (nints eN) ++ ivals (nints eZ) by simp [nints, ivals]]
                      exact h1
                    obtain ⟨hrow, hPh⟩ := (HP1.out.drewN 1).setE HYN.out hyi hew.symm h4 h2 h3
                    have hQ := (HQ1.out.drewN 1).setE (HP1.out.tm.drewN 1) ni (ni * 3 + 2) hnin (a' := a') (e' := eN ++ eZ) (c' := c') (.slice a' (eN ++ eZ).length c') h2 h3
                    rw [List.length_append] at hPh hQ
                    have hl : ni * 3 + 2 < (treeCells T1).length := by rw [treeCells_length, HP1.out.tm.len]; omega
                    exact ⟨⟨_, hrow.cell0 _ hl⟩, hrow.frozen0 _ hl, _, hPh, hQ⟩
                  have HFIN := Lib.hid hfin
                  have HOWN := Lib.hid (enN.drew)
                  have HRC := Lib.hid ((enZ.drew).readsC)
                  obtain ⟨nN, hnN⟩ : ∃ nN, nN = eN.length := ⟨_, rfl⟩
                  obtain ⟨nZ, hnZ⟩ : ∃ nZ, nZ = eZ.length := ⟨_, rfl⟩
                  rw [← hnN, ← hnZ] at HFIN
                  rw [← hnN] at HOWN ceN hln
                  rw [← hnZ] at HRC ceZ hlz
                  have hml : nN + nZ ≤ maxLen := by unfold maxLen; omega
                  have hby : (nN + nZ) * 8 ≤ 140737488355328 := by omega
                  have hKK : Hid (Aho.kids N x (c + 1) = Aho.kids N x c ++ [y]) := Lib.hid (by rw [HY.out]; exact Aho.kids_yes (by rw [← HY.out]; exact HYN.out))
                  clear hyi hzz hzN hzi hyne hylen hzlen hdz hdy hfy hey hez hew enN enZ heN heZ haN hcN haZ hcZ hfin hnN hnZ HP1 HQ1
                  go_region_law ((refine step_appendR _ (by rfl) _ _ 32 (by rfl) B 3 (.int .i64 0) 1 8 Try.underlying32 infoInt rfl (by decide) aN nN cN _ (by rfl) HOWN.out aZ nZ cZ _ (by rfl) HRC.out hml hby hBw ?_; intro a' c' w4 h1 h2 h3; obtain ⟨⟨v4, k4⟩, kf4, T2, hPh, hQ4⟩ := HFIN.out a' c' w4 h1 h2 h3))
                  all_goals
                    have HP5 := Lib.hid hPh; have HQ5 := Lib.hid hQ4
                    clear hPh hQ4 h1 h2 h3 k4 kf4 ceN cfN ceZ fzN hBw
                    generalize w4.setCell ⟨ga, ni * 3 + 2, none⟩ (.slice a' (nN + nZ) c') = w5 at *
                    have hB5 := HP5.out.hB
                    go_wp2_with (with_reducible refine wpList_pushAt w5 rfl _ _ 32 rfl B 3 (.int .i64 0) 8 Try.underlying32 infoInt rfl gq off nq cq _ rfl HQ5.out.own (.int .i64 (ni : Nat)) rfl rfl hnm hnb hB5 ?_; intro g6 off6 c6 w6 hown6 hgrow6 hloc6)
                    obtain ⟨hq6, hp6⟩ := HQ5.out.push HP5.out hown6 hgrow6 hloc6
                    have HP6 : Hid (PhB w w6 B ga cap n q F T2 N ps (dK d (Aho.kids N x (c + 1))) (dK d (Aho.kids N x (c + 1)))) := Lib.hid (by rw [hKK.out]; exact hp6.congr (fun z => dK_snoc d _ y z) (fun z => dK_snoc d _ y z))
                    have HQ6 : Hid (PhQ w6 B ga n T2 g6 off6 (nq + 1) c6 ((Q ++ Aho.kids N x (c + 1)).map (Aho.ix N))) := Lib.hid (by rw [hKK.out, ← List.append_assoc, List.map_append, List.map_singleton, ← HNI.out]; exact hq6)
                    clear hq6 hp6 hown6 hgrow6 hloc6
                    go_roundw
                    case rel => exact ⟨c + 1, g6, off6, nq + 1, c6, T2, by omega, by go_num, rfl, HP6, HQ6⟩
                    case measure => simp [intOf]; omega
                · have hai0 : 0 < ai := by
                    rcases Nat.eq_zero_or_pos ai with e | e
                    · exact absurd ((ix_zero HPB.out.tr HXN.out).1 (HAI.out ▸ e)) hx0
                    · exact e
                  have b0 : decide ((0 : Int) < (ai : Int)) = true := decide_eq_true (by omega)
                  have b0n : decide (0 < ai) = true := decide_eq_true hai0
                  have HX0 := Lib.hid hx0
                  have cf := HPB.out.tm.cf ai hain
                  have hfx : (T.getD ai dn).f = Aho.ix N (Aho.lps N x) := by
                    rw [HAI.out, HPB.out.fl x HXN.out]
                    unfold Aho.failOf
                    rw [if_pos]
                    unfold dK
                    rw [HBF.out.low' x HXN.out (Nat.le_refl _)]; rfl
                  rw [hfx] at cf
                  have hstep := step_any HPB.out.tm HPB.out.tr HPB.out.hn (by omega) HPB.out.mf (Aho.lps N x) (Aho.lps_mem HPB.out.tr.nil x) (fun z hz hzl => by
                    have hll := Aho.lps_len N x hx0
                    rw [HPB.out.fl z hz]
                    unfold Aho.failOf
                    rw [if_pos]
                    unfold dK
                    rw [HBF.out.low' z hz (by omega)]; rfl) c hlt
                  rw [← Aho.lps_snoc HPB.out.tr x _ hx0, ← hy] at hstep
                  have HST := Lib.hid hstep
                  obtain ⟨v, hv⟩ : ∃ v, v = Aho.ix N (Aho.lps N y) := ⟨_, rfl⟩
                  rw [← hv] at HST
                  have HV := Lib.hid hv
                  obtain ⟨fx, hfx2⟩ : ∃ fx, fx = Aho.ix N (Aho.lps N x) := ⟨_, rfl⟩
                  rw [← hfx2] at HST cf
                  have k1 := HPB.out.tm.cf ni hnin
                  have kf1 := HPB.out.tm.fz (ni * 3 + 1) (by omega)
                  clear hfi hy hyN hni hmb hx0 hai0 hfx hstep hv hfx2
                  go_wp2_with fail
                  refine (HST.out).mono ?_
                  rintro e w9 ⟨rfl, rfl⟩
                  go_wp2_with fail
                  have HP1 := Lib.hid (HPB.out.setF HYN.out HNI.out HV.out)
                  have HQ1 := Lib.hid (HPQ.out.setF HPB.out.tm ni (ni * 3 + 1) hnin (.int .i64 (v : Nat)) v)
                  clear HPB HPQ cm hlook b0 b0n hcu HX0 k1 kf1 HST cf
                  generalize wr.setCell ⟨ga, ni * 3 + 1, none⟩ (.int .i64 (v : Nat)) = wt at *
                  generalize T.set ni { T.getD ni dn with f := v } = T1 at *
                  have hyi := HNI.out
                  obtain ⟨zz, hzz⟩ : ∃ zz, zz = Aho.lps N y := ⟨_, rfl⟩
                  have hzN : zz ∈ N := by rw [hzz]; exact Aho.lps_mem HP1.out.tr.nil y
                  obtain ⟨zi, hzi⟩ : ∃ zi, zi = Aho.ix N zz := ⟨_, rfl⟩
                  have hzin : zi < n := by rw [hzi, ← HNN.out]; exact Aho.ix_lt hzN
                  have hziI : (zi : Int) < (n : Int) := by omega
                  have hyne : y ≠ [] := by rw [HY.out]; simp
                  have hylen : y.length = x.length + 1 := by rw [HY.out]; simp
                  have hzlen : zz.length < y.length := by rw [hzz]; exact Aho.lps_len N y hyne
                  have hdz : dK d (Aho.kids N x c) zz = true := by
                    unfold dK
                    rw [HBF.out.low' zz hzN (by omega)]; rfl
                  have hdy : dK d (Aho.kids N x c) y = false := by
                    unfold dK
                    rw [HY.out, HBF.out.fresh _ (by rw [← HY.out]; exact HYN.out), Bool.false_or, Bool.eq_false_iff]
                    intro e
                    rw [List.contains_iff_mem, Aho.mem_kids] at e
                    obtain ⟨b, hb1, _, hb3⟩ := e
                    have := Aho.ofNat_inj hlt (by omega) (Aho.snoc_inj hb3).2
                    omega
                  have hfy : (T1.getD ni dn).f = zi := by
                    rw [hyi, HP1.out.fl y HYN.out, hzi, hzz]
                    unfold Aho.failOf
                    rw [if_pos (by simp)]
                  have hey : (T1.getD ni dn).e = Aho.own ps y := by
                    rw [hyi, HP1.out.en y HYN.out]
                    unfold Aho.endsOf
                    rw [hdy, if_neg (by simp)]
                  have hez : (T1.getD zi dn).e = Aho.endsW ps zz := by
                    rw [hzi, HP1.out.en zz hzN]
                    unfold Aho.endsOf
                    rw [hdz, if_pos rfl]
                  have hew : Aho.endsW ps y = Aho.own ps y ++ Aho.endsW ps zz := by rw [hzz]; exact Aho.ends_lps HP1.out.all (fun p hp => (HPL.out p hp).1) y
                  have ceN := HP1.out.tm.ce ni hnin
                  have cfN := HP1.out.tm.cf ni hnin
                  have ceZ := HP1.out.tm.ce zi hzin
                  have enN := HP1.out.tm.en ni hnin
                  have enZ := HP1.out.tm.en zi hzin
                  rw [hfy] at cfN
                  rw [hey] at ceN enN
                  rw [hez] at ceZ enZ
                  obtain ⟨eN, heN⟩ : ∃ eN, eN = Aho.own ps y := ⟨_, rfl⟩
                  obtain ⟨eZ, heZ⟩ : ∃ eZ, eZ = Aho.endsW ps zz := ⟨_, rfl⟩
                  rw [← heN] at ceN enN
                  rw [← heZ] at ceZ enZ
                  rw [← heN, ← heZ] at hew
                  have hln : eN.length ≤ 20 := by
                    rw [heN]; unfold Aho.own
                    refine Nat.le_trans (List.length_filter_le _ _) ?_
                    rw [List.length_range, HPS.out.1]; omega
                  have hlz : eZ.length ≤ 14020 := by
                    rw [heZ]
                    have h1 := ends_len ps zz
                    have h2 := word_short HP1.out.tr hzN
                    have h3 : ps.length * (zz.length + 1) ≤ 20 * 701 := Nat.mul_le_mul (by rw [HPS.out.1]; exact hm) (by have := HNN.out; omega)
                    omega
                  obtain ⟨aN, haN⟩ : ∃ aN, aN = (T1.getD ni dn).a := ⟨_, rfl⟩
                  obtain ⟨cN, hcN⟩ : ∃ cN, cN = (T1.getD ni dn).c := ⟨_, rfl⟩
                  obtain ⟨aZ, haZ⟩ : ∃ aZ, aZ = (T1.getD zi dn).a := ⟨_, rfl⟩
                  obtain ⟨cZ, hcZ⟩ : ∃ cZ, cZ = (T1.getD zi dn).c := ⟨_, rfl⟩
                  rw [← haN, ← hcN] at ceN enN
                  rw [← haZ, ← hcZ] at ceZ enZ
                  have hBw := HP1.out.hB
                  have fzN := HP1.out.tm.fz (ni * 3 + 2) (by omega)
                  have hfin : ∀ (a' : Option Addr) (c' : Nat) (w4 : World), Owns w4 B 3 1 a' (eN.length + eZ.length) c' (ivals (nints eN) ++ ivals (nints eZ)) → wt.drew.grownBy w4 (blk aN) → (∀ x, a' = some x → aN = some x ∨ wt.drew.heap.size ≤ x.block) →
                      (∃ v, w4.cell? ⟨ga, ni * 3 + 2, none⟩ = some v) ∧ w4.frozen? ⟨ga, ni * 3 + 2, none⟩ = false ∧ ∃ T2, PhB w (w4.setCell ⟨ga, ni * 3 + 2, none⟩ (.slice a' (eN.length + eZ.length) c')) B ga cap n q F T2 N ps (fun z => dK d (Aho.kids N x c) z || decide (z = y)) (fun z => dK d (Aho.kids N x c) z || decide (z = y)) ∧
                        PhQ (w4.setCell ⟨ga, ni * 3 + 2, none⟩ (.slice a' (eN.length + eZ.length) c')) B ga n T2 gq off nq cq ((Q ++ Aho.kids N x c).map (Aho.ix N)) := by
                    intro a' c' w4 h1 h2 h3
                    subst haN
                    have h4 : Owns w4 B 3 1 a' (eN ++ eZ).length c' (ivals (nints (eN ++ eZ))) := by
                      rw [List.length_append, show ivals (nints (eN ++ eZ)) = ivals (nints eN) ++ ivals (nints eZ) by simp [nints, ivals]]
                      exact h1
                    obtain ⟨hrow, hPh⟩ := (HP1.out.drewN 1).setE HYN.out hyi hew.symm h4 h2 h3
                    have hQ := (HQ1.out.drewN 1).setE (HP1.out.tm.drewN 1) ni (ni * 3 + 2) hnin (a' := a') (e' := eN ++ eZ) (c' := c') (.slice a' (eN ++ eZ).length c') h2 h3
                    rw [List.length_append] at hPh hQ
                    have hl : ni * 3 + 2 < (treeCells T1).length := by rw [treeCells_length, HP1.out.tm.len]; omega
                    exact ⟨⟨_, hrow.cell0 _ hl⟩, hrow.frozen0 _ hl, _, hPh, hQ⟩
                  have HFIN := Lib.hid hfin
                  have HOWN := Lib.hid (enN.drew)
                  have HRC := Lib.hid ((enZ.drew).readsC)
                  obtain ⟨nN, hnN⟩ : ∃ nN, nN = eN.length := ⟨_, rfl⟩
                  obtain ⟨nZ, hnZ⟩ : ∃ nZ, nZ = eZ.length := ⟨_, rfl⟩
                  rw [← hnN, ← hnZ] at HFIN
                  rw [← hnN] at HOWN ceN hln
                  rw [← hnZ] at HRC ceZ hlz
                  have hml : nN + nZ ≤ maxLen := by unfold maxLen; omega
                  have hby : (nN + nZ) * 8 ≤ 140737488355328 := by omega
                  have hKK : Hid (Aho.kids N x (c + 1) = Aho.kids N x c ++ [y]) := Lib.hid (by rw [HY.out]; exact Aho.kids_yes (by rw [← HY.out]; exact HYN.out))
                  clear hyi hzz hzN hzi hyne hylen hzlen hdz hdy hfy hey hez hew enN enZ heN heZ haN hcN haZ hcZ hfin hnN hnZ HP1 HQ1
                  go_region_law ((refine step_appendR _ (by rfl) _ _ 32 (by rfl) B 3 (.int .i64 0) 1 8 Try.underlying32 infoInt rfl (by decide) aN nN cN _ (by rfl) HOWN.out aZ nZ cZ _ (by rfl) HRC.out hml hby hBw ?_; intro a' c' w4 h1 h2 h3; obtain ⟨⟨v4, k4⟩, kf4, T2, hPh, hQ4⟩ := HFIN.out a' c' w4 h1 h2 h3))
                  all_goals
                    have HP5 := Lib.hid hPh; have HQ5 := Lib.hid hQ4
                    clear hPh hQ4 h1 h2 h3 k4 kf4 ceN cfN ceZ fzN hBw
                    generalize w4.setCell ⟨ga, ni * 3 + 2, none⟩ (.slice a' (nN + nZ) c') = w5 at *
                    have hB5 := HP5.out.hB
                    go_wp2_with (with_reducible refine wpList_pushAt w5 rfl _ _ 32 rfl B 3 (.int .i64 0) 8 Try.underlying32 infoInt rfl gq off nq cq _ rfl HQ5.out.own (.int .i64 (ni : Nat)) rfl rfl hnm hnb hB5 ?_; intro g6 off6 c6 w6 hown6 hgrow6 hloc6)
                    obtain ⟨hq6, hp6⟩ := HQ5.out.push HP5.out hown6 hgrow6 hloc6
                    have HP6 : Hid (PhB w w6 B ga cap n q F T2 N ps (dK d (Aho.kids N x (c + 1))) (dK d (Aho.kids N x (c + 1)))) := Lib.hid (by rw [hKK.out]; exact hp6.congr (fun z => dK_snoc d _ y z) (fun z => dK_snoc d _ y z))
                    have HQ6 : Hid (PhQ w6 B ga n T2 g6 off6 (nq + 1) c6 ((Q ++ Aho.kids N x (c + 1)).map (Aho.ix N))) := Lib.hid (by rw [hKK.out, ← List.append_assoc, List.map_append, List.map_singleton, ← HNI.out]; exact hq6)
                    clear hq6 hp6 hown6 hgrow6 hloc6
                    go_roundw
                    case rel => exact ⟨c + 1, g6, off6, nq + 1, c6, T2, by omega, by go_num, rfl, HP6, HQ6⟩
                    case measure => simp [intOf]; omega
              · rw [if_neg hyN] at hlook
                simp only [Option.getD_none, Option.isSome_none] at hlook
                have hk := Aho.kids_no (N := N) (x := x) (c := c) (by rw [← hy]; exact hyN)
                have HK := Lib.hid hk
                obtain ⟨mb, hmb⟩ : ∃ mb, mb = (T.getD ai dn).m := ⟨_, rfl⟩
                rw [← hmb] at cm hlook
                clear hfi hy hyN hk hmb
                go_wp2_with fail
                go_roundw
                case rel => exact ⟨c + 1, gq, off, nq, cq, T, by omega, by go_num, rfl, by rw [HK.out]; exact HPB, by rw [HK.out]; exact HPQ⟩
                case measure => simp [intOf]; omega
            · obtain rfl : c = 256 := by omega
              have HPN : Hid (PhB w wr B ga cap n q F T N ps (fun y => d y || (Aho.kids N x 256).contains y) (fun y => d y || (Aho.kids N x 256).contains y)) := HPB
              have HBN := Lib.hid HBF.out.next
              clear hlt
              go_wp2_with fail
              go_roundg (gk - 1)
              case measure => omega
              case rel => exact ⟨gq, off, nq, cq, T, _, _, _, rfl, by simp; omega, HPN, HPQ, HBN⟩
end Go.Proofs.Ytkahceijhokmoaa
