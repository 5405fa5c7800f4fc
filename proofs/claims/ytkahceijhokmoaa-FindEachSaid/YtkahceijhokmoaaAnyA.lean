/- Contract of find.Any, up to its sort. -/
import Derived.Test.YtkahceijhokmoaaAhoG
import Derived.Test.YtkahceijhokmoaaSortMA
import Derived.Test.YtkahceijhokmoaaSlIndexS
namespace Go.Proofs.Ytkahceijhokmoaa
open Go.RowKit
set_option linter.unusedVariables false
set_option linter.unusedSimpArgs false
/-- what the sort of matches is -/
def SortIs : Prop := ∀ (B : Nat) (a : Option Addr) (m c : Nat) (l : List (Nat × Nat)) (w : World), Owns w B 36 2 a m c (mCells l) → l.length = m → (∀ p ∈ l, p.1 < 1000 ∧ p.2 < 1000) → m ≤ 100000000 →
  Calls Try.prog 18 #[.slice a m c, .func (.func 19) #[] #[]] w fun e w' => e = .returned (.tuple #[]) ∧
    ∃ S : List (Nat × Nat), S.Perm l ∧ S.Pairwise (fun a b => a.1 < b.1 ∨ (a.1 = b.1 ∧ a.2 ≤ b.2)) ∧ (m = 0 ∨ ∃ g, a = some ⟨g, 0, none⟩ ∧ RowAt w' g 0 36 (mCells S)) ∧ Below B w w'
/-- what Any holds -/
structure AnyS (w1 wr : World) (a : Option Addr) (m c : Nat) (L : List (Nat × Nat)) : Prop where
  own : Owns wr w1.heap.size 36 2 a m c (mCells L)
  len : L.length = m
  bel : Below w1.heap.size w1 wr
theorem AnyS.drewN {w1 wr : World} {a : Option Addr} {m c : Nat} {L : List (Nat × Nat)} (h : AnyS w1 wr a m c L) (q : Nat) : AnyS w1 (wr.drewN q) a m c L := ⟨h.own.drewN q, h.len, bdrewN h.bel q⟩
theorem infoMatch : (Try.prog.info? 36).map (fun i => (i.zero, i.size, i.bytes)) = some (some (.agg #[.int .i64 0, .int .i64 0]), 2, 16) := by kernel_rfl
/-- the answer of Any -/
def AnyOut (w : World) (l : Aho.Wd) (ps : List Aho.Wd) (e : Ending) (w' : World) : Prop := ∃ (a : Option Addr) (m c : Nat) (S : List (Nat × Nat)), e = .returned (.tuple #[.slice a m c, .nilIface]) ∧ m ≤ 100000000 ∧ S.length = m ∧
  S.Perm (Aho.outW l ps l.length) ∧ S.Pairwise (fun a b => a.1 < b.1 ∨ (a.1 = b.1 ∧ a.2 ≤ b.2)) ∧ (m = 0 ∨ ∃ g, a = some ⟨g, 0, none⟩ ∧ RowAt w' g 0 36 (mCells S)) ∧ Below w.heap.size w w'
theorem out_small {l : Aho.Wd} {ps : List Aho.Wd} (h2 : l.length ≤ 200) (h3 : ps.length ≤ 20) : ∀ n, n ≤ l.length → ∀ p ∈ Aho.outW l ps n, p.1 < 1000 ∧ p.2 < 1000 := by
  intro n hn p hp
  unfold Aho.outW at hp
  rw [List.mem_flatMap] at hp
  obtain ⟨i, hi, hp⟩ := hp
  rw [List.mem_range] at hi
  obtain ⟨k, hk, rfl⟩ := List.mem_map.1 hp
  have := (Aho.ends_lt ps _ k hk).1
  simp only []
  omega
set_option maxRecDepth 100000 in
set_option maxHeartbeats 4000000 in
theorem Any_any (HSORT : SortIs) (w : World) (a0 : Option Addr) (m0 cap0 : Nat) (ps : List Aho.Wd) (l : Aho.Wd) (hps : PsAt w a0 m0 ps) (hm : m0 ≤ 20) (hpl : ∀ p ∈ ps, p ≠ [] ∧ p.length ≤ 30) (hl : l.length ≤ 200) :
    Calls Try.prog 7 #[.string (bstr l), .slice a0 m0 cap0] w fun e w' => AnyOut w l ps e w' := by
  have HPS := Lib.hid hps; have HPL := Lib.hid hpl; have HM := Lib.hid hm
  have HOUT := Lib.hid (out_small (l := l) (ps := ps) hl (by rw [hps.1]; exact hm) l.length (Nat.le_refl _))
  clear hps hpl
  have hm60 : decide ((60 : Int) < (m0 : Int)) = false := decide_eq_false (by omega)
  have hm60n : decide (60 < m0) = false := decide_eq_false (by omega)
  have HCO : Hid (∀ V, PsAt V a0 m0 ps → Calls Try.prog 15 #[.slice a0 m0 cap0, .string { data := #[] }] V fun e w' => e = .returned (.bool false) ∧ V = w') := Lib.hid fun V hV => ContainsS_none a0 m0 cap0 ps V (by omega) hV fun p hp => (HPL.out p hp).1
  go_enter Try.func7, Try.ntmps7
  go_wp2_with fail
  refine (HCO.out _ HPS.out).mono ?_
  rintro e w0 ⟨rfl, rfl⟩
  go_wp2_with fail
  refine (grown_any w a0 m0 cap0 ps HPS.out HM.out HPL.out).mono ?_
  rintro e w1 ⟨ga, cap, n, q, F, T, N, rfl, hn7, hPh⟩
  have HPH := Lib.hid hPh
  clear hPh
  obtain ⟨B2, hB2⟩ : ∃ B2, B2 = w1.heap.size := ⟨_, rfl⟩
  have HB2 := Lib.hid hB2
  have HPS1 : Hid (PsAt w1 a0 m0 ps) := Lib.hid (HPS.out.below HPH.out.bel)
  clear hB2
  go_wp2_with fail
  go_loopw [7, 8, 24] (fun v7 v8 v24 wr => ∃ (i m c : Nat) (a : Option Addr), i ≤ l.length ∧ m ≤ i * 14020 ∧ v24 = .int .i64 i ∧ v8 = .int .i64 (Aho.ix N (Aho.lsuf N (l.take i)) : Nat) ∧ v7 = .slice a m c ∧ Hid (AnyS w1 wr a m c (Aho.outW l ps i))) (fun _ _ v24 _ => l.length - (intOf v24).toNat)
  case atStart =>
    refine ⟨0, 0, 0, none, by omega, by omega, rfl, ?_, rfl, Lib.hid ⟨Owns.nil _ _ _ _, rfl, Below.refl _ _⟩⟩
    rw [List.take_zero]
    show _ = Value.int .i64 ((Aho.ix N [] : Nat) : Int)
    rw [Aho.ix_root HPH.out.tr]; rfl
  case round =>
    obtain ⟨i, m, c, a, hi, hmi, rfl, rfl, rfl, HS⟩ := hrel
    by_cases hil : i < l.length
    · have hilI : (i : Int) < (l.length : Int) := by omega
      have hilN : decide (i < l.length) = true := decide_eq_true hil
      have hcx : ∀ h : i < (bstr l).size, ((bstr l)[i]'h).toNat = (l.getD i 0).toNat := fun h => by
        have e : (bstr l)[i]'h = l.getD i 0 := by
          rw [List.getD_eq_getElem?_getD, List.getElem?_eq_getElem hil]; rfl
        rw [e]
      have hc8 : (l.getD i 0).toNat < 256 := UInt8.toNat_lt _
      have htk : l.take (i + 1) = l.take i ++ [UInt8.ofNat (l.getD i 0).toNat] := by
        rw [List.take_succ_eq_append_getElem hil, UInt8.ofNat_toNat, List.getD_eq_getElem?_getD, List.getElem?_eq_getElem hil]; rfl
      generalize (l.getD i 0).toNat = ch at *
      obtain ⟨x, hx⟩ : ∃ x, x = Aho.lsuf N (l.take i) := ⟨_, rfl⟩
      have hxN : x ∈ N := by rw [hx]; exact Aho.lsuf_mem HPH.out.tr.nil _
      have htr := HPH.out.tm.below HS.out.bel (Nat.le_refl _)
      have hx2 : Aho.lsuf N (l.take (i + 1)) = Aho.lsuf N (x ++ [UInt8.ofNat ch]) := by rw [htk, hx]; exact Aho.lsuf_snoc HPH.out.tr _ _
      have HX2 := Lib.hid hx2
      have hst := step_any htr HPH.out.tr HPH.out.hn (by omega) HPH.out.mf x hxN (fun y hy _ => by
        rw [HPH.out.fl y hy]; unfold Aho.failOf; simp) ch hc8
      rw [← hx2] at hst
      rw [← hx]
      have HST := Lib.hid hst
      obtain ⟨z, hz⟩ : ∃ z, z = Aho.lsuf N (l.take (i + 1)) := ⟨_, rfl⟩
      rw [← hz] at HST
      have hzN : z ∈ N := by rw [hz]; exact Aho.lsuf_mem HPH.out.tr.nil _
      have hez : Aho.endsW ps z = Aho.endsW ps (l.take (i + 1)) := by rw [hz]; exact Aho.ends_lsuf HPH.out.all _
      have hen := HPH.out.en z hzN
      have hel : (Aho.endsW ps (l.take (i + 1))).length ≤ 14020 := by
        rw [← hez]
        have h1 := ends_len ps z
        have h2 := word_short HPH.out.tr hzN
        have h3 : ps.length * (z.length + 1) ≤ 20 * 700 := Nat.mul_le_mul (by rw [HPS.out.1]; exact hm) (by have := HPH.out.hn; omega)
        omega
      have hzn : Aho.ix N z < n := by rw [← HPH.out.hn]; exact Aho.ix_lt hzN
      have hsucc := Aho.outW_succ l ps i
      have hks : ∀ k ∈ Aho.endsW ps (l.take (i + 1)), k < m0 ∧ (ps.getD k []).length ≤ i + 1 := fun k hk => by
        obtain ⟨h1, h2⟩ := Aho.ends_lt ps _ k hk
        refine ⟨by rw [← HPS.out.1]; exact h1, ?_⟩
        have := h2.length_le
        rw [List.length_take] at this
        omega
      obtain ⟨es, hes⟩ : ∃ es, es = Aho.endsW ps (l.take (i + 1)) := ⟨_, rfl⟩
      rw [← hes] at hel hez hsucc hks
      have hen2 : (T.getD (Aho.ix N z) dn).e = es := by rw [hen]; unfold Aho.endsOf; simp [hez]
      have HKS := Lib.hid hks; have HSU := Lib.hid hsucc; have HZ := Lib.hid hz
      obtain ⟨zi, hzi⟩ : ∃ zi, zi = Aho.ix N z := ⟨_, rfl⟩
      have ce := htr.ce zi (by rw [hzi]; exact hzn)
      have eo := HPH.out.tm.en zi (by rw [hzi]; exact hzn)
      rw [← hzi] at hen2 hzn HST
      rw [hen2] at ce eo
      generalize (T.getD zi dn).a = ea at *
      generalize (T.getD zi dn).c = ec at *
      have hznI : (zi : Int) < (n : Int) := by omega
      have HEO := Lib.hid eo; have HZI := Lib.hid hzi
      obtain ⟨xi, hxi⟩ : ∃ xi, xi = Aho.ix N x := ⟨_, rfl⟩
      rw [← hxi] at HST ⊢
      clear hx hxN htr hx2 hst hz hzN hez hen hsucc hks hes hen2 eo htk hc8 hzi hxi HX2
      go_wp2_with fail
      refine (HST.out).mono ?_
      rintro e w5 ⟨rfl, rfl⟩
      go_wp2_with fail
      go_loopw [7, 39] (fun v7 v39 wr => ∃ (j m c : Nat) (a : Option Addr), j ≤ es.length ∧ m ≤ i * 14020 + j ∧ v39 = .int .i64 j ∧ v7 = .slice a m c ∧ Hid (AnyS w1 wr a m c (Aho.outW l ps i ++ (es.take j).map fun k => (i + 1 - (ps.getD k []).length, k)))) (fun _ v39 _ => es.length - (intOf v39).toNat)
      case atStart => exact ⟨0, m, c, a, by omega, by omega, rfl, rfl, Lib.hid (by rw [List.take_zero, List.map_nil, List.append_nil]; exact HS.out)⟩
      case round =>
        clear HS hmi ce HST
        obtain ⟨j, m, c, a, hj, hmi, rfl, rfl, HS⟩ := hrel
        by_cases hje : j < es.length
        · have hjI : (j : Int) < (es.length : Int) := by omega
          have hjN : decide (j < es.length) = true := decide_eq_true hje
          obtain ⟨kk, hkk⟩ : ∃ kk, kk = es.getD j 0 := ⟨_, rfl⟩
          have hge : es[j] = kk := by rw [hkk, List.getD_eq_getElem?_getD, List.getElem?_eq_getElem hje]; rfl
          have hke : es.take (j + 1) = es.take j ++ [kk] := by rw [← hge]; exact List.take_succ_eq_append_getElem hje
          obtain ⟨hkm, hkl⟩ := HKS.out kk (by rw [← hge]; exact List.getElem_mem hje)
          have hec : ∃ eb, ea = some ⟨eb, 0, none⟩ ∧ wr.cell? ⟨eb, j, none⟩ = some (.int .i64 (kk : Nat)) := by
            cases ea with
            | none => have := HEO.out.of_none.1; omega
            | some y =>
              obtain ⟨e1, e2, e3, e4, e5⟩ := HEO.out.row
              refine ⟨y.block, by rw [e1], ?_⟩
              have e6 : RowAt wr y.block 0 3 (ivals (nints es)) := e5.below HS.out.bel e5.lt
              have e7 := e6.int j (by rw [nints_length]; exact hje)
              rw [Nat.zero_add] at e7
              rw [e7]
              unfold nints
              rw [List.getD_eq_getElem?_getD, List.getElem?_map, List.getElem?_eq_getElem hje, hge]; rfl
          obtain ⟨eb, rfl, hec⟩ := hec
          obtain ⟨⟨pb, po, pv⟩, rfl, hpx, hpc⟩ := (HPS1.out.below HS.out.bel).2 kk hkm
          have hkmI : (kk : Int) < (m0 : Int) := by omega
          have hbE := HS.out.bel
          have hbB : w1.heap.size ≤ wr.heap.size := hbE.size
          have ho1 := HS.out.own
          obtain ⟨pl, hpl⟩ : ∃ pl, pl = (ps.getD kk []).length := ⟨_, rfl⟩
          rw [← hpl] at hkl
          have HPLE := Lib.hid hpl
          have hps : (bstr (ps.getD kk [])).size = pl := by rw [hpl]; rfl
          generalize hpq : bstr (ps.getD kk []) = pq at *
          have hkl1 : (pl : Int) ≤ (i : Int) + 1 := by omega
          have hsub : (i : Int) + 1 - (pl : Int) = ((i + 1 - pl : Nat) : Int) := by omega
          obtain ⟨at_, hat⟩ : ∃ at_, at_ = i + 1 - pl := ⟨_, rfl⟩
          rw [← hat] at hsub
          have hml2 : m + 1 ≤ maxLen := by unfold maxLen; omega
          have hby : (m + 1) * 16 ≤ 140737488355328 := by omega
          have HLL : Hid (Aho.outW l ps i ++ (es.take (j + 1)).map (fun k => (i + 1 - (ps.getD k []).length, k)) = (Aho.outW l ps i ++ (es.take j).map (fun k => (i + 1 - (ps.getD k []).length, k))) ++ [(at_, kk)]) := Lib.hid (by
            rw [hke, List.map_append, List.append_assoc, List.map_singleton, ← hpl, ← hat])
          have HLEN := Lib.hid HS.out.len
          generalize Aho.outW l ps i ++ (es.take j).map (fun k => (i + 1 - (ps.getD k []).length, k)) = L at *
          clear hkk hge hke hkm hpl hpq hat HS
          go_wp2_with (with_reducible refine wpList_pushW wr _ rfl rfl _ _ 26 rfl w1.heap.size 36 (.agg #[.int .i64 0, .int .i64 0]) 2 16 Try.underlying26 infoMatch rfl (by decide) a m c _ rfl ho1 [.int .i64 (at_ : Nat), .int .i64 (kk : Nat)] rfl (by simp [Value.oneCell']) rfl hml2 hby hbB ?_; intro a2 cap2 w2 hown2 hgrow2 hloc2 hsz2 hex2)
          have hb3 := below_blk hbE ho1 (Nat.le_refl _) hbB hgrow2
          go_roundw
          case rel => exact ⟨j + 1, m + 1, cap2, a2, by omega, by omega, by go_num, rfl, Lib.hid ⟨by rw [HLL.out, mCells_append]; exact hown2, by rw [HLL.out, List.length_append, HLEN.out]; rfl, hb3⟩⟩
          case measure => simp [intOf]; omega
        · obtain rfl : j = es.length := by omega
          have hd : decide ((es.length : Int) < (es.length : Int)) = false := by simp
          have hdn : decide (es.length < es.length) = false := by simp
          have HN : Hid (AnyS w1 wr a m c (Aho.outW l ps (i + 1))) := Lib.hid (by rw [HSU.out]; have := HS.out; rwa [List.take_length] at this)
          go_wp2_with fail
          go_roundw
          case rel => exact ⟨i + 1, m, c, a, by omega, by omega, by go_num, by rw [HZI.out, HZ.out], rfl, HN⟩
          case measure => simp [intOf]; omega
    · obtain rfl : i = l.length := by omega
      have hd : decide ((l.length : Int) < (l.length : Int)) = false := by simp
      have hdn : decide (l.length < l.length) = false := by simp
      go_wp2_with fail
      refine (HSORT w1.heap.size a m c _ wr HS.out.own HS.out.len HOUT.out (by omega)).mono ?_
      rintro e w5 ⟨rfl, S, h1, h2, h3, h4⟩
      have HFIN : Hid (∃ S : List (Nat × Nat), S.length = m ∧ S.Perm (Aho.outW l ps l.length) ∧ S.Pairwise (fun a b => a.1 < b.1 ∨ (a.1 = b.1 ∧ a.2 ≤ b.2)) ∧ (m = 0 ∨ ∃ g, a = some ⟨g, 0, none⟩ ∧ RowAt w5 g 0 36 (mCells S)) ∧ Below w.heap.size w w5) :=
        Lib.hid ⟨S, by rw [h1.length_eq]; exact HS.out.len, h1, h2, h3, HPH.out.bel.trans ((HS.out.bel.trans h4).mono HPH.out.bel.size)⟩
      have hmb : m ≤ 100000000 := by omega
      clear h1 h2 h3 h4
      go_wp2_with fail
      go_ret2
      obtain ⟨S, h1, h2, h3, h4, h5⟩ := HFIN.out
      exact ⟨a, m, c, S, rfl, hmb, h1, h2, h3, h4, h5⟩
end Go.Proofs.Ytkahceijhokmoaa
