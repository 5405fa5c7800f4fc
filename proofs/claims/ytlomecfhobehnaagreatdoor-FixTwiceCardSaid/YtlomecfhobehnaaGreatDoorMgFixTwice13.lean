import Derived.Test.YtlomecfhobehnaaGreatDoorMgFixTwice0
import Derived.Test.YtlomecfhobehnaaGreatDoorMgFixTwice12
set_option linter.unusedVariables false
set_option linter.unusedSimpArgs false
namespace Go.Proofs.YtlomecfhobehnaaGreatDoor
open Lib (hid)
section
set_option maxRecDepth 100000
set_option maxHeartbeats 4000000
open Go.RowKit
open Rd
theorem uG(w:World)(rb E d:Nat)(t:Rd.Tok)(T:List Rd.Tok)(he:Env w rb)(hr:Rdr w rb (t::T) E)(hT:fu (t::T))(hk:(Tm.kindOf t.1).isSome=true):
  Calls Tryz.prog 89 #[.pointer (some ⟨rb,0,none⟩),.int .i64 (d:Nat)] w (jK w rb E d (t::T)):=by
 have hnw:t.1≠Tm.dm:=by intro e;rw[e]at hk;exact absurd hk (by decide)
 have hb0:=(Y4 w.heap.size w).alloc (Z5 _) (.cells #[.int .i64 0,.int .i64 0,.string {data:= #[]},.string {data:= #[]},.int .i64 0,.int .i64 0,.bool false,.bool false,.pointer none,.int .i64 0,.string {data:= #[]},.string {data:= #[]},.slice none 0 0] 70)
 have HA:=hid (bO rb (t::T) E _ (hr.below hb0))
 have hat:Ex.dJ E (t::T)=t.2:=rfl
 rw[hat]at HA
 have S0:=hid (fB.start he hr t.2)
 have htx:ak (t::T)=t.1:=rfl
 have HTT:=hid hT
 have HNW:=hid hnw
 have hTN:=fun V hV=>da rb (t::T) E [119,104,101,110] V hV (by simp) (by rw[htx];exact hnw)
 have HTN:=hid hTN
 have hTX:=fun V hV=>bD rb (t::T) E V hV
 rw[htx]at hTX
 have HTX:=hid hTX
 have hP:=fun V hV=>dR rb t T E V hV (by intro e;rw[e]at hk;exact absurd hk (by decide))
 have HP:=hid hP
 have KND:=hid (Tm.mf.scalar hk)
 have hKD:=fun V=>uo t.1 V
 rw[hk]at hKD
 have HKD:=hid hKD
 clear hb0 hat he hr hT hTN hTX hP hKD htx hnw hk
 go_enter Tryz.func89,Tryz.ntmps89
 go_wp2_with fail
 refine HA.out.mono ?_
 rintro e w1 ⟨rfl,rfl⟩
 go_wp2_with fail
 refine(HTN.out _ S0.out.rd).mono ?_
 rintro e w1 ⟨rfl,rfl⟩
 go_wp2_with fail
 refine(HTX.out _ S0.out.rd).mono ?_
 rintro e w1 ⟨rfl,rfl⟩
 go_wp2_with fail
 refine(HKD.out _).mono ?_
 rintro e w1 ⟨rfl,k,rfl⟩
 have S1:=hid (S0.out.move (S0.out.rd.drewN k) (fI _ k _))
 generalize World.drewN _ k=w2 at *
 obtain⟨kv,hkv⟩:∃kv,kv=cM t.1:=⟨_,rfl⟩
 rw[← hkv]
 have HKV:=hid hkv
 clear hkv
 obtain⟨a2,b2⟩:=S1.out.cell 4 (by simp[ab])
 have S2:=hid (S1.out.set 4 (by simp[ab]) (.int .i64 (kv.1:Nat)))
 obtain⟨a3,b3⟩:=S2.out.cell 5 (by simp[ab])
 have S3:=hid (S2.out.set 5 (by simp[ab]) (.int .i64 (kv.2.1:Nat)))
 obtain⟨a4,b4⟩:=S3.out.cell 6 (by simp[ab])
 have S4:=hid (S3.out.set 6 (by simp[ab]) (.bool kv.2.2))
 obtain⟨a5,b5⟩:=S4.out.cell 0 (by simp[ab])
 have S5:=hid (S4.out.set 0 (by simp[ab]) (.int .i64 1))
 simp only[ab,Z2,Z3,Z0,Z1]at a2 a3 a4 a5
 go_wp2_with fail
 clear a2 b2 a3 b3 a4 b4 a5 b5
 refine(HP.out _ S5.out.rd).mono ?_
 rintro e w7 ⟨rfl,hr7,hg7⟩
 have S6:=hid (S5.out.move hr7 hg7)
 clear hr7 hg7
 go_wp2_with fail
 have hTT:=HTT.out.suf (List.suffix_cons t T)
 have HN7:=hid (lk _ rb E T S6.out.rd hTT)
 unfold Bad aB at HN7
 refine HN7.out.mono ?_
 rintro e wn7 (⟨u,R,rfl,hu,rfl,hr7,hg7⟩|⟨hno,g,en,p,rfl,g1,g2,g3⟩)
 rotate_left
 ·skip
  go_wp2_with fail
  refine⟨rfl,.inr ⟨?_,g,en,p,rfl,g1,Nat.le_trans S6.out.gr.size g2,ah S6.out.gr g3⟩⟩
  intro I R0 hI
  obtain⟨a,rfl,hh⟩:=Tm.dc hI HNW.out
  have h1:=Tm.sH hh
  rw[hno]at h1
  cases h1
 have Khu:=hid hu
 clear HN7 hu
 have S8:=hid (S6.out.move hr7 hg7)
 clear hr7 hg7
 obtain⟨a9,b9⟩:=S8.out.cell 2 (by simp[ab])
 have S9:=hid (S8.out.set 2 (by simp[ab]) (.string (aa u.1)))
 simp only[ab,Z2,Z3,Z0,Z1]at a9
 obtain⟨d10,_⟩:=S9.out.cell 0 (by simp[ab])
 simp only[ab,Z2,Z3,Z0,Z1]at d10
 go_wp2_with fail
 clear a9 b9
 have hTR:=hTT.suf (List.suffix_cons u R)
 refine(lz _ rb E R [91] (by simp) S9.out.rd).mono ?_
 rintro e wt11 (⟨o,RA,rfl,ho,rfl,hr11,hg11⟩|⟨ho1,rfl,rfl⟩)
 ·skip
  have Kho:=hid ho
  clear ho
  have S12:=hid (S9.out.move hr11 hg11)
  clear hr11 hg11
  have hTRA:=hTR.suf (List.suffix_cons o RA)
  obtain⟨a13,b13⟩:=S12.out.cell 7 (by simp[ab])
  have S13:=hid (S12.out.set 7 (by simp[ab]) (.bool true))
  simp only[ab,Z2,Z3,Z0,Z1]at a13
  go_wp2_with fail
  clear a13 b13
  have HX14:=hid (fx _ rb E RA S13.out.env S13.out.rd hTRA)
  unfold Bad aB at HX14
  refine HX14.out.mono ?_
  rintro e wx14 (⟨x,RB,bx,hpx,rfl,hxB,hr14,hg14⟩|⟨hno,g,en,p,rfl,g1,g2,g3⟩)
  rotate_left
  ·skip
   go_wp2_with fail
   refine⟨rfl,.inr ⟨?_,g,en,p,rfl,g1,Nat.le_trans S13.out.gr.size g2,ah S13.out.gr g3⟩⟩
   intro I R0 hI
   obtain⟨a,rfl,hh⟩:=Tm.dc hI HNW.out
   obtain⟨x,c,R',h1,_⟩:=Tm.iw hh Kho.out
   exact hno _ _ h1
  have KPX:=hid hpx;have X0:=hid hxB
  clear HX14 hpx hxB
  have S15:=hid (S13.out.move hr14 hg14)
  clear hr14 hg14
  obtain⟨a16,b16⟩:=S15.out.cell 8 (by simp[ab])
  have S16:=hid (S15.out.set 8 (by simp[ab]) (.pointer (some ⟨bx,0,none⟩)))
  have X16:=hid (S15.out.fJ 8 (.pointer (some ⟨bx,0,none⟩)) X0.out)
  simp only[ab,Z2,Z3,Z0,Z1]at a16
  go_wp2_with fail
  clear a16 b16
  have HM17:=hid (dp _ rb E RB [93] (by simp) S16.out.rd)
  unfold Bad aB at HM17
  refine HM17.out.mono ?_
  rintro e wm17 (⟨v,RD,rfl,hv,rfl,hr17,hg17⟩|⟨hno,g,en,p,rfl,g1,g2,g3⟩)
  rotate_left
  ·skip
   go_wp2_with fail
   refine⟨rfl,.inr ⟨?_,g,en,p,rfl,g1,Nat.le_trans S16.out.gr.size g2,ah S16.out.gr g3⟩⟩
   intro I R0 hI
   obtain⟨a,rfl,hh⟩:=Tm.dc hI HNW.out
   obtain⟨x',c,R',h1,h2,_⟩:=Tm.iw hh Kho.out
   obtain⟨_,h3⟩:=Tm.eA.det KPX.out h1
   rw[h3]at hno
   exact hno h2
  have Khv:=hid hv
  clear HM17 hv
  have S18:=hid (S16.out.move hr17 hg17)
  have X18:=hid (IsX.grown hg17 x bx X16.out)
  clear hr17 hg17
  go_wp2_with fail
  have HM19:=hid (dp _ rb E RD [59] (by simp) S18.out.rd)
  unfold Bad aB at HM19
  refine HM19.out.mono ?_
  rintro e wm19 (⟨sc,RE,rfl,hs,rfl,hr19,hg19⟩|⟨hno,g,en,p,rfl,g1,g2,g3⟩)
  rotate_left
  ·skip
   go_wp2_with fail
   refine⟨rfl,.inr ⟨?_,g,en,p,rfl,g1,Nat.le_trans S18.out.gr.size g2,ah S18.out.gr g3⟩⟩
   intro I R0 hI
   obtain⟨a,rfl,hh⟩:=Tm.dc hI HNW.out
   obtain⟨x',c,R',h1,h2,h4⟩:=Tm.iw hh Kho.out
   obtain⟨_,h3⟩:=Tm.eA.det KPX.out h1
   cases h3
   exact hno h4
  have Khs:=hid hs
  clear HM19 hs
  have S20:=hid (S18.out.move hr19 hg19)
  have X20:=hid (IsX.grown hg19 x bx X18.out)
  clear hr19 hg19
  have hx21:=S20.out.row
  have hy21:=S20.out.nK
  have c0:=hx21.cell0 0 (by simp[ab]);have y0:=hy21.cell0 0 (by simp[ab]);have z0:=hy21.frozen0 0 (by simp[ab])
  have c1:=hx21.cell0 1 (by simp[ab]);have y1:=hy21.cell0 1 (by simp[ab]);have z1:=hy21.frozen0 1 (by simp[ab])
  have c2:=hx21.cell0 2 (by simp[ab]);have y2:=hy21.cell0 2 (by simp[ab]);have z2:=hy21.frozen0 2 (by simp[ab])
  have c3:=hx21.cell0 3 (by simp[ab]);have y3:=hy21.cell0 3 (by simp[ab]);have z3:=hy21.frozen0 3 (by simp[ab])
  have c4:=hx21.cell0 4 (by simp[ab]);have y4:=hy21.cell0 4 (by simp[ab]);have z4:=hy21.frozen0 4 (by simp[ab])
  have c5:=hx21.cell0 5 (by simp[ab]);have y5:=hy21.cell0 5 (by simp[ab]);have z5:=hy21.frozen0 5 (by simp[ab])
  have c6:=hx21.cell0 6 (by simp[ab]);have y6:=hy21.cell0 6 (by simp[ab]);have z6:=hy21.frozen0 6 (by simp[ab])
  have c7:=hx21.cell0 7 (by simp[ab]);have y7:=hy21.cell0 7 (by simp[ab]);have z7:=hy21.frozen0 7 (by simp[ab])
  have c8:=hx21.cell0 8 (by simp[ab]);have y8:=hy21.cell0 8 (by simp[ab]);have z8:=hy21.frozen0 8 (by simp[ab])
  have c9:=hx21.cell0 9 (by simp[ab]);have y9:=hy21.cell0 9 (by simp[ab]);have z9:=hy21.frozen0 9 (by simp[ab])
  have c10:=hx21.cell0 10 (by simp[ab]);have y10:=hy21.cell0 10 (by simp[ab]);have z10:=hy21.frozen0 10 (by simp[ab])
  have c11:=hx21.cell0 11 (by simp[ab]);have y11:=hy21.cell0 11 (by simp[ab]);have z11:=hy21.frozen0 11 (by simp[ab])
  have c12:=hx21.cell0 12 (by simp[ab]);have y12:=hy21.cell0 12 (by simp[ab]);have z12:=hy21.frozen0 12 (by simp[ab])
  simp only[ab,Z2,Z3,Z0,Z1]at c0 y0 c1 y1 c2 y2 c3 y3 c4 y4 c5 y5 c6 y6 c7 y7 c8 y8 c9 y9 c10 y10 c11 y11 c12 y12
  have hq21:=fM hy21 rfl (.int .i64 1) (.int .i64 (t.2:Nat)) (.string (aa u.1)) (.string {data:= #[]}) (.int .i64 (kv.1:Nat)) (.int .i64 (kv.2.1:Nat)) (.bool kv.2.2) (.bool true) (.pointer (some ⟨bx,0,none⟩)) (.int .i64 0) (.string {data:= #[]}) (.string {data:= #[]}) (.slice none 0 0)
  have F21:=hid (S20.out.fin rfl (.int .i64 1) (.int .i64 (t.2:Nat)) (.string (aa u.1)) (.string {data:= #[]}) (.int .i64 (kv.1:Nat)) (.int .i64 (kv.2.1:Nat)) (.bool kv.2.2) (.bool true) (.pointer (some ⟨bx,0,none⟩)) (.int .i64 0) (.string {data:= #[]}) (.string {data:= #[]}) (.slice none 0 0))
  have r0:=hq21.cell0 0 (by simp)
  have r1:=hq21.cell0 1 (by simp)
  have r2:=hq21.cell0 2 (by simp)
  have r3:=hq21.cell0 3 (by simp)
  have r4:=hq21.cell0 4 (by simp)
  have r5:=hq21.cell0 5 (by simp)
  have r6:=hq21.cell0 6 (by simp)
  have r7:=hq21.cell0 7 (by simp)
  have r8:=hq21.cell0 8 (by simp)
  have r9:=hq21.cell0 9 (by simp)
  have r10:=hq21.cell0 10 (by simp)
  have r11:=hq21.cell0 11 (by simp)
  have r12:=hq21.cell0 12 (by simp)
  simp only[j6,Z2,Z3,Z0,Z1]at r0 r1 r2 r3 r4 r5 r6 r7 r8 r9 r10 r11 r12
  clear hx21 hy21 hq21
  go_wp2_with fail
  exact bodyPost_ret (v:= .agg #[.int .i64 1,.int .i64 (t.2:Nat),.string (aa u.1),.string {data:= #[]},.int .i64 (kv.1:Nat),.int .i64 (kv.2.1:Nat),.bool kv.2.2,.bool true,.pointer (some ⟨bx,0,none⟩),.int .i64 0,.string {data:= #[]},.string {data:= #[]},.slice none 0 0]) (by simp[results,Tryz.results89,go_sem,r0,r1,r2,r3,r4,r5,r6,r7,r8,r9,r10,r11,r12]) rfl (.inl ⟨.cons ⟨t.2,(.scalar t.1),u.1,(some x),.none⟩ .nil,_,Tm.ag ⟨t.2,(.scalar t.1),u.1,(some x),.none⟩ (.pointer (some ⟨bx,0,none⟩)),.hd (.mk KND.out Khu.out (.cnt (.yes Kho.out KPX.out Khv.out) (fun e=>by cases e)) Khs.out),by have hkv:=HKV.out;subst hkv;rfl,⟨_,[],⟨bx,rfl,IsX.al (F21.out.2.2) x bx X20.out⟩,(List.append_nil _).symm,rfl⟩,F21.out.1,F21.out.2.1⟩)
 ·skip
  have Kho1:=hid ho1
  clear ho1
  obtain⟨d22,_⟩:=S9.out.cell 0 (by simp[ab])
  simp only[ab,Z2,Z3,Z0,Z1]at d22
  go_wp2_with fail
  refine(lz _ rb E R [61] (by simp) S9.out.rd).mono ?_
  rintro e wt23 (⟨o,RA,rfl,ho,rfl,hr23,hg23⟩|⟨hoq,rfl,rfl⟩)
  ·skip
   have Kho:=hid ho
   clear ho
   have S24:=hid (S9.out.move hr23 hg23)
   clear hr23 hg23
   go_wp2_with fail
   have hTRA:=hTR.suf (List.suffix_cons o RA)
   obtain⟨wy,hru,hgy,hback⟩:=S24.out.ay (c:=⟨.int .i64 1,.int .i64 (t.2:Nat),.string (aa u.1),.string {data:= #[]},.int .i64 (kv.1:Nat),.int .i64 (kv.2.1:Nat),.bool kv.2.2,.bool false,.pointer none,.slice none 0 0⟩) rfl
   have HRU:=hid (Cq wy _ rb _ E RA _ hru hTRA)
   have HBACK:=hid hback;have HGY:=hid hgy
   clear hru hback hgy
   unfold Bad aB at HRU
   refine HRU.out.mono ?_
   rintro e wr25 (⟨r,RB,hrp,rfl,hrs⟩|⟨hno,g,en,p,rfl,g1,g2,g3⟩)
   rotate_left
   ·skip
    go_wp2_with fail
    refine⟨rfl,.inr ⟨?_,g,en,p,rfl,g1,Nat.le_trans HGY.out.size g2,ah HGY.out g3⟩⟩
    intro I R0 hI
    obtain⟨a,rfl,hh⟩:=Tm.dc hI HNW.out
    obtain⟨r,R',h1,_⟩:=Tm.yQ hh Kho.out
    exact hno _ _ h1
   have KRP:=hid hrp
   have S25:=hid (HBACK.out _ _ _ _ _ hrs)
   clear hrp hrs HRU HBACK HGY
   go_wp2_with fail
   have HM26:=hid (dp _ rb E RB [59] (by simp) S25.out.rd)
   unfold Bad aB at HM26
   refine HM26.out.mono ?_
   rintro e wm26 (⟨sc,RE,rfl,hs,rfl,hr26,hg26⟩|⟨hno,g,en,p,rfl,g1,g2,g3⟩)
   rotate_left
   ·skip
    go_wp2_with fail
    refine⟨rfl,.inr ⟨?_,g,en,p,rfl,g1,Nat.le_trans S25.out.gr.size g2,ah S25.out.gr g3⟩⟩
    intro I R0 hI
    obtain⟨a,rfl,hh⟩:=Tm.dc hI HNW.out
    obtain⟨r',R',h1,h2⟩:=Tm.yQ hh Kho.out
    obtain⟨_,h3⟩:=Tm.dM.det KRP.out h1
    rw[h3]at hno
    exact hno h2
   have Khs:=hid hs
   clear HM26 hs
   have S27:=hid (S25.out.move hr26 hg26)
   clear hr26 hg26
   have hx28:=S27.out.row
   have hy28:=S27.out.nK
   have c0:=hx28.cell0 0 (by simp[ab,C10.row]);have y0:=hy28.cell0 0 (by simp[ab]);have z0:=hy28.frozen0 0 (by simp[ab])
   have c1:=hx28.cell0 1 (by simp[ab,C10.row]);have y1:=hy28.cell0 1 (by simp[ab]);have z1:=hy28.frozen0 1 (by simp[ab])
   have c2:=hx28.cell0 2 (by simp[ab,C10.row]);have y2:=hy28.cell0 2 (by simp[ab]);have z2:=hy28.frozen0 2 (by simp[ab])
   have c3:=hx28.cell0 3 (by simp[ab,C10.row]);have y3:=hy28.cell0 3 (by simp[ab]);have z3:=hy28.frozen0 3 (by simp[ab])
   have c4:=hx28.cell0 4 (by simp[ab,C10.row]);have y4:=hy28.cell0 4 (by simp[ab]);have z4:=hy28.frozen0 4 (by simp[ab])
   have c5:=hx28.cell0 5 (by simp[ab,C10.row]);have y5:=hy28.cell0 5 (by simp[ab]);have z5:=hy28.frozen0 5 (by simp[ab])
   have c6:=hx28.cell0 6 (by simp[ab,C10.row]);have y6:=hy28.cell0 6 (by simp[ab]);have z6:=hy28.frozen0 6 (by simp[ab])
   have c7:=hx28.cell0 7 (by simp[ab,C10.row]);have y7:=hy28.cell0 7 (by simp[ab]);have z7:=hy28.frozen0 7 (by simp[ab])
   have c8:=hx28.cell0 8 (by simp[ab,C10.row]);have y8:=hy28.cell0 8 (by simp[ab]);have z8:=hy28.frozen0 8 (by simp[ab])
   have c9:=hx28.cell0 9 (by simp[ab,C10.row]);have y9:=hy28.cell0 9 (by simp[ab]);have z9:=hy28.frozen0 9 (by simp[ab])
   have c10:=hx28.cell0 10 (by simp[ab,C10.row]);have y10:=hy28.cell0 10 (by simp[ab]);have z10:=hy28.frozen0 10 (by simp[ab])
   have c11:=hx28.cell0 11 (by simp[ab,C10.row]);have y11:=hy28.cell0 11 (by simp[ab]);have z11:=hy28.frozen0 11 (by simp[ab])
   have c12:=hx28.cell0 12 (by simp[ab,C10.row]);have y12:=hy28.cell0 12 (by simp[ab]);have z12:=hy28.frozen0 12 (by simp[ab])
   simp only[ab,C10.row,Z2,Z3,Z0,Z1]at c0 y0 c1 y1 c2 y2 c3 y3 c4 y4 c5 y5 c6 y6 c7 y7 c8 y8 c9 y9 c10 y10 c11 y11 c12 y12
   have hq28:=fM hy28 rfl (.int .i64 1) (.int .i64 (t.2:Nat)) (.string (aa u.1)) (.string {data:= #[]}) (.int .i64 (kv.1:Nat)) (.int .i64 (kv.2.1:Nat)) (.bool kv.2.2) (.bool false) (.pointer none) (.int .i64 ((av r).1:Nat)) (.string (aa (av r).2.1)) (.string (aa (av r).2.2)) (.slice none 0 0)
   have F28:=hid (S27.out.fin rfl (.int .i64 1) (.int .i64 (t.2:Nat)) (.string (aa u.1)) (.string {data:= #[]}) (.int .i64 (kv.1:Nat)) (.int .i64 (kv.2.1:Nat)) (.bool kv.2.2) (.bool false) (.pointer none) (.int .i64 ((av r).1:Nat)) (.string (aa (av r).2.1)) (.string (aa (av r).2.2)) (.slice none 0 0))
   have r0:=hq28.cell0 0 (by simp)
   have r1:=hq28.cell0 1 (by simp)
   have r2:=hq28.cell0 2 (by simp)
   have r3:=hq28.cell0 3 (by simp)
   have r4:=hq28.cell0 4 (by simp)
   have r5:=hq28.cell0 5 (by simp)
   have r6:=hq28.cell0 6 (by simp)
   have r7:=hq28.cell0 7 (by simp)
   have r8:=hq28.cell0 8 (by simp)
   have r9:=hq28.cell0 9 (by simp)
   have r10:=hq28.cell0 10 (by simp)
   have r11:=hq28.cell0 11 (by simp)
   have r12:=hq28.cell0 12 (by simp)
   simp only[j6,Z2,Z3,Z0,Z1]at r0 r1 r2 r3 r4 r5 r6 r7 r8 r9 r10 r11 r12
   clear hx28 hy28 hq28
   go_wp2_with fail
   exact bodyPost_ret (v:= .agg #[.int .i64 1,.int .i64 (t.2:Nat),.string (aa u.1),.string {data:= #[]},.int .i64 (kv.1:Nat),.int .i64 (kv.2.1:Nat),.bool kv.2.2,.bool false,.pointer none,.int .i64 ((av r).1:Nat),.string (aa (av r).2.1),.string (aa (av r).2.2),.slice none 0 0]) (by simp[results,Tryz.results89,go_sem,r0,r1,r2,r3,r4,r5,r6,r7,r8,r9,r10,r11,r12]) rfl (.inl ⟨.cons ⟨t.2,(.scalar t.1),u.1,none,r⟩ .nil,_,Tm.ag ⟨t.2,(.scalar t.1),u.1,none,r⟩ (.pointer none),.hd (.mk KND.out Khu.out (.ay Kho.out KRP.out) Khs.out),by have hkv:=HKV.out;subst hkv;rfl,⟨_,[],rfl,(List.append_nil _).symm,rfl⟩,F28.out.1,F28.out.2.1⟩)
  ·skip
   have Khoq:=hid hoq
   clear hoq
   go_wp2_with fail
   have Kho2:=Khoq
   have HM29:=hid (dp _ rb E R [59] (by simp) S9.out.rd)
   unfold Bad aB at HM29
   refine HM29.out.mono ?_
   rintro e wm29 (⟨sc,RE,rfl,hs,rfl,hr29,hg29⟩|⟨hno,g,en,p,rfl,g1,g2,g3⟩)
   rotate_left
   ·skip
    go_wp2_with fail
    refine⟨rfl,.inr ⟨?_,g,en,p,rfl,g1,Nat.le_trans S9.out.gr.size g2,ah S9.out.gr g3⟩⟩
    intro I R0 hI
    obtain⟨a,rfl,hh⟩:=Tm.dc hI HNW.out
    exact hno (Tm.yR hh Kho1.out (fun _=>Khoq.out))
   have Khs:=hid hs
   clear HM29 hs
   have S30:=hid (S9.out.move hr29 hg29)
   clear hr29 hg29
   have hx31:=S30.out.row
   have hy31:=S30.out.nK
   have c0:=hx31.cell0 0 (by simp[ab]);have y0:=hy31.cell0 0 (by simp[ab]);have z0:=hy31.frozen0 0 (by simp[ab])
   have c1:=hx31.cell0 1 (by simp[ab]);have y1:=hy31.cell0 1 (by simp[ab]);have z1:=hy31.frozen0 1 (by simp[ab])
   have c2:=hx31.cell0 2 (by simp[ab]);have y2:=hy31.cell0 2 (by simp[ab]);have z2:=hy31.frozen0 2 (by simp[ab])
   have c3:=hx31.cell0 3 (by simp[ab]);have y3:=hy31.cell0 3 (by simp[ab]);have z3:=hy31.frozen0 3 (by simp[ab])
   have c4:=hx31.cell0 4 (by simp[ab]);have y4:=hy31.cell0 4 (by simp[ab]);have z4:=hy31.frozen0 4 (by simp[ab])
   have c5:=hx31.cell0 5 (by simp[ab]);have y5:=hy31.cell0 5 (by simp[ab]);have z5:=hy31.frozen0 5 (by simp[ab])
   have c6:=hx31.cell0 6 (by simp[ab]);have y6:=hy31.cell0 6 (by simp[ab]);have z6:=hy31.frozen0 6 (by simp[ab])
   have c7:=hx31.cell0 7 (by simp[ab]);have y7:=hy31.cell0 7 (by simp[ab]);have z7:=hy31.frozen0 7 (by simp[ab])
   have c8:=hx31.cell0 8 (by simp[ab]);have y8:=hy31.cell0 8 (by simp[ab]);have z8:=hy31.frozen0 8 (by simp[ab])
   have c9:=hx31.cell0 9 (by simp[ab]);have y9:=hy31.cell0 9 (by simp[ab]);have z9:=hy31.frozen0 9 (by simp[ab])
   have c10:=hx31.cell0 10 (by simp[ab]);have y10:=hy31.cell0 10 (by simp[ab]);have z10:=hy31.frozen0 10 (by simp[ab])
   have c11:=hx31.cell0 11 (by simp[ab]);have y11:=hy31.cell0 11 (by simp[ab]);have z11:=hy31.frozen0 11 (by simp[ab])
   have c12:=hx31.cell0 12 (by simp[ab]);have y12:=hy31.cell0 12 (by simp[ab]);have z12:=hy31.frozen0 12 (by simp[ab])
   simp only[ab,Z2,Z3,Z0,Z1]at c0 y0 c1 y1 c2 y2 c3 y3 c4 y4 c5 y5 c6 y6 c7 y7 c8 y8 c9 y9 c10 y10 c11 y11 c12 y12
   have hq31:=fM hy31 rfl (.int .i64 1) (.int .i64 (t.2:Nat)) (.string (aa u.1)) (.string {data:= #[]}) (.int .i64 (kv.1:Nat)) (.int .i64 (kv.2.1:Nat)) (.bool kv.2.2) (.bool false) (.pointer none) (.int .i64 0) (.string {data:= #[]}) (.string {data:= #[]}) (.slice none 0 0)
   have F31:=hid (S30.out.fin rfl (.int .i64 1) (.int .i64 (t.2:Nat)) (.string (aa u.1)) (.string {data:= #[]}) (.int .i64 (kv.1:Nat)) (.int .i64 (kv.2.1:Nat)) (.bool kv.2.2) (.bool false) (.pointer none) (.int .i64 0) (.string {data:= #[]}) (.string {data:= #[]}) (.slice none 0 0))
   have r0:=hq31.cell0 0 (by simp)
   have r1:=hq31.cell0 1 (by simp)
   have r2:=hq31.cell0 2 (by simp)
   have r3:=hq31.cell0 3 (by simp)
   have r4:=hq31.cell0 4 (by simp)
   have r5:=hq31.cell0 5 (by simp)
   have r6:=hq31.cell0 6 (by simp)
   have r7:=hq31.cell0 7 (by simp)
   have r8:=hq31.cell0 8 (by simp)
   have r9:=hq31.cell0 9 (by simp)
   have r10:=hq31.cell0 10 (by simp)
   have r11:=hq31.cell0 11 (by simp)
   have r12:=hq31.cell0 12 (by simp)
   simp only[j6,Z2,Z3,Z0,Z1]at r0 r1 r2 r3 r4 r5 r6 r7 r8 r9 r10 r11 r12
   clear hx31 hy31 hq31
   go_wp2_with fail
   exact bodyPost_ret (v:= .agg #[.int .i64 1,.int .i64 (t.2:Nat),.string (aa u.1),.string {data:= #[]},.int .i64 (kv.1:Nat),.int .i64 (kv.2.1:Nat),.bool kv.2.2,.bool false,.pointer none,.int .i64 0,.string {data:= #[]},.string {data:= #[]},.slice none 0 0]) (by simp[results,Tryz.results89,go_sem,r0,r1,r2,r3,r4,r5,r6,r7,r8,r9,r10,r11,r12]) rfl (.inl ⟨.cons ⟨t.2,(.scalar t.1),u.1,none,.none⟩ .nil,_,Tm.ag ⟨t.2,(.scalar t.1),u.1,none,.none⟩ (.pointer none),.hd (.mk KND.out Khu.out (.cnt (.no Kho1.out) (fun e=>by cases e)) Khs.out),by have hkv:=HKV.out;subst hkv;rfl,⟨_,[],rfl,(List.append_nil _).symm,rfl⟩,F31.out.1,F31.out.2.1⟩)
end
end Go.Proofs.YtlomecfhobehnaaGreatDoor
