import Derived.Test.YtlomecfhobehnaaGreatDoorMgFixTwice0
import Derived.Test.YtlomecfhobehnaaGreatDoorMgFixTwice11
set_option linter.unusedVariables false
set_option linter.unusedSimpArgs false
namespace Go.Proofs.YtlomecfhobehnaaGreatDoor
open Lib (hid)
section
set_option maxRecDepth 100000
set_option maxHeartbeats 2000000
open Go.RowKit
open Rd
theorem uF(w:World)(rb E d:Nat)(t:Rd.Tok)(T:List Rd.Tok)(he:Env w rb)(hr:Rdr w rb (t::T) E)(hT:fu (t::T))(hk:Tm.kindOf t.1=none)(hn:Tm.aO t.1=true):
  Calls Tryz.prog 89 #[.pointer (some ⟨rb,0,none⟩),.int .i64 (d:Nat)] w (jK w rb E d (t::T)):=by
 have hnw:t.1≠Tm.dm:=by intro e;rw[e]at hn;exact absurd hn (by decide)
 have hnb:t.1≠Tm.cw:=by intro e;rw[e]at hn;exact absurd hn (by decide)
 have hb0:=(Y4 w.heap.size w).alloc (Z5 _) (.cells #[.int .i64 0,.int .i64 0,.string {data:= #[]},.string {data:= #[]},.int .i64 0,.int .i64 0,.bool false,.bool false,.pointer none,.int .i64 0,.string {data:= #[]},.string {data:= #[]},.slice none 0 0] 70)
 have HA:=hid (bO rb (t::T) E _ (hr.below hb0))
 have hat:Ex.dJ E (t::T)=t.2:=rfl
 rw[hat]at HA
 have S0:=hid (fB.start he hr t.2)
 have htx:ak (t::T)=t.1:=rfl
 have HTT:=hid hT
 have HNW:=hid hnw
 have hTN:=fun V hV=>da rb (t::T) E [119,104,101,110] V hV (by simp) (by rw[htx];exact hnw)
 have HTN:=hid hTN
 have hTX:=fun V hV=>bD rb (t::T) E V hV
 rw[htx]at hTX
 have HTX:=hid hTX
 have hTK:=fun V hV=>da rb (t::T) E [98,121,116,101,115] V hV (by simp) (by rw[htx];exact hnb)
 have HTK:=hid hTK
 have KND:=hid (Tm.mf.struct hn)
 have HKN:=hid hk
 have hNY:=fun V hV=>gR rb t T E V hV hn
 have HNY:=hid hNY
 have hKD:=fun V=>nR t.1 hk V
 have HKD:=hid hKD
 clear hb0 hat he hr hT hTN hTX hTK hKD htx hnw hnb hk hn hNY
 go_enter Tryz.func89,Tryz.ntmps89
 go_wp2_with fail
 refine HA.out.mono ?_
 rintro e w1 ⟨rfl,rfl⟩
 go_wp2_with fail
 refine(HTN.out _ S0.out.rd).mono ?_
 rintro e w1 ⟨rfl,rfl⟩
 go_wp2_with fail
 refine(HTX.out _ S0.out.rd).mono ?_
 rintro e w1 ⟨rfl,rfl⟩
 go_wp2_with fail
 refine(HKD.out _).mono ?_
 rintro e w1 ⟨rfl,k,rfl⟩
 have S1:=hid (S0.out.move (S0.out.rd.drewN k) (fI _ k _))
 generalize World.drewN _ k=w2 at *
 obtain⟨a2,b2⟩:=S1.out.cell 4 (by simp[ab])
 have S2:=hid (S1.out.set 4 (by simp[ab]) (.int .i64 0))
 obtain⟨a3,b3⟩:=S2.out.cell 5 (by simp[ab])
 have S3:=hid (S2.out.set 5 (by simp[ab]) (.int .i64 0))
 obtain⟨a4,b4⟩:=S3.out.cell 6 (by simp[ab])
 have S4:=hid (S3.out.set 6 (by simp[ab]) (.bool false))
 simp only[ab,Z2,Z3,Z0,Z1]at a2 a3 a4
 go_wp2_with fail
 clear a2 b2 a3 b3 a4 b4
 refine(HTK.out _ S4.out.rd).mono ?_
 rintro e w6 ⟨rfl,rfl⟩
 go_wp2_with fail
 refine(HNY.out _ S4.out.rd).mono ?_
 rintro e w7 ⟨rfl,hr7,hg7⟩
 have S5:=hid (S4.out.move hr7 hg7)
 clear hr7 hg7
 obtain⟨a6,b6⟩:=S5.out.cell 0 (by simp[ab])
 have S6:=hid (S5.out.set 0 (by simp[ab]) (.int .i64 3))
 obtain⟨a7,b7⟩:=S6.out.cell 3 (by simp[ab])
 have S7:=hid (S6.out.set 3 (by simp[ab]) (.string (aa t.1)))
 simp only[ab,Z2,Z3,Z0,Z1]at a6 a7
 go_wp2_with fail
 clear a6 b6 a7 b7
 have hTT:=HTT.out.suf (List.suffix_cons t T)
 have HN8:=hid (lk _ rb E T S7.out.rd hTT)
 unfold Bad aB at HN8
 refine HN8.out.mono ?_
 rintro e wn8 (⟨u,R,rfl,hu,rfl,hr8,hg8⟩|⟨hno,g,en,p,rfl,g1,g2,g3⟩)
 rotate_left
 ·skip
  go_wp2_with fail
  refine⟨rfl,.inr ⟨?_,g,en,p,rfl,g1,Nat.le_trans S7.out.gr.size g2,ah S7.out.gr g3⟩⟩
  intro I R0 hI
  obtain⟨a,rfl,hh⟩:=Tm.dc hI HNW.out
  have h1:=Tm.sH hh
  rw[hno]at h1
  cases h1
 have Khu:=hid hu
 clear HN8 hu
 have S9:=hid (S7.out.move hr8 hg8)
 clear hr8 hg8
 obtain⟨a10,b10⟩:=S9.out.cell 2 (by simp[ab])
 have S10:=hid (S9.out.set 2 (by simp[ab]) (.string (aa u.1)))
 simp only[ab,Z2,Z3,Z0,Z1]at a10
 obtain⟨d11,_⟩:=S10.out.cell 0 (by simp[ab])
 simp only[ab,Z2,Z3,Z0,Z1]at d11
 go_wp2_with fail
 clear a10 b10
 have hTR:=hTT.suf (List.suffix_cons u R)
 refine(lz _ rb E R [91] (by simp) S10.out.rd).mono ?_
 rintro e wt12 (⟨o,RA,rfl,ho,rfl,hr12,hg12⟩|⟨ho1,rfl,rfl⟩)
 ·skip
  have Kho:=hid ho
  clear ho
  have S13:=hid (S10.out.move hr12 hg12)
  clear hr12 hg12
  have hTRA:=hTR.suf (List.suffix_cons o RA)
  obtain⟨a14,b14⟩:=S13.out.cell 7 (by simp[ab])
  have S14:=hid (S13.out.set 7 (by simp[ab]) (.bool true))
  simp only[ab,Z2,Z3,Z0,Z1]at a14
  go_wp2_with fail
  clear a14 b14
  have HX15:=hid (fx _ rb E RA S14.out.env S14.out.rd hTRA)
  unfold Bad aB at HX15
  refine HX15.out.mono ?_
  rintro e wx15 (⟨x,RB,bx,hpx,rfl,hxB,hr15,hg15⟩|⟨hno,g,en,p,rfl,g1,g2,g3⟩)
  rotate_left
  ·skip
   go_wp2_with fail
   refine⟨rfl,.inr ⟨?_,g,en,p,rfl,g1,Nat.le_trans S14.out.gr.size g2,ah S14.out.gr g3⟩⟩
   intro I R0 hI
   obtain⟨a,rfl,hh⟩:=Tm.dc hI HNW.out
   obtain⟨x,c,R',h1,_⟩:=Tm.iw hh Kho.out
   exact hno _ _ h1
  have KPX:=hid hpx;have X0:=hid hxB
  clear HX15 hpx hxB
  have S16:=hid (S14.out.move hr15 hg15)
  clear hr15 hg15
  obtain⟨a17,b17⟩:=S16.out.cell 8 (by simp[ab])
  have S17:=hid (S16.out.set 8 (by simp[ab]) (.pointer (some ⟨bx,0,none⟩)))
  have X17:=hid (S16.out.fJ 8 (.pointer (some ⟨bx,0,none⟩)) X0.out)
  simp only[ab,Z2,Z3,Z0,Z1]at a17
  go_wp2_with fail
  clear a17 b17
  have HM18:=hid (dp _ rb E RB [93] (by simp) S17.out.rd)
  unfold Bad aB at HM18
  refine HM18.out.mono ?_
  rintro e wm18 (⟨v,RD,rfl,hv,rfl,hr18,hg18⟩|⟨hno,g,en,p,rfl,g1,g2,g3⟩)
  rotate_left
  ·skip
   go_wp2_with fail
   refine⟨rfl,.inr ⟨?_,g,en,p,rfl,g1,Nat.le_trans S17.out.gr.size g2,ah S17.out.gr g3⟩⟩
   intro I R0 hI
   obtain⟨a,rfl,hh⟩:=Tm.dc hI HNW.out
   obtain⟨x',c,R',h1,h2,_⟩:=Tm.iw hh Kho.out
   obtain⟨_,h3⟩:=Tm.eA.det KPX.out h1
   rw[h3]at hno
   exact hno h2
  have Khv:=hid hv
  clear HM18 hv
  have S19:=hid (S17.out.move hr18 hg18)
  have X19:=hid (IsX.grown hg18 x bx X17.out)
  clear hr18 hg18
  go_wp2_with fail
  have HM20:=hid (dp _ rb E RD [59] (by simp) S19.out.rd)
  unfold Bad aB at HM20
  refine HM20.out.mono ?_
  rintro e wm20 (⟨sc,RE,rfl,hs,rfl,hr20,hg20⟩|⟨hno,g,en,p,rfl,g1,g2,g3⟩)
  rotate_left
  ·skip
   go_wp2_with fail
   refine⟨rfl,.inr ⟨?_,g,en,p,rfl,g1,Nat.le_trans S19.out.gr.size g2,ah S19.out.gr g3⟩⟩
   intro I R0 hI
   obtain⟨a,rfl,hh⟩:=Tm.dc hI HNW.out
   obtain⟨x',c,R',h1,h2,h4⟩:=Tm.iw hh Kho.out
   obtain⟨_,h3⟩:=Tm.eA.det KPX.out h1
   cases h3
   exact hno h4
  have Khs:=hid hs
  clear HM20 hs
  have S21:=hid (S19.out.move hr20 hg20)
  have X21:=hid (IsX.grown hg20 x bx X19.out)
  clear hr20 hg20
  have hx22:=S21.out.row
  have hy22:=S21.out.nK
  have c0:=hx22.cell0 0 (by simp[ab]);have y0:=hy22.cell0 0 (by simp[ab]);have z0:=hy22.frozen0 0 (by simp[ab])
  have c1:=hx22.cell0 1 (by simp[ab]);have y1:=hy22.cell0 1 (by simp[ab]);have z1:=hy22.frozen0 1 (by simp[ab])
  have c2:=hx22.cell0 2 (by simp[ab]);have y2:=hy22.cell0 2 (by simp[ab]);have z2:=hy22.frozen0 2 (by simp[ab])
  have c3:=hx22.cell0 3 (by simp[ab]);have y3:=hy22.cell0 3 (by simp[ab]);have z3:=hy22.frozen0 3 (by simp[ab])
  have c4:=hx22.cell0 4 (by simp[ab]);have y4:=hy22.cell0 4 (by simp[ab]);have z4:=hy22.frozen0 4 (by simp[ab])
  have c5:=hx22.cell0 5 (by simp[ab]);have y5:=hy22.cell0 5 (by simp[ab]);have z5:=hy22.frozen0 5 (by simp[ab])
  have c6:=hx22.cell0 6 (by simp[ab]);have y6:=hy22.cell0 6 (by simp[ab]);have z6:=hy22.frozen0 6 (by simp[ab])
  have c7:=hx22.cell0 7 (by simp[ab]);have y7:=hy22.cell0 7 (by simp[ab]);have z7:=hy22.frozen0 7 (by simp[ab])
  have c8:=hx22.cell0 8 (by simp[ab]);have y8:=hy22.cell0 8 (by simp[ab]);have z8:=hy22.frozen0 8 (by simp[ab])
  have c9:=hx22.cell0 9 (by simp[ab]);have y9:=hy22.cell0 9 (by simp[ab]);have z9:=hy22.frozen0 9 (by simp[ab])
  have c10:=hx22.cell0 10 (by simp[ab]);have y10:=hy22.cell0 10 (by simp[ab]);have z10:=hy22.frozen0 10 (by simp[ab])
  have c11:=hx22.cell0 11 (by simp[ab]);have y11:=hy22.cell0 11 (by simp[ab]);have z11:=hy22.frozen0 11 (by simp[ab])
  have c12:=hx22.cell0 12 (by simp[ab]);have y12:=hy22.cell0 12 (by simp[ab]);have z12:=hy22.frozen0 12 (by simp[ab])
  simp only[ab,Z2,Z3,Z0,Z1]at c0 y0 c1 y1 c2 y2 c3 y3 c4 y4 c5 y5 c6 y6 c7 y7 c8 y8 c9 y9 c10 y10 c11 y11 c12 y12
  have hq22:=fM hy22 rfl (.int .i64 3) (.int .i64 (t.2:Nat)) (.string (aa u.1)) (.string (aa t.1)) (.int .i64 0) (.int .i64 0) (.bool false) (.bool true) (.pointer (some ⟨bx,0,none⟩)) (.int .i64 0) (.string {data:= #[]}) (.string {data:= #[]}) (.slice none 0 0)
  have F22:=hid (S21.out.fin rfl (.int .i64 3) (.int .i64 (t.2:Nat)) (.string (aa u.1)) (.string (aa t.1)) (.int .i64 0) (.int .i64 0) (.bool false) (.bool true) (.pointer (some ⟨bx,0,none⟩)) (.int .i64 0) (.string {data:= #[]}) (.string {data:= #[]}) (.slice none 0 0))
  have r0:=hq22.cell0 0 (by simp)
  have r1:=hq22.cell0 1 (by simp)
  have r2:=hq22.cell0 2 (by simp)
  have r3:=hq22.cell0 3 (by simp)
  have r4:=hq22.cell0 4 (by simp)
  have r5:=hq22.cell0 5 (by simp)
  have r6:=hq22.cell0 6 (by simp)
  have r7:=hq22.cell0 7 (by simp)
  have r8:=hq22.cell0 8 (by simp)
  have r9:=hq22.cell0 9 (by simp)
  have r10:=hq22.cell0 10 (by simp)
  have r11:=hq22.cell0 11 (by simp)
  have r12:=hq22.cell0 12 (by simp)
  simp only[j6,Z2,Z3,Z0,Z1]at r0 r1 r2 r3 r4 r5 r6 r7 r8 r9 r10 r11 r12
  clear hx22 hy22 hq22
  go_wp2_with fail
  exact bodyPost_ret (v:= .agg #[.int .i64 3,.int .i64 (t.2:Nat),.string (aa u.1),.string (aa t.1),.int .i64 0,.int .i64 0,.bool false,.bool true,.pointer (some ⟨bx,0,none⟩),.int .i64 0,.string {data:= #[]},.string {data:= #[]},.slice none 0 0]) (by simp[results,Tryz.results89,go_sem,r0,r1,r2,r3,r4,r5,r6,r7,r8,r9,r10,r11,r12]) rfl (.inl ⟨.cons ⟨t.2,(.struct t.1),u.1,(some x),.none⟩ .nil,_,Tm.ag ⟨t.2,(.struct t.1),u.1,(some x),.none⟩ (.pointer (some ⟨bx,0,none⟩)),.hd (.mk KND.out Khu.out (.cnt (.yes Kho.out KPX.out Khv.out) (fun e=>by cases e)) Khs.out),rfl,⟨_,[],⟨bx,rfl,IsX.al (F22.out.2.2) x bx X21.out⟩,(List.append_nil _).symm,rfl⟩,F22.out.1,F22.out.2.1⟩)
 ·skip
  have Kho1:=hid ho1
  clear ho1
  obtain⟨d23,_⟩:=S10.out.cell 0 (by simp[ab])
  simp only[ab,Z2,Z3,Z0,Z1]at d23
  go_wp2_with fail
  have HM24:=hid (dp _ rb E R [59] (by simp) S10.out.rd)
  unfold Bad aB at HM24
  refine HM24.out.mono ?_
  rintro e wm24 (⟨sc,RE,rfl,hs,rfl,hr24,hg24⟩|⟨hno,g,en,p,rfl,g1,g2,g3⟩)
  rotate_left
  ·skip
   go_wp2_with fail
   refine⟨rfl,.inr ⟨?_,g,en,p,rfl,g1,Nat.le_trans S10.out.gr.size g2,ah S10.out.gr g3⟩⟩
   intro I R0 hI
   obtain⟨a,rfl,hh⟩:=Tm.dc hI HNW.out
   exact hno (Tm.yR hh Kho1.out (fun hk=>by rw[HKN.out]at hk;cases hk))
  have Khs:=hid hs
  clear HM24 hs
  have S25:=hid (S10.out.move hr24 hg24)
  clear hr24 hg24
  have hx26:=S25.out.row
  have hy26:=S25.out.nK
  have c0:=hx26.cell0 0 (by simp[ab]);have y0:=hy26.cell0 0 (by simp[ab]);have z0:=hy26.frozen0 0 (by simp[ab])
  have c1:=hx26.cell0 1 (by simp[ab]);have y1:=hy26.cell0 1 (by simp[ab]);have z1:=hy26.frozen0 1 (by simp[ab])
  have c2:=hx26.cell0 2 (by simp[ab]);have y2:=hy26.cell0 2 (by simp[ab]);have z2:=hy26.frozen0 2 (by simp[ab])
  have c3:=hx26.cell0 3 (by simp[ab]);have y3:=hy26.cell0 3 (by simp[ab]);have z3:=hy26.frozen0 3 (by simp[ab])
  have c4:=hx26.cell0 4 (by simp[ab]);have y4:=hy26.cell0 4 (by simp[ab]);have z4:=hy26.frozen0 4 (by simp[ab])
  have c5:=hx26.cell0 5 (by simp[ab]);have y5:=hy26.cell0 5 (by simp[ab]);have z5:=hy26.frozen0 5 (by simp[ab])
  have c6:=hx26.cell0 6 (by simp[ab]);have y6:=hy26.cell0 6 (by simp[ab]);have z6:=hy26.frozen0 6 (by simp[ab])
  have c7:=hx26.cell0 7 (by simp[ab]);have y7:=hy26.cell0 7 (by simp[ab]);have z7:=hy26.frozen0 7 (by simp[ab])
  have c8:=hx26.cell0 8 (by simp[ab]);have y8:=hy26.cell0 8 (by simp[ab]);have z8:=hy26.frozen0 8 (by simp[ab])
  have c9:=hx26.cell0 9 (by simp[ab]);have y9:=hy26.cell0 9 (by simp[ab]);have z9:=hy26.frozen0 9 (by simp[ab])
  have c10:=hx26.cell0 10 (by simp[ab]);have y10:=hy26.cell0 10 (by simp[ab]);have z10:=hy26.frozen0 10 (by simp[ab])
  have c11:=hx26.cell0 11 (by simp[ab]);have y11:=hy26.cell0 11 (by simp[ab]);have z11:=hy26.frozen0 11 (by simp[ab])
  have c12:=hx26.cell0 12 (by simp[ab]);have y12:=hy26.cell0 12 (by simp[ab]);have z12:=hy26.frozen0 12 (by simp[ab])
  simp only[ab,Z2,Z3,Z0,Z1]at c0 y0 c1 y1 c2 y2 c3 y3 c4 y4 c5 y5 c6 y6 c7 y7 c8 y8 c9 y9 c10 y10 c11 y11 c12 y12
  have hq26:=fM hy26 rfl (.int .i64 3) (.int .i64 (t.2:Nat)) (.string (aa u.1)) (.string (aa t.1)) (.int .i64 0) (.int .i64 0) (.bool false) (.bool false) (.pointer none) (.int .i64 0) (.string {data:= #[]}) (.string {data:= #[]}) (.slice none 0 0)
  have F26:=hid (S25.out.fin rfl (.int .i64 3) (.int .i64 (t.2:Nat)) (.string (aa u.1)) (.string (aa t.1)) (.int .i64 0) (.int .i64 0) (.bool false) (.bool false) (.pointer none) (.int .i64 0) (.string {data:= #[]}) (.string {data:= #[]}) (.slice none 0 0))
  have r0:=hq26.cell0 0 (by simp)
  have r1:=hq26.cell0 1 (by simp)
  have r2:=hq26.cell0 2 (by simp)
  have r3:=hq26.cell0 3 (by simp)
  have r4:=hq26.cell0 4 (by simp)
  have r5:=hq26.cell0 5 (by simp)
  have r6:=hq26.cell0 6 (by simp)
  have r7:=hq26.cell0 7 (by simp)
  have r8:=hq26.cell0 8 (by simp)
  have r9:=hq26.cell0 9 (by simp)
  have r10:=hq26.cell0 10 (by simp)
  have r11:=hq26.cell0 11 (by simp)
  have r12:=hq26.cell0 12 (by simp)
  simp only[j6,Z2,Z3,Z0,Z1]at r0 r1 r2 r3 r4 r5 r6 r7 r8 r9 r10 r11 r12
  clear hx26 hy26 hq26
  go_wp2_with fail
  exact bodyPost_ret (v:= .agg #[.int .i64 3,.int .i64 (t.2:Nat),.string (aa u.1),.string (aa t.1),.int .i64 0,.int .i64 0,.bool false,.bool false,.pointer none,.int .i64 0,.string {data:= #[]},.string {data:= #[]},.slice none 0 0]) (by simp[results,Tryz.results89,go_sem,r0,r1,r2,r3,r4,r5,r6,r7,r8,r9,r10,r11,r12]) rfl (.inl ⟨.cons ⟨t.2,(.struct t.1),u.1,none,.none⟩ .nil,_,Tm.ag ⟨t.2,(.struct t.1),u.1,none,.none⟩ (.pointer none),.hd (.mk KND.out Khu.out (.cnt (.no Kho1.out) (fun e=>by cases e)) Khs.out),rfl,⟨_,[],rfl,(List.append_nil _).symm,rfl⟩,F26.out.1,F26.out.2.1⟩)
theorem AB(w:World)(rb E d:Nat)(T:List Rd.Tok)(he:Env w rb)(hr:Rdr w rb T E)(hT:fu T)(hnw:Tm.ak T≠Tm.dm)(hk:Tm.kindOf (Tm.ak T)=none)(hnb:Tm.ak T≠Tm.cw)(hn:Tm.aO (Tm.ak T)=false):
  Calls Tryz.prog 89 #[.pointer (some ⟨rb,0,none⟩),.int .i64 (d:Nat)] w (jK w rb E d T):=by
 have htx:ak T=Tm.ak T:=by cases T <;> rfl
 have hb0:=(Y4 w.heap.size w).alloc (Z5 _) (.cells #[.int .i64 0,.int .i64 0,.string {data:= #[]},.string {data:= #[]},.int .i64 0,.int .i64 0,.bool false,.bool false,.pointer none,.int .i64 0,.string {data:= #[]},.string {data:= #[]},.slice none 0 0] 70)
 have HA:=hid (bO rb T E _ (hr.below hb0))
 generalize Ex.dJ E T=at_ at *
 have S0:=hid (fB.start he hr at_)
 have hneg:∀I R,¬Tm.gS E d T I R:=by
  intro I R hI
  obtain⟨a,rfl,hh⟩:=Tm.dc hI hnw
  cases T with
  |nil=>exact Tm.Fw hh
  |cons t T=>
   rcases Tm.Fv hh with h|h|h
   ·rw[show Tm.kindOf t.1=none from hk]at h;cases h
   ·exact hnb h
   ·rw[show Tm.aO t.1=false from hn]at h;cases h
 have HNEG:=hid hneg
 have HTN:=hid (fun V hV=>da rb T E [119,104,101,110] V hV (by simp) (by rw[htx];exact hnw))
 have hTX:=fun V hV=>bD rb T E V hV
 rw[htx]at hTX
 have HTX:=hid hTX
 have HTK:=hid (fun V hV=>da rb T E [98,121,116,101,115] V hV (by simp) (by rw[htx];exact hnb))
 have hNN:=fun V hV=>jH rb T E V hV hn hT.text
 unfold Bad aB at hNN
 have HNN:=hid hNN
 have HKD:=hid (fun V=>nR (Tm.ak T) hk V)
 generalize Tm.ak T=s at *
 clear hb0 he hr hT hTX htx hnw hk hnb hn hneg hNN
 go_enter Tryz.func89,Tryz.ntmps89
 go_wp2_with fail
 refine HA.out.mono ?_
 rintro e w1 ⟨rfl,rfl⟩
 go_wp2_with fail
 refine(HTN.out _ S0.out.rd).mono ?_
 rintro e w1 ⟨rfl,rfl⟩
 go_wp2_with fail
 refine(HTX.out _ S0.out.rd).mono ?_
 rintro e w1 ⟨rfl,rfl⟩
 go_wp2_with fail
 refine(HKD.out _).mono ?_
 rintro e w1 ⟨rfl,k,rfl⟩
 have S1:=hid (S0.out.move (S0.out.rd.drewN k) (fI _ k _))
 generalize World.drewN _ k=w2 at *
 obtain⟨a2,b2⟩:=S1.out.cell 4 (by simp[ab])
 have S2:=hid (S1.out.set 4 (by simp[ab]) (.int .i64 0))
 obtain⟨a3,b3⟩:=S2.out.cell 5 (by simp[ab])
 have S3:=hid (S2.out.set 5 (by simp[ab]) (.int .i64 0))
 obtain⟨a4,b4⟩:=S3.out.cell 6 (by simp[ab])
 have S4:=hid (S3.out.set 6 (by simp[ab]) (.bool false))
 simp only[ab,Z2,Z3,Z0,Z1]at a2 a3 a4
 go_wp2_with fail
 clear a2 b2 a3 b3 a4 b4
 refine(HTK.out _ S4.out.rd).mono ?_
 rintro e w6 ⟨rfl,rfl⟩
 go_wp2_with fail
 refine(HNN.out _ S4.out.rd).mono ?_
 rintro e w7 ⟨g,en,p,rfl,g1,g2,g3⟩
 go_wp2_with fail
 exact⟨rfl,.inr ⟨HNEG.out,g,en,p,rfl,g1,Nat.le_trans S4.out.gr.size g2,ah S4.out.gr g3⟩⟩
end
end Go.Proofs.YtlomecfhobehnaaGreatDoor
