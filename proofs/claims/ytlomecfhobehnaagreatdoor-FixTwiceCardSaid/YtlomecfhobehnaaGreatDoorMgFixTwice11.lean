import Derived.Test.YtlomecfhobehnaaGreatDoorMgFixTwice0
import Derived.Test.YtlomecfhobehnaaGreatDoorMgFixTwice10
set_option linter.unusedVariables false
set_option linter.unusedSimpArgs false
namespace Go.Proofs.YtlomecfhobehnaaGreatDoor
open Lib (hid)
section
set_option maxRecDepth 100000
set_option maxHeartbeats 2000000
open Go.RowKit
open Rd
theorem xw(w:World)(rb E d:Nat)(t:Rd.Tok)(T:List Rd.Tok)(he:Env w rb)(hr:Rdr w rb (t::T) E)(hT:fu (t::T))(ht:t.1=Tm.cw):
  Calls Tryz.prog 89 #[.pointer (some ⟨rb,0,none⟩),.int .i64 (d:Nat)] w (jK w rb E d (t::T)):=by
 have hnw:t.1≠Tm.dm:=by rw[ht];decide
 have hb0:=(Y4 w.heap.size w).alloc (Z5 _) (.cells #[.int .i64 0,.int .i64 0,.string {data:= #[]},.string {data:= #[]},.int .i64 0,.int .i64 0,.bool false,.bool false,.pointer none,.int .i64 0,.string {data:= #[]},.string {data:= #[]},.slice none 0 0] 70)
 have HA:=hid (bO rb (t::T) E _ (hr.below hb0))
 have hat:Ex.dJ E (t::T)=t.2:=rfl
 rw[hat]at HA
 have S0:=hid (fB.start he hr t.2)
 have htx:ak (t::T)=t.1:=rfl
 have HTT:=hid hT
 have HNW:=hid hnw
 have hTN:=fun V hV=>da rb (t::T) E [119,104,101,110] V hV (by simp) (by rw[htx];exact hnw)
 have HTN:=hid hTN
 have hTX:=fun V hV=>bD rb (t::T) E V hV
 rw[htx]at hTX
 rw[ht]at hTX
 have HTX:=hid hTX
 have hTK:=fun V hV=>ei rb t T E V hV (by rw[ht];decide)
 rw[ht]at hTK
 have HTK:=hid hTK
 have KND:=hid (Tm.mf.bytes ht)
 have HTB:=hid ht
 have hKD:=fun V=>nR Tm.cw (by decide) V
 have HKD:=hid hKD
 clear hb0 hat he hr hT ht hTN hTX hTK hKD htx hnw
 go_enter Tryz.func89,Tryz.ntmps89
 go_wp2_with fail
 refine HA.out.mono ?_
 rintro e w1 ⟨rfl,rfl⟩
 go_wp2_with fail
 refine(HTN.out _ S0.out.rd).mono ?_
 rintro e w1 ⟨rfl,rfl⟩
 go_wp2_with fail
 refine(HTX.out _ S0.out.rd).mono ?_
 rintro e w1 ⟨rfl,rfl⟩
 go_wp2_with fail
 refine(HKD.out _).mono ?_
 rintro e w1 ⟨rfl,k,rfl⟩
 have S1:=hid (S0.out.move (S0.out.rd.drewN k) (fI _ k _))
 generalize World.drewN _ k=w2 at *
 obtain⟨a2,b2⟩:=S1.out.cell 4 (by simp[ab])
 have S2:=hid (S1.out.set 4 (by simp[ab]) (.int .i64 0))
 obtain⟨a3,b3⟩:=S2.out.cell 5 (by simp[ab])
 have S3:=hid (S2.out.set 5 (by simp[ab]) (.int .i64 0))
 obtain⟨a4,b4⟩:=S3.out.cell 6 (by simp[ab])
 have S4:=hid (S3.out.set 6 (by simp[ab]) (.bool false))
 simp only[ab,Z2,Z3,Z0,Z1]at a2 a3 a4
 go_wp2_with fail
 clear a2 b2 a3 b3 a4 b4
 refine(HTK.out _ S4.out.rd).mono ?_
 rintro e w6 ⟨rfl,hr6,hg6⟩
 have S5:=hid (S4.out.move hr6 hg6)
 clear hr6 hg6
 obtain⟨a6,b6⟩:=S5.out.cell 0 (by simp[ab])
 have S6:=hid (S5.out.set 0 (by simp[ab]) (.int .i64 2))
 simp only[ab,Z2,Z3,Z0,Z1]at a6
 go_wp2_with fail
 clear a6 b6
 have hTT:=HTT.out.suf (List.suffix_cons t T)
 have HN7:=hid (lk _ rb E T S6.out.rd hTT)
 unfold Bad aB at HN7
 refine HN7.out.mono ?_
 rintro e wn7 (⟨u,R,rfl,hu,rfl,hr7,hg7⟩|⟨hno,g,en,p,rfl,g1,g2,g3⟩)
 rotate_left
 ·skip
  go_wp2_with fail
  refine⟨rfl,.inr ⟨?_,g,en,p,rfl,g1,Nat.le_trans S6.out.gr.size g2,ah S6.out.gr g3⟩⟩
  intro I R0 hI
  obtain⟨a,rfl,hh⟩:=Tm.dc hI HNW.out
  have h1:=Tm.sH hh
  rw[hno]at h1
  cases h1
 have Khu:=hid hu
 clear HN7 hu
 have S8:=hid (S6.out.move hr7 hg7)
 clear hr7 hg7
 obtain⟨a9,b9⟩:=S8.out.cell 2 (by simp[ab])
 have S9:=hid (S8.out.set 2 (by simp[ab]) (.string (aa u.1)))
 simp only[ab,Z2,Z3,Z0,Z1]at a9
 obtain⟨d10,_⟩:=S9.out.cell 0 (by simp[ab])
 simp only[ab,Z2,Z3,Z0,Z1]at d10
 go_wp2_with fail
 clear a9 b9
 have hTR:=hTT.suf (List.suffix_cons u R)
 have HM11:=hid (dp _ rb E R [91] (by simp) S9.out.rd)
 unfold Bad aB at HM11
 refine HM11.out.mono ?_
 rintro e wm11 (⟨o,RA,rfl,ho,rfl,hr11,hg11⟩|⟨hno,g,en,p,rfl,g1,g2,g3⟩)
 rotate_left
 ·skip
  go_wp2_with fail
  refine⟨rfl,.inr ⟨?_,g,en,p,rfl,g1,Nat.le_trans S9.out.gr.size g2,ah S9.out.gr g3⟩⟩
  intro I R0 hI
  obtain⟨a,rfl,hh⟩:=Tm.dc hI HNW.out
  exact hno (Tm.Cr hh HTB.out)
 have Kho:=hid ho
 clear HM11 ho
 have S12:=hid (S9.out.move hr11 hg11)
 clear hr11 hg11
 go_wp2_with fail
 have hTRA:=hTR.suf (List.suffix_cons o RA)
 have HX13:=hid (fx _ rb E RA S12.out.env S12.out.rd hTRA)
 unfold Bad aB at HX13
 refine HX13.out.mono ?_
 rintro e wx13 (⟨x,RB,bx,hpx,rfl,hxB,hr13,hg13⟩|⟨hno,g,en,p,rfl,g1,g2,g3⟩)
 rotate_left
 ·skip
  go_wp2_with fail
  refine⟨rfl,.inr ⟨?_,g,en,p,rfl,g1,Nat.le_trans S12.out.gr.size g2,ah S12.out.gr g3⟩⟩
  intro I R0 hI
  obtain⟨a,rfl,hh⟩:=Tm.dc hI HNW.out
  obtain⟨x,c,R',h1,_⟩:=Tm.iw hh Kho.out
  exact hno _ _ h1
 have KPX:=hid hpx;have X0:=hid hxB
 clear HX13 hpx hxB
 have S14:=hid (S12.out.move hr13 hg13)
 clear hr13 hg13
 obtain⟨a15,b15⟩:=S14.out.cell 8 (by simp[ab])
 have S15:=hid (S14.out.set 8 (by simp[ab]) (.pointer (some ⟨bx,0,none⟩)))
 have X15:=hid (S14.out.fJ 8 (.pointer (some ⟨bx,0,none⟩)) X0.out)
 simp only[ab,Z2,Z3,Z0,Z1]at a15
 go_wp2_with fail
 clear a15 b15
 have HM16:=hid (dp _ rb E RB [93] (by simp) S15.out.rd)
 unfold Bad aB at HM16
 refine HM16.out.mono ?_
 rintro e wm16 (⟨v,RD,rfl,hv,rfl,hr16,hg16⟩|⟨hno,g,en,p,rfl,g1,g2,g3⟩)
 rotate_left
 ·skip
  go_wp2_with fail
  refine⟨rfl,.inr ⟨?_,g,en,p,rfl,g1,Nat.le_trans S15.out.gr.size g2,ah S15.out.gr g3⟩⟩
  intro I R0 hI
  obtain⟨a,rfl,hh⟩:=Tm.dc hI HNW.out
  obtain⟨x',c,R',h1,h2,_⟩:=Tm.iw hh Kho.out
  obtain⟨_,h3⟩:=Tm.eA.det KPX.out h1
  rw[h3]at hno
  exact hno h2
 have Khv:=hid hv
 clear HM16 hv
 have S17:=hid (S15.out.move hr16 hg16)
 have X17:=hid (IsX.grown hg16 x bx X15.out)
 clear hr16 hg16
 go_wp2_with fail
 have HM18:=hid (dp _ rb E RD [59] (by simp) S17.out.rd)
 unfold Bad aB at HM18
 refine HM18.out.mono ?_
 rintro e wm18 (⟨sc,RE,rfl,hs,rfl,hr18,hg18⟩|⟨hno,g,en,p,rfl,g1,g2,g3⟩)
 rotate_left
 ·skip
  go_wp2_with fail
  refine⟨rfl,.inr ⟨?_,g,en,p,rfl,g1,Nat.le_trans S17.out.gr.size g2,ah S17.out.gr g3⟩⟩
  intro I R0 hI
  obtain⟨a,rfl,hh⟩:=Tm.dc hI HNW.out
  obtain⟨x',c,R',h1,h2,h4⟩:=Tm.iw hh Kho.out
  obtain⟨_,h3⟩:=Tm.eA.det KPX.out h1
  cases h3
  exact hno h4
 have Khs:=hid hs
 clear HM18 hs
 have S19:=hid (S17.out.move hr18 hg18)
 have X19:=hid (IsX.grown hg18 x bx X17.out)
 clear hr18 hg18
 have hx20:=S19.out.row
 have hy20:=S19.out.nK
 have c0:=hx20.cell0 0 (by simp[ab]);have y0:=hy20.cell0 0 (by simp[ab]);have z0:=hy20.frozen0 0 (by simp[ab])
 have c1:=hx20.cell0 1 (by simp[ab]);have y1:=hy20.cell0 1 (by simp[ab]);have z1:=hy20.frozen0 1 (by simp[ab])
 have c2:=hx20.cell0 2 (by simp[ab]);have y2:=hy20.cell0 2 (by simp[ab]);have z2:=hy20.frozen0 2 (by simp[ab])
 have c3:=hx20.cell0 3 (by simp[ab]);have y3:=hy20.cell0 3 (by simp[ab]);have z3:=hy20.frozen0 3 (by simp[ab])
 have c4:=hx20.cell0 4 (by simp[ab]);have y4:=hy20.cell0 4 (by simp[ab]);have z4:=hy20.frozen0 4 (by simp[ab])
 have c5:=hx20.cell0 5 (by simp[ab]);have y5:=hy20.cell0 5 (by simp[ab]);have z5:=hy20.frozen0 5 (by simp[ab])
 have c6:=hx20.cell0 6 (by simp[ab]);have y6:=hy20.cell0 6 (by simp[ab]);have z6:=hy20.frozen0 6 (by simp[ab])
 have c7:=hx20.cell0 7 (by simp[ab]);have y7:=hy20.cell0 7 (by simp[ab]);have z7:=hy20.frozen0 7 (by simp[ab])
 have c8:=hx20.cell0 8 (by simp[ab]);have y8:=hy20.cell0 8 (by simp[ab]);have z8:=hy20.frozen0 8 (by simp[ab])
 have c9:=hx20.cell0 9 (by simp[ab]);have y9:=hy20.cell0 9 (by simp[ab]);have z9:=hy20.frozen0 9 (by simp[ab])
 have c10:=hx20.cell0 10 (by simp[ab]);have y10:=hy20.cell0 10 (by simp[ab]);have z10:=hy20.frozen0 10 (by simp[ab])
 have c11:=hx20.cell0 11 (by simp[ab]);have y11:=hy20.cell0 11 (by simp[ab]);have z11:=hy20.frozen0 11 (by simp[ab])
 have c12:=hx20.cell0 12 (by simp[ab]);have y12:=hy20.cell0 12 (by simp[ab]);have z12:=hy20.frozen0 12 (by simp[ab])
 simp only[ab,Z2,Z3,Z0,Z1]at c0 y0 c1 y1 c2 y2 c3 y3 c4 y4 c5 y5 c6 y6 c7 y7 c8 y8 c9 y9 c10 y10 c11 y11 c12 y12
 have hq20:=fM hy20 rfl (.int .i64 2) (.int .i64 (t.2:Nat)) (.string (aa u.1)) (.string {data:= #[]}) (.int .i64 0) (.int .i64 0) (.bool false) (.bool false) (.pointer (some ⟨bx,0,none⟩)) (.int .i64 0) (.string {data:= #[]}) (.string {data:= #[]}) (.slice none 0 0)
 have F20:=hid (S19.out.fin rfl (.int .i64 2) (.int .i64 (t.2:Nat)) (.string (aa u.1)) (.string {data:= #[]}) (.int .i64 0) (.int .i64 0) (.bool false) (.bool false) (.pointer (some ⟨bx,0,none⟩)) (.int .i64 0) (.string {data:= #[]}) (.string {data:= #[]}) (.slice none 0 0))
 have r0:=hq20.cell0 0 (by simp)
 have r1:=hq20.cell0 1 (by simp)
 have r2:=hq20.cell0 2 (by simp)
 have r3:=hq20.cell0 3 (by simp)
 have r4:=hq20.cell0 4 (by simp)
 have r5:=hq20.cell0 5 (by simp)
 have r6:=hq20.cell0 6 (by simp)
 have r7:=hq20.cell0 7 (by simp)
 have r8:=hq20.cell0 8 (by simp)
 have r9:=hq20.cell0 9 (by simp)
 have r10:=hq20.cell0 10 (by simp)
 have r11:=hq20.cell0 11 (by simp)
 have r12:=hq20.cell0 12 (by simp)
 simp only[j6,Z2,Z3,Z0,Z1]at r0 r1 r2 r3 r4 r5 r6 r7 r8 r9 r10 r11 r12
 clear hx20 hy20 hq20
 go_wp2_with fail
 exact bodyPost_ret (v:= .agg #[.int .i64 2,.int .i64 (t.2:Nat),.string (aa u.1),.string {data:= #[]},.int .i64 0,.int .i64 0,.bool false,.bool false,.pointer (some ⟨bx,0,none⟩),.int .i64 0,.string {data:= #[]},.string {data:= #[]},.slice none 0 0]) (by simp[results,Tryz.results89,go_sem,r0,r1,r2,r3,r4,r5,r6,r7,r8,r9,r10,r11,r12]) rfl (.inl ⟨.cons ⟨t.2,.bytes,u.1,(some x),.none⟩ .nil,_,Tm.ag ⟨t.2,.bytes,u.1,(some x),.none⟩ (.pointer (some ⟨bx,0,none⟩)),.hd (.mk KND.out Khu.out (.cnt (.yes Kho.out KPX.out Khv.out) (fun _=>by simp)) Khs.out),rfl,⟨_,[],⟨bx,rfl,IsX.al (F20.out.2.2) x bx X19.out⟩,(List.append_nil _).symm,rfl⟩,F20.out.1,F20.out.2.1⟩)
end
end Go.Proofs.YtlomecfhobehnaaGreatDoor
