import Derived.Test.YtlomecfhobehnaaGreatDoorMgFixTwice0
import Derived.Test.YtlomecfhobehnaaGreatDoorMgFixTwice13
set_option linter.unusedVariables false
set_option linter.unusedSimpArgs false
namespace Go.Proofs.YtlomecfhobehnaaGreatDoor
open Lib (hid)
section
set_option maxRecDepth 100000
set_option maxHeartbeats 2000000
open Go.RowKit
open Rd
theorem AD(w:World)(rb E d:Nat)(t:Rd.Tok)(T:List Rd.Tok)(he:Env w rb)(hr:Rdr w rb (t::T) E)(hT:fu (t::T))(ht:t.1=Tm.dm)(hd:d≤8)(hB:∀T',T'.length < (t::T).length→fu T'→mr rb E (d+1) T'):
  Calls Tryz.prog 89 #[.pointer (some ⟨rb,0,none⟩),.int .i64 (d:Nat)] w (jK w rb E d (t::T)):=by
 have hb0:=(Y4 w.heap.size w).alloc (Z5 _) (.cells #[.int .i64 0,.int .i64 0,.string {data:= #[]},.string {data:= #[]},.int .i64 0,.int .i64 0,.bool false,.bool false,.pointer none,.int .i64 0,.string {data:= #[]},.string {data:= #[]},.slice none 0 0] 70)
 have HA:=hid (bO rb (t::T) E _ (hr.below hb0))
 have hat:Ex.dJ E (t::T)=t.2:=rfl
 rw[hat]at HA
 have S0:=hid (fB.start he hr t.2)
 have htx:ak (t::T)=t.1:=rfl
 have HTT:=hid hT
 have hTK:=fun V hV=>ei rb t T E V hV (by rw[ht];decide)
 rw[ht]at hTK
 have HTK:=hid hTK
 have HTW:=hid ht
 have hB2:∀T',T'.length < (t::T).length→fu T'→∀w,Env w rb→Rdr w rb T' E→Calls Tryz.prog 55 #[.pointer (some ⟨rb,0,none⟩),.int .i64 ((d:Int)+1)] w (je w rb E (d+1) T'):=hB
 have HB:=hid hB2
 clear hb0 hat he hr hT ht hTK htx hB hB2
 go_enter Tryz.func89,Tryz.ntmps89
 go_wp2_with fail
 refine HA.out.mono ?_
 rintro e w1 ⟨rfl,rfl⟩
 go_wp2_with fail
 refine(HTK.out _ S0.out.rd).mono ?_
 rintro e w1 ⟨rfl,hr1,hg1⟩
 have S1:=hid (S0.out.move hr1 hg1)
 clear hr1 hg1
 obtain⟨a2,b2⟩:=S1.out.cell 0 (by simp[ab])
 have S2:=hid (S1.out.set 0 (by simp[ab]) (.int .i64 4))
 simp only[ab,Z2,Z3,Z0,Z1]at a2
 go_wp2_with fail
 clear a2 b2
 have hTT:=HTT.out.suf (List.suffix_cons t T)
 have hTT2:=hTT
 have HX3:=hid (fx _ rb E T S2.out.env S2.out.rd hTT)
 unfold Bad aB at HX3
 refine HX3.out.mono ?_
 rintro e wx3 (⟨x,RB,bx,hpx,rfl,hxB,hr3,hg3⟩|⟨hno,g,en,p,rfl,g1,g2,g3⟩)
 rotate_left
 ·skip
  go_wp2_with fail
  refine⟨rfl,.inr ⟨?_,g,en,p,rfl,g1,Nat.le_trans S2.out.gr.size g2,ah S2.out.gr g3⟩⟩
  intro I R0 hI
  obtain⟨c,U,body,h1,h2⟩:=Tm.ur hI HTW.out
  exact hno _ _ h1
 have KPX:=hid hpx;have X0:=hid hxB
 clear HX3 hpx hxB
 have S4:=hid (S2.out.move hr3 hg3)
 clear hr3 hg3
 obtain⟨a5,b5⟩:=S4.out.cell 8 (by simp[ab])
 have S5:=hid (S4.out.set 8 (by simp[ab]) (.pointer (some ⟨bx,0,none⟩)))
 have X5:=hid (S4.out.fJ 8 (.pointer (some ⟨bx,0,none⟩)) X0.out)
 simp only[ab,Z2,Z3,Z0,Z1]at a5
 go_wp2_with fail
 clear a5 b5
 have HBK:=hid (HB.out RB (by have:=KPX.out.suf.2;simp;omega) (hTT.suf KPX.out.suf.1) _ S5.out.env S5.out.rd)
 unfold je Bad aB at HBK
 refine HBK.out.mono ?_
 rintro e wb6 (⟨l,RC,ga,cap,bs,hbp,rfl,hown,henc,hr6,hg6⟩|⟨hno,g,en,p,rfl,g1,g2,g3⟩)
 rotate_left
 ·skip
  go_wp2_with fail
  refine⟨rfl,.inr ⟨?_,g,en,p,rfl,g1,Nat.le_trans S5.out.gr.size g2,ah S5.out.gr g3⟩⟩
  intro I R0 hI
  obtain⟨c,U,body,h1,h2⟩:=Tm.ur hI HTW.out
  obtain⟨_,h3⟩:=Tm.eA.det KPX.out h1
  subst h3
  exact hno _ _ h2
 have KBP:=hid hbp;have KOW:=hid hown;have KEN:=hid henc
 have HLT:=hid (show w.heap.size+1 < _ from S5.out.row.lt)
 clear hbp hown henc HBK
 have S7:=hid (S5.out.move hr6 hg6)
 have X7:=hid (IsX.grown hg6 x bx X5.out)
 clear hr6 hg6
 obtain⟨a8,b8⟩:=S7.out.cell 12 (by simp[ab])
 have S8:=hid (S7.out.set 12 (by simp[ab]) (.slice ga (Tm.Its.len l) cap))
 simp only[ab,Z2,Z3,Z0,Z1]at a8
 have HF2:=hid (S7.out.Gx 12 (.slice ga (Tm.Its.len l) cap) (.int .i64 4) (.int .i64 (t.2:Nat)) (.string {data:= #[]}) (.string {data:= #[]}) (.int .i64 0) (.int .i64 0) (.bool false) (.bool false) (.pointer (some ⟨bx,0,none⟩)) (.int .i64 0) (.string {data:= #[]}) (.string {data:= #[]}) (.slice ga (Tm.Its.len l) cap))
 have hx9:=S8.out.row
 have hy9:=S8.out.nK
 have c0:=hx9.cell0 0 (by simp[ab]);have y0:=hy9.cell0 0 (by simp[ab]);have z0:=hy9.frozen0 0 (by simp[ab])
 have c1:=hx9.cell0 1 (by simp[ab]);have y1:=hy9.cell0 1 (by simp[ab]);have z1:=hy9.frozen0 1 (by simp[ab])
 have c2:=hx9.cell0 2 (by simp[ab]);have y2:=hy9.cell0 2 (by simp[ab]);have z2:=hy9.frozen0 2 (by simp[ab])
 have c3:=hx9.cell0 3 (by simp[ab]);have y3:=hy9.cell0 3 (by simp[ab]);have z3:=hy9.frozen0 3 (by simp[ab])
 have c4:=hx9.cell0 4 (by simp[ab]);have y4:=hy9.cell0 4 (by simp[ab]);have z4:=hy9.frozen0 4 (by simp[ab])
 have c5:=hx9.cell0 5 (by simp[ab]);have y5:=hy9.cell0 5 (by simp[ab]);have z5:=hy9.frozen0 5 (by simp[ab])
 have c6:=hx9.cell0 6 (by simp[ab]);have y6:=hy9.cell0 6 (by simp[ab]);have z6:=hy9.frozen0 6 (by simp[ab])
 have c7:=hx9.cell0 7 (by simp[ab]);have y7:=hy9.cell0 7 (by simp[ab]);have z7:=hy9.frozen0 7 (by simp[ab])
 have c8:=hx9.cell0 8 (by simp[ab]);have y8:=hy9.cell0 8 (by simp[ab]);have z8:=hy9.frozen0 8 (by simp[ab])
 have c9:=hx9.cell0 9 (by simp[ab]);have y9:=hy9.cell0 9 (by simp[ab]);have z9:=hy9.frozen0 9 (by simp[ab])
 have c10:=hx9.cell0 10 (by simp[ab]);have y10:=hy9.cell0 10 (by simp[ab]);have z10:=hy9.frozen0 10 (by simp[ab])
 have c11:=hx9.cell0 11 (by simp[ab]);have y11:=hy9.cell0 11 (by simp[ab]);have z11:=hy9.frozen0 11 (by simp[ab])
 have c12:=hx9.cell0 12 (by simp[ab]);have y12:=hy9.cell0 12 (by simp[ab]);have z12:=hy9.frozen0 12 (by simp[ab])
 simp only[ab,Z2,Z3,Z0,Z1]at c0 y0 c1 y1 c2 y2 c3 y3 c4 y4 c5 y5 c6 y6 c7 y7 c8 y8 c9 y9 c10 y10 c11 y11 c12 y12
 have hq9:=fM hy9 rfl (.int .i64 4) (.int .i64 (t.2:Nat)) (.string {data:= #[]}) (.string {data:= #[]}) (.int .i64 0) (.int .i64 0) (.bool false) (.bool false) (.pointer (some ⟨bx,0,none⟩)) (.int .i64 0) (.string {data:= #[]}) (.string {data:= #[]}) (.slice ga (Tm.Its.len l) cap)
 have F9:=hid (S8.out.fin rfl (.int .i64 4) (.int .i64 (t.2:Nat)) (.string {data:= #[]}) (.string {data:= #[]}) (.int .i64 0) (.int .i64 0) (.bool false) (.bool false) (.pointer (some ⟨bx,0,none⟩)) (.int .i64 0) (.string {data:= #[]}) (.string {data:= #[]}) (.slice ga (Tm.Its.len l) cap))
 have r0:=hq9.cell0 0 (by simp)
 have r1:=hq9.cell0 1 (by simp)
 have r2:=hq9.cell0 2 (by simp)
 have r3:=hq9.cell0 3 (by simp)
 have r4:=hq9.cell0 4 (by simp)
 have r5:=hq9.cell0 5 (by simp)
 have r6:=hq9.cell0 6 (by simp)
 have r7:=hq9.cell0 7 (by simp)
 have r8:=hq9.cell0 8 (by simp)
 have r9:=hq9.cell0 9 (by simp)
 have r10:=hq9.cell0 10 (by simp)
 have r11:=hq9.cell0 11 (by simp)
 have r12:=hq9.cell0 12 (by simp)
 simp only[j6,Z2,Z3,Z0,Z1]at r0 r1 r2 r3 r4 r5 r6 r7 r8 r9 r10 r11 r12
 clear hx9 hy9 hq9
 go_wp2_with fail
 exact bodyPost_ret (v:= .agg #[.int .i64 4,.int .i64 (t.2:Nat),.string {data:= #[]},.string {data:= #[]},.int .i64 0,.int .i64 0,.bool false,.bool false,.pointer (some ⟨bx,0,none⟩),.int .i64 0,.string {data:= #[]},.string {data:= #[]},.slice ga (Tm.Its.len l) cap]) (by simp[results,Tryz.results89,go_sem,r0,r1,r2,r3,r4,r5,r6,r7,r8,r9,r10,r11,r12]) rfl (.inl ⟨.when t.2 x l .nil,_,Tm.au t.2 (.pointer (some ⟨bx,0,none⟩)) (.slice ga (Tm.Its.len l) cap),.when HTW.out KPX.out KBP.out,rfl,⟨bx,ga,cap,bs,[],IsX.al HF2.out.1 x bx X7.out,(KOW.out.mono (by have:=S7.out.lt;have:=HLT.out;omega)).al (fun y hy=>by subst hy;exact HF2.out.2 _ (by have:=KOW.out.lt.1;have:=HLT.out;omega) (by have:=KOW.out.lt.1;have:=HLT.out;omega)),fun y hy=>by subst hy;have:=KOW.out.lt.1;have:=HLT.out;omega,Tm.Enc.al HF2.out.1 (fun b hb=>HF2.out.2 b (by have:=HLT.out;omega) (by have:=HLT.out;omega)) l bs KEN.out |> Tm.Enc.mono (fun b hb=>by have:=HLT.out;omega) l bs,(List.append_nil _).symm,rfl⟩,F9.out.1,F9.out.2.1⟩)
end
end Go.Proofs.YtlomecfhobehnaaGreatDoor
