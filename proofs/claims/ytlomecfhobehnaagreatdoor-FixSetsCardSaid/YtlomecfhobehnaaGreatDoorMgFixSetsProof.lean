/- The law FixSets: called with any arguments it returns true, and each argument reads afterwards as it read before. No condition. -/
import Derived.ProofKit
import Derived.Test.YtlomecfhobehnaaGreatDoorCards
import Derived.Test.YtlomecfhobehnaaGreatDoorTie
import Derived.ShutString
import Derived.Test.YtlomecfhobehnaaGreatDoorMgFixSets47
set_option linter.unusedVariables false
set_option linter.unusedSimpArgs false
set_option maxRecDepth 100000
set_option maxHeartbeats 4000000
namespace Go.Proofs.YtlomecfhobehnaaGreatDoor
open Lib (hid)
section
open Go Go.RowKit
open Rd
open Ly
theorem iY.alt{w w':World}{tys:List Tm.Ty}{root:Tm.Wd}{ps:List Int}{o:Option Nd}{E:List Nat→Nd→Nd→Int→Prop}{O:List Nat→Nd→Nd→Nd→Prop}{e:Ending}(h:iY w tys root ps o E O e w'):Below w.heap.size w w'∧((∃u t v,e= .returned (.tuple #[.string u,.iface t v]))∨
  ∃d q x d' u,o=some d∧ps=bN q∧q≠[]∧Fx.bD q d=some x∧O q d x d'∧(Fx.wrT tys.reverse root d').isSome=true∧Fx.bW Fx.bJ tys.reverse root d'= .ok u∧e= .returned (.tuple #[.string (aa u),.nilIface])):=by
 obtain⟨h1,h2⟩:=h;refine⟨h1,?_⟩;cases o with
 |none=>obtain⟨t,v,rfl⟩:=h2;exact .inl ⟨_,_,_,rfl⟩
 |some d=>
  rcases h2 with⟨_,rfl⟩|⟨q,x,hq,hq0,hx,⟨k,_,rfl⟩|⟨d',hO,hw,he⟩⟩
  ·exact .inl ⟨_,_,_,rfl⟩
  ·exact .inl ⟨_,_,_,rfl⟩
  ·cases hd:Fx.bW Fx.bJ tys.reverse root d' with
   |bad k=>rw[hd]at he;exact .inl ⟨_,_,_,he⟩
   |ok u=>rw[hd]at he;exact .inr ⟨d,q,x,d',u,rfl,hq,hq0,hx,hO,hw,hd,he⟩
theorem Cv{p q:List Nat}(h:bN p=bN q):p=q:=by
 unfold bN at h;exact(List.map_inj_right (f:=fun(k:Nat)=>(k:Int)) (fun a b (e:(a:Int)=(b:Int))=>by omega)).1 h
theorem Cw(q:List Nat):(bN q).length=q.length:=by unfold bN;rw[List.length_map]
structure Got(tys:List Tm.Ty)(root:Tm.Wd)(ps:List Int)(d:Nd)(u:Tm.Wd)(m y:Nd)(q:List Nat):Prop where
 rd:aB tys root u=some m
 ok:gQ tys root u m=true
 len:m.kids.len=d.kids.len
 ps:ps=bN q
 get:Fx.bD q m=some y
 few:u.length≤4000
 tot:m.tot≤800000
theorem F2{w:World}{B cap:Nat}{tys:List Tm.Ty}{a:Option Addr}{vs:List Value}{root u:Tm.Wd}{v:Int}{ps:List Int}{q:List Nat}{d x d':Nd}(hT:TyF w B tys a cap vs)(hd:(Fx.wrT tys.reverse root d).isSome=true)(hq:ps=bN q)(hq0:q≠[])(hx:Fx.bD q d=some x)(hO:sG tys root v q d x d')(hw:(Fx.wrT tys.reverse root d').isSome=true)(hu:Fx.bW Fx.bJ tys.reverse root d'= .ok u):∃m y,Got tys root ps d u m y q∧y.val=v:=by
 obtain⟨h1,rfl,h,h2,h3,h4,h5⟩:=hO;cases q with
 |nil=>exact absurd rfl hq0
 |cons k q=>
  obtain⟨_,m,m1,m2,y,y1,y2⟩:=Fx.B7 hT.jC hd h2 h4 hx h1 h3 h5 hu;obtain⟨m',g1,g2,g3,g4,g5,g6,g7,g8,g9⟩:=lp hT.jC hw hu;have e:m'=m:=by have:some m'=some m:=g1.symm.trans m1;injection this
  subst e;obtain⟨t1,t2,t3⟩:=ea hT g4 g1;exact⟨m',y,⟨g1,g2,m2,hq,y1,g4,by omega⟩,y2⟩
theorem Es{w:World}{B cap:Nat}{tys:List Tm.Ty}{a:Option Addr}{vs:List Value}{root u txt:Tm.Wd}{ps:List Int}{q:List Nat}{d x d':Nd}(hT:TyF w B tys a cap vs)(hd:(Fx.wrT tys.reverse root d).isSome=true)(hq:ps=bN q)(hq0:q≠[])(hx:Fx.bD q d=some x)(hO:ln tys root txt q d x d')(hw:(Fx.wrT tys.reverse root d').isSome=true)(hu:Fx.bW Fx.bJ tys.reverse root d'= .ok u):∃m y,Got tys root ps d u m y q∧y.text=txt:=by
 obtain⟨h1,rfl,h,h2,h3⟩:=hO;cases q with
 |nil=>exact absurd rfl hq0
 |cons k q=>
  obtain⟨_,m,m1,m2,y,y1,y2⟩:=Fx.yT hT.jC hd h2 hx h1 h3 hu;obtain⟨m',g1,g2,g3,g4,g5,g6,g7,g8,g9⟩:=lp hT.jC hw hu;have e:m'=m:=by have:some m'=some m:=g1.symm.trans m1;injection this
  subst e;obtain⟨t1,t2,t3⟩:=ea hT g4 g1;exact⟨m',y,⟨g1,g2,m2,hq,y1,g4,by omega⟩,y2⟩
theorem zr(t root s txt:List UInt8)(v:Int)(hv:Ex.InR v)(pa:Option Addr)(pc:Nat)(ps:List Int)(hr:root.length≤200000000000000)(hpc:ps.length≤pc)(hpm:pc≤140737488351232)(hsm:s.length≤140737488351232)(htm:txt.length≤140737488351232)(w:World)(hB:ke w)(hps:∀X,Below w.heap.size w X→RdI X pa ps):Calls Tryz.prog 5 #[.string (aa t),.string (aa root),.string (aa s),.slice pa ps.length pc,.int .i64 v,.string (aa txt)] w fun e w'=>e= .returned (.bool true)∧Below w.heap.size w w':=by
 have HFX:=hid (Ct w hB);have HB:=hid hB;have HPS:=hid hps;have HV:=hid hv;have HPC:=hid hpc;obtain⟨pn,hpn⟩:∃pn,pn=ps.length:=⟨_,rfl⟩;have HPN:=hid hpn;rw[← hpn]at hpc⊢;clear hB hps hpn hv;go_enter Tryz.func5,Tryz.ntmps5;go_wp2_with fail;refine HFX.out.mono ?_;rintro e w0 ⟨rfl,hb0⟩;have HLO:=hid (wQ w0 (HB.out.up hb0));have HB0:=hid hb0;clear hb0 HFX;go_wp2_with fail;refine HLO.out.mono ?_;rintro e w1 ⟨rfl,hb1⟩;have HB1:=hid (HB0.out.trans (hb1.mono HB0.out.size));have HRI:=hid (Co t w1 (HB.out.up HB1.out));clear hb1 HLO;go_wp2_with fail;refine HRI.out.mono ?_;unfold mq;rintro e w2 ⟨hb2,⟨a0,n0,c0,rfl⟩|⟨s2,tys,a,cap,vs,hs2,hm,hchk,rfl⟩⟩
 ·have HB2:=hid (HB1.out.trans (hb2.mono HB1.out.size));clear hb2 HRI;go_wp2_with fail;go_ret;exact⟨rfl,HB2.out⟩
 ·have HB2:=hid (HB1.out.trans (hb2.mono HB1.out.size))
  by_cases hs6:600 < s.length
  ·have qs1:decide ((600:Int) < (s.length:Int))=true:=Z9 (by omega);have qs2:decide (600 < s.length)=true:=Z9 hs6;clear hb2 HRI hm hchk;go_wp2_with fail;go_ret;exact⟨rfl,HB2.out⟩
  ·have qs1:decide ((600:Int) < (s.length:Int))=false:=Y9 (by omega);have qs2:decide (600 < s.length)=false:=Y9 hs6
   by_cases hp12:12 < pn
   ·have qp1:decide ((12:Int) < (pn:Int))=true:=Z9 (by omega);have qp2:decide (12 < pn)=true:=Z9 hp12;clear hb2 HRI hm hchk;go_wp2_with fail;go_ret;exact⟨rfl,HB2.out⟩
   ·have qp1:decide ((12:Int) < (pn:Int))=false:=Y9 (by omega);have qp2:decide (12 < pn)=false:=Y9 hp12
    by_cases ht2:200 < txt.length
    ·have qt1:decide ((200:Int) < (txt.length:Int))=true:=Z9 (by omega);have qt2:decide (200 < txt.length)=true:=Z9 ht2;clear hb2 HRI hm hchk;go_wp2_with fail;go_ret;exact⟨rfl,HB2.out⟩
    ·have qt1:decide ((200:Int) < (txt.length:Int))=false:=Y9 (by omega);have qt2:decide (200 < txt.length)=false:=Y9 ht2;have hT:=TyF.of hm hs2 hchk;obtain⟨n,hn⟩:∃n,n=tys.length:=⟨_,rfl⟩;have hs4:s.length≤4000:=by omega
     have HSE:=hid (F1 w2 w1.heap.size cap pc tys a pa vs root s v HV.out ps hT hr hs4 (fun X hX=>HPS.out X (HB2.out.trans (hX.mono HB2.out.size))) (by rw[← HPN.out];omega) HPC.out);have HFI:Hid (∀X,Below w2.heap.size w2 X→Calls Tryz.prog 16 #[.slice a tys.length cap,.string (aa root),.string (aa s),.slice pa ps.length pc,.string (aa txt)] X (iY X tys root ps (aB tys root s) j' (ln tys root txt))):=hid (fun X hX=>wP X w1.heap.size cap pc tys a pa vs root s txt ps (hT.up hX) hr hs4 (by omega) (fun Y hY=>HPS.out Y (HB2.out.trans ((hX.trans (hY.mono hX.size)).mono HB2.out.size))) (by rw[← HPN.out];omega) HPC.out);have HRT:Hid (∀X (z:Tm.Wd),z.length≤4000→Below w2.heap.size w2 X→Calls Tryz.prog 13 #[.slice a n cap,.string (aa root),.string (aa z)] X (nG X tys root z (aB tys root z))):=hid (fun X z hz hX=>by
      rw[hn];exact lk tys root z X w1.heap.size cap a vs (hT.up hX) hr hz)
     have HRD:Hid (∀X (z:Tm.Wd),z.length≤4000→Below w2.heap.size w2 X→Calls Tryz.prog 9 #[.slice a n cap,.string (aa root),.string (aa z)] X (cQ X (aB tys root z))):=hid (fun X z hz hX=>by
      have h9:=hT.up hX;have hF:∀t∈tys,Tm.aZ t∧Tm.Its.sz t.items≤100000:=hT.ew;rw[hn];exact eO tys root z X w1.heap.size cap w1.heap.size a vs h9.own h9.enc hF hT.few hT.chain hr (by omega))
     have HWR:Hid (∀d,aB tys root s=some d→(Fx.wrT tys.reverse root d).isSome=true):=hid (fun d hd=>by
      obtain⟨d1,d2,d3⟩:=ea hT hs4 hd;unfold Fx.wrT;rw[d3];rfl)
     have HLP:Hid (∀(X:World) (Bx:Nat) (m y:Nd) (q:List Nat) (vv:Value) (bl:List Nat),Below w2.heap.size w2 X→NdV X Bx bl m vv→Fx.bD q m=some y→m.tot≤800000→ps=bN q→Calls Tryz.prog 17 #[vv,.slice pa pn pc] X fun e w'=>Below X.heap.size X w'∧∃g n c,e= .returned (.tuple #[.agg #[.string (aa y.name),.int .i64 (y.kind:Nat),.int .i64 (y.at_:Nat),.int .i64 (y.size:Nat),.int .i64 y.val,.string (aa y.text),.slice g n c],.bool true])):=hid (fun X Bx m y q vv bl hX hnd hg htot hq=>by
      have hl:pn=q.length:=by rw[HPN.out,hq,Cw]
      rw[hl];exact wW X Bx pc m y q pa vv bl hnd hg htot (fun Y hY=>by rw[← hq];exact HPS.out Y (HB2.out.trans ((hX.trans (hY.mono hX.size)).mono HB2.out.size))) (by omega) (by omega))
     have HGS:Hid (∀(d x d':Nd) (q:List Nat) (u:Tm.Wd),(Fx.wrT tys.reverse root d).isSome=true→ps=bN q→q≠[]→Fx.bD q d=some x→sG tys root v q d x d'→(Fx.wrT tys.reverse root d').isSome=true→Fx.bW Fx.bJ tys.reverse root d'= .ok u→∃m y,Got tys root ps d u m y q∧y.val=v):=hid (fun d x d' q u h1 h2 h3 h4 h5 h6 h7=>F2 hT h1 h2 h3 h4 h5 h6 h7);have HGF:Hid (∀(d x d':Nd) (q:List Nat) (u:Tm.Wd),(Fx.wrT tys.reverse root d).isSome=true→ps=bN q→q≠[]→Fx.bD q d=some x→ln tys root txt q d x d'→(Fx.wrT tys.reverse root d').isSome=true→Fx.bW Fx.bJ tys.reverse root d'= .ok u→∃m y,Got tys root ps d u m y q∧y.text=txt):=hid (fun d x d' q u h1 h2 h3 h4 h5 h6 h7=>Es hT h1 h2 h3 h4 h5 h6 h7);have HS4:=hid hs4;rw[← hn,← HPN.out]at HSE HFI;rw[← hn];clear hb2 HRI hm hchk hT hn hs4;go_wp2_with fail;refine HSE.out.mono ?_;intro e w3 hc3;obtain⟨hb3,h3⟩:=hc3.alt;have HB3:=hid hb3;have HF3:=hid (HFI.out w3 hb3);clear hc3 hb3 HSE HFI;rcases h3 with⟨ua,ta,va,rfl⟩|⟨da,qa,xa,da',u,ha1,ha2,ha3,ha4,ha5,ha6,ha7,rfl⟩
     ·clear HGS;go_wp2_with fail;refine HF3.out.mono ?_;intro e w4 hc4;obtain⟨hb4,h4⟩:=hc4.alt;have HB4:=hid (HB3.out.trans (hb4.mono HB3.out.size));clear hc4 hb4 HF3;rcases h4 with⟨ub,tb,vb,rfl⟩|⟨d,q,x,d',u,g1,g2,g3,g4,g5,g6,g7,rfl⟩
      ·go_wp2_with fail;go_ret;exact⟨rfl,HB2.out.trans (HB4.out.mono HB2.out.size)⟩
      ·obtain⟨m,y,hg,hy⟩:=HGF.out d x d' q u (HWR.out d g1) g2 g3 g4 g5 g6 g7;have HG:=hid hg;have HY:=hid hy;have HD:=hid g1;clear hg hy g1 g2 g3 g4 g5 g6 g7 HGF HWR;have hr1:=HRT.out w4 u HG.out.few HB4.out;rw[HG.out.rd]at hr1;unfold nG at hr1;simp only[]at hr1;rw[HG.out.ok]at hr1;have HR1:=hid hr1;have HRU:Hid (∀X,Below w2.heap.size w2 X→Calls Tryz.prog 9 #[.slice a n cap,.string (aa root),.string (aa u)] X (cQ X (some m))):=hid (fun X hX=>by
        have h1:=HRD.out X u HG.out.few hX;rw[HG.out.rd]at h1;exact h1)
       have HRS:Hid (∀X,Below w2.heap.size w2 X→Calls Tryz.prog 9 #[.slice a n cap,.string (aa root),.string (aa s)] X (cQ X (some d))):=hid (fun X hX=>by
        have h1:=HRD.out X s HS4.out hX;rw[HD.out]at h1;exact h1)
       clear hr1;go_wp2_with fail;refine HR1.out.mono ?_;rintro e w5 ⟨hb5,rfl⟩;have HB5:=hid (HB4.out.trans (hb5.mono HB4.out.size));clear hb5 HR1;go_wp2_with fail;refine(HRU.out w5 HB5.out).mono ?_;unfold cQ;rintro e w6 ⟨hb6,v6,bl6,rfl,hnd6,hnp6⟩;obtain⟨g6,cc6,hve⟩:=hnd6.cells;subst hve;have HB6:=hid (HB5.out.trans (hb6.mono HB5.out.size));obtain⟨ml,hml⟩:∃ml,ml=m.kids.len:=⟨_,rfl⟩;have HND6:=hid hnd6;rw[← hml]at hnd6⊢;obtain⟨Q,hQ⟩:∃Q,Q=w6.alloc (.cells #[.string (aa m.name),.int .i64 (m.kind:Nat),.int .i64 (m.at_:Nat),.int .i64 (m.size:Nat),.int .i64 m.val,.string (aa m.text),.slice g6 ml cc6] 28):=⟨_,rfl⟩;have hbQ:Below w6.heap.size w6 Q:=by rw[hQ];exact(Y4 _ _).alloc (Z5 _) _
       have HQ:=hid hQ;have HBQ:=hid (HB6.out.trans (hbQ.mono HB6.out.size));have HRQ:=hid (show ad Q w6.heap.size 0 28 [.string (aa m.name),.int .i64 (m.kind:Nat),.int .i64 (m.at_:Nat),.int .i64 (m.size:Nat),.int .i64 m.val,.string (aa m.text),.slice g6 ml cc6] by rw[hQ];exact ad.new w6 _ _);have HNQ:=hid (hnd6.al (w':=Q) fun b hb=>hbQ.block b (hnd6.mem b hb).2);have hmd:ml=d.kids.len:=hml.trans HG.out.len;have HML:=hid hml;have HMD:=hid hmd;clear hb6 hnd6 hnp6 hQ hbQ hml hmd HND6;go_wp2_with fail;rw[← HQ.out];refine(HRS.out Q HBQ.out).mono ?_;unfold cQ;rintro e w7 ⟨hb7,v7,bl7,rfl,hnd7,hnp7⟩;obtain⟨g7,cc7,hve⟩:=hnd7.cells;subst hve;have HB7:=hid (HBQ.out.trans (hb7.mono HBQ.out.size));rw[← HMD.out]at hnd7⊢;obtain⟨R,hR⟩:∃R,R=w7.alloc (.cells #[.string (aa d.name),.int .i64 (d.kind:Nat),.int .i64 (d.at_:Nat),.int .i64 (d.size:Nat),.int .i64 d.val,.string (aa d.text),.slice g7 ml cc7] 28):=⟨_,rfl⟩;have hbR:Below w7.heap.size w7 R:=by rw[hR];exact(Y4 _ _).alloc (Z5 _) _
       have hbQR:Below Q.heap.size Q R:=hb7.trans (hbR.mono hb7.size);have HR:=hid hR;have HBR:=hid (HB7.out.trans (hbR.mono HB7.out.size));have HRR1:=hid (HRQ.out.below hbQR HRQ.out.lt);have HRR2:=hid (show ad R w7.heap.size 0 28 [.string (aa d.name),.int .i64 (d.kind:Nat),.int .i64 (d.at_:Nat),.int .i64 (d.size:Nat),.int .i64 d.val,.string (aa d.text),.slice g7 ml cc7] by rw[hR];exact ad.new w7 _ _);have hn1:=HNQ.out.al (w':=R) fun b hb=>hbQR.block b (HNQ.out.mem b hb).2
       have HLQ:=hid (HLP.out R _ m y q _ _ HBR.out hn1 HG.out.get HG.out.tot HG.out.ps);have c0:=HRR1.out.cell0 0 (by simp);have c1:=HRR1.out.cell0 1 (by simp);have c2:=HRR1.out.cell0 2 (by simp);have c3:=HRR1.out.cell0 3 (by simp);have c4:=HRR1.out.cell0 4 (by simp);have c5:=HRR1.out.cell0 5 (by simp);have c6:=HRR1.out.cell0 6 (by simp);simp only[Z0,Z1]at c0 c1 c2 c3 c4 c5 c6;rw[hR]at c0 c1 c2 c3 c4 c5 c6;clear hb7 hnd7 hnp7 hR hbR hn1;go_wp2_with fail;rw[← HR.out];refine HLQ.out.mono ?_;rintro e w8 ⟨hb8,g8,n8,c8,rfl⟩;have HB8:=hid (HBR.out.trans (hb8.mono HBR.out.size));obtain⟨S,hS⟩:∃S,S=w8.alloc (.cells #[.string (aa y.name),.int .i64 (y.kind:Nat),.int .i64 (y.at_:Nat),.int .i64 (y.size:Nat),.int .i64 y.val,.string (aa y.text),.slice g8 n8 c8] 28):=⟨_,rfl⟩;have hbS:Below w8.heap.size w8 S:=by rw[hS];exact(Y4 _ _).alloc (Z5 _) _
       have hb8S:Below R.heap.size R S:=hb8.trans (hbS.mono hb8.size);have HBS:=hid (HB8.out.trans (hbS.mono HB8.out.size));have r1:=HRR1.out.below hb8S HRR1.out.lt;have r2:=HRR2.out.below hb8S HRR2.out.lt;have ry:ad S w8.heap.size 0 28 [.string (aa y.name),.int .i64 (y.kind:Nat),.int .i64 (y.at_:Nat),.int .i64 (y.size:Nat),.int .i64 y.val,.string (aa y.text),.slice g8 n8 c8]:=by rw[hS];exact ad.new w8 _ _
       have y4:=ry.cell0 4 (by simp);have y5:=ry.cell0 5 (by simp);have z6:=r1.cell0 6 (by simp);have x6:=r2.cell0 6 (by simp);simp only[Z0,Z1]at y4 y5 z6 x6;rw[HY.out]at y5;rw[hS]at y4 y5 z6 x6;have t1:(txt==txt)=true:=beq_self_eq_true txt;have t2:(txt !=txt)=false:=by rw[bne,t1];rfl
       have t3:decide (txt=txt)=true:=Z9 rfl;have l1:((ml:Int)==(ml:Int))=true:=beq_self_eq_true _;have l2:decide ((ml:Int)=(ml:Int))=true:=Z9 rfl;have l3:(ml==ml)=true:=beq_self_eq_true _;have HSS:=hid hS;clear c0 c1 c2 c3 c4 c5 c6 hb8 hbS hb8S r1 r2 ry hS;go_wp2_with fail;have HFI:=HB2.out.trans (HBS.out.mono HB2.out.size);go_ret;rw[← HSS.out]
       first|exact⟨rfl,HFI⟩|exact⟨congrArg (fun b=>Ending.returned (.bool b)) l1,HFI⟩|exact⟨congrArg (fun b=>Ending.returned (.bool b)) l2,HFI⟩|exact⟨congrArg (fun b=>Ending.returned (.bool b)) l3,HFI⟩
     ·go_wp2_with fail;refine HF3.out.mono ?_;intro e w4 hc4;obtain⟨hb4,h4⟩:=hc4.alt;have HB4:=hid (HB3.out.trans (hb4.mono HB3.out.size));clear hc4 hb4 HF3;rcases h4 with⟨ub,tb,vb,rfl⟩|⟨d,q,x,d',u',g1,g2,g3,g4,g5,g6,g7,rfl⟩
      ·obtain⟨m,y,hg,hy⟩:=HGS.out da xa da' qa u (HWR.out da ha1) ha2 ha3 ha4 ha5 ha6 ha7;obtain⟨d,hdd⟩:∃d,d=da:=⟨_,rfl⟩;obtain⟨q,hqq⟩:∃q,q=qa:=⟨_,rfl⟩;rw[← hdd,← hqq]at hg;rw[← hdd]at ha1;have HG:=hid hg;have HY:=hid hy;have HD:=hid ha1;clear hg hy ha1 ha2 ha3 ha4 ha5 ha6 ha7 HGF HWR HGS hdd hqq;have hr1:=HRT.out w4 u HG.out.few HB4.out;rw[HG.out.rd]at hr1;unfold nG at hr1;simp only[]at hr1;rw[HG.out.ok]at hr1;have HR1:=hid hr1;have HRU:Hid (∀X,Below w2.heap.size w2 X→Calls Tryz.prog 9 #[.slice a n cap,.string (aa root),.string (aa u)] X (cQ X (some m))):=hid (fun X hX=>by
        have h1:=HRD.out X u HG.out.few hX;rw[HG.out.rd]at h1;exact h1)
       have HRS:Hid (∀X,Below w2.heap.size w2 X→Calls Tryz.prog 9 #[.slice a n cap,.string (aa root),.string (aa s)] X (cQ X (some d))):=hid (fun X hX=>by
        have h1:=HRD.out X s HS4.out hX;rw[HD.out]at h1;exact h1)
       clear hr1;go_wp2_with fail;refine HR1.out.mono ?_;rintro e w5 ⟨hb5,rfl⟩;have HB5:=hid (HB4.out.trans (hb5.mono HB4.out.size));clear hb5 HR1;go_wp2_with fail;refine(HRU.out w5 HB5.out).mono ?_;unfold cQ;rintro e w6 ⟨hb6,v6,bl6,rfl,hnd6,hnp6⟩;obtain⟨g6,cc6,hve⟩:=hnd6.cells;subst hve;have HB6:=hid (HB5.out.trans (hb6.mono HB5.out.size));obtain⟨ml,hml⟩:∃ml,ml=m.kids.len:=⟨_,rfl⟩;have HND6:=hid hnd6;rw[← hml]at hnd6⊢;obtain⟨Q,hQ⟩:∃Q,Q=w6.alloc (.cells #[.string (aa m.name),.int .i64 (m.kind:Nat),.int .i64 (m.at_:Nat),.int .i64 (m.size:Nat),.int .i64 m.val,.string (aa m.text),.slice g6 ml cc6] 28):=⟨_,rfl⟩;have hbQ:Below w6.heap.size w6 Q:=by rw[hQ];exact(Y4 _ _).alloc (Z5 _) _
       have HQ:=hid hQ;have HBQ:=hid (HB6.out.trans (hbQ.mono HB6.out.size));have HRQ:=hid (show ad Q w6.heap.size 0 28 [.string (aa m.name),.int .i64 (m.kind:Nat),.int .i64 (m.at_:Nat),.int .i64 (m.size:Nat),.int .i64 m.val,.string (aa m.text),.slice g6 ml cc6] by rw[hQ];exact ad.new w6 _ _);have HNQ:=hid (hnd6.al (w':=Q) fun b hb=>hbQ.block b (hnd6.mem b hb).2);have hmd:ml=d.kids.len:=hml.trans HG.out.len;have HML:=hid hml;have HMD:=hid hmd;clear hb6 hnd6 hnp6 hQ hbQ hml hmd HND6;go_wp2_with fail;rw[← HQ.out];refine(HRS.out Q HBQ.out).mono ?_;unfold cQ;rintro e w7 ⟨hb7,v7,bl7,rfl,hnd7,hnp7⟩;obtain⟨g7,cc7,hve⟩:=hnd7.cells;subst hve;have HB7:=hid (HBQ.out.trans (hb7.mono HBQ.out.size));rw[← HMD.out]at hnd7⊢;obtain⟨R,hR⟩:∃R,R=w7.alloc (.cells #[.string (aa d.name),.int .i64 (d.kind:Nat),.int .i64 (d.at_:Nat),.int .i64 (d.size:Nat),.int .i64 d.val,.string (aa d.text),.slice g7 ml cc7] 28):=⟨_,rfl⟩;have hbR:Below w7.heap.size w7 R:=by rw[hR];exact(Y4 _ _).alloc (Z5 _) _
       have hbQR:Below Q.heap.size Q R:=hb7.trans (hbR.mono hb7.size);have HR:=hid hR;have HBR:=hid (HB7.out.trans (hbR.mono HB7.out.size));have HRR1:=hid (HRQ.out.below hbQR HRQ.out.lt);have HRR2:=hid (show ad R w7.heap.size 0 28 [.string (aa d.name),.int .i64 (d.kind:Nat),.int .i64 (d.at_:Nat),.int .i64 (d.size:Nat),.int .i64 d.val,.string (aa d.text),.slice g7 ml cc7] by rw[hR];exact ad.new w7 _ _);have hn1:=HNQ.out.al (w':=R) fun b hb=>hbQR.block b (HNQ.out.mem b hb).2
       have HLQ:=hid (HLP.out R _ m y q _ _ HBR.out hn1 HG.out.get HG.out.tot HG.out.ps);have c0:=HRR1.out.cell0 0 (by simp);have c1:=HRR1.out.cell0 1 (by simp);have c2:=HRR1.out.cell0 2 (by simp);have c3:=HRR1.out.cell0 3 (by simp);have c4:=HRR1.out.cell0 4 (by simp);have c5:=HRR1.out.cell0 5 (by simp);have c6:=HRR1.out.cell0 6 (by simp);simp only[Z0,Z1]at c0 c1 c2 c3 c4 c5 c6;rw[hR]at c0 c1 c2 c3 c4 c5 c6;clear hb7 hnd7 hnp7 hR hbR hn1;go_wp2_with fail;rw[← HR.out];refine HLQ.out.mono ?_;rintro e w8 ⟨hb8,g8,n8,c8,rfl⟩;have HB8:=hid (HBR.out.trans (hb8.mono HBR.out.size));obtain⟨S,hS⟩:∃S,S=w8.alloc (.cells #[.string (aa y.name),.int .i64 (y.kind:Nat),.int .i64 (y.at_:Nat),.int .i64 (y.size:Nat),.int .i64 y.val,.string (aa y.text),.slice g8 n8 c8] 28):=⟨_,rfl⟩;have hbS:Below w8.heap.size w8 S:=by rw[hS];exact(Y4 _ _).alloc (Z5 _) _
       have hb8S:Below R.heap.size R S:=hb8.trans (hbS.mono hb8.size);have HBS:=hid (HB8.out.trans (hbS.mono HB8.out.size));have r1:=HRR1.out.below hb8S HRR1.out.lt;have r2:=HRR2.out.below hb8S HRR2.out.lt;have ry:ad S w8.heap.size 0 28 [.string (aa y.name),.int .i64 (y.kind:Nat),.int .i64 (y.at_:Nat),.int .i64 (y.size:Nat),.int .i64 y.val,.string (aa y.text),.slice g8 n8 c8]:=by rw[hS];exact ad.new w8 _ _
       have y4:=ry.cell0 4 (by simp);have y5:=ry.cell0 5 (by simp);have z6:=r1.cell0 6 (by simp);have x6:=r2.cell0 6 (by simp);simp only[Z0,Z1]at y4 y5 z6 x6;rw[HY.out]at y4;rw[hS]at y4 y5 z6 x6;have t1:(v==v)=true:=beq_self_eq_true v;have t2:(v !=v)=false:=by rw[bne,t1];rfl
       have t3:decide (v=v)=true:=Z9 rfl;have l1:((ml:Int)==(ml:Int))=true:=beq_self_eq_true _;have l2:decide ((ml:Int)=(ml:Int))=true:=Z9 rfl;have l3:(ml==ml)=true:=beq_self_eq_true _;have HSS:=hid hS;clear c0 c1 c2 c3 c4 c5 c6 hb8 hbS hb8S r1 r2 ry hS;go_wp2_with fail;have HFI:=HB2.out.trans (HBS.out.mono HB2.out.size);go_ret;rw[← HSS.out]
       first|exact⟨rfl,HFI⟩|exact⟨congrArg (fun b=>Ending.returned (.bool b)) l1,HFI⟩|exact⟨congrArg (fun b=>Ending.returned (.bool b)) l2,HFI⟩|exact⟨congrArg (fun b=>Ending.returned (.bool b)) l3,HFI⟩
      ·exfalso;have e1:da=d:=by have:some da=some d:=ha1.symm.trans g1;injection this
       have e2:qa=q:=Cv (ha2.symm.trans g2);subst e1;subst e2;have e3:xa=x:=by have:some xa=some x:=ha4.symm.trans g4;injection this
       subst e3;have k1:=ha5.1;have k2:=g5.1;omega
theorem uf(w:World)(a0 a1 a2:ByteArray)(A3:Option Addr)(len3 cap3:Nat)(z3:List Int)(a4:Int)(a5:ByteArray)(h0:a0.size≤140737488351232)(h1:a1.size≤140737488351232)(h2:a2.size≤140737488351232)(h3:gG .i64 w A3 len3 cap3 z3)(h4:-9223372036854775808≤a4)(h4':a4≤9223372036854775807)(h5:a5.size≤140737488351232)(hB:ke w):Calls Tryz.prog 5 #[.string a0,.string a1,.string a2,.slice A3 len3 cap3,.int .i64 a4,.string a5] w fun e w'=>e= .returned (.bool true)∧Below w.heap.size w w':=by
 obtain⟨l,rfl⟩:∃l,a0=aa l:=⟨_,iv a0⟩;obtain⟨m,rfl⟩:∃m,a1=aa m:=⟨_,iv a1⟩;obtain⟨k,rfl⟩:∃k,a2=aa k:=⟨_,iv a2⟩;obtain⟨t,rfl⟩:∃t,a5=aa t:=⟨_,iv a5⟩;rw[aq]at h1 h2 h5;obtain⟨l1,l2,l3⟩:=h3.len;have hl:=h3.take_len;have h:=zr l m k t a4 ⟨h4,h4'⟩ A3 cap3 (z3.take len3) (by omega) (by omega) (by omega) (by omega) (by omega) w hB (fun X hX=>h3.rd.below hX (Z5 _));rw[hl]at h;exact h
end
section
open Go.ChangeShapes Go.WideShapes Go.ChangeAt Go.RowKit
namespace ExprLaid
theorem gm:Tryz.prog.globalNamed "escritoire/lex.marks"=some 1:=by kernel_rfl
theorem gt:(Tryz.prog.globals[1]?).map (·.type)=some 225:=by kernel_rfl
theorem gl:Tryz.prog.globalNamed "escritoire/expr.levels"=some 2:=by kernel_rfl
theorem glt:(Tryz.prog.globals[2]?).map (·.type)=some 237:=by kernel_rfl
theorem cs1:Tryz.prog.cellsOf 9=1:=by kernel_rfl
theorem Hr:Tryz.prog.cellsOf 225=18:=by kernel_rfl
theorem Hs:Tryz.prog.cellsOf 105=1:=by kernel_rfl
theorem cs3:Tryz.prog.cellsOf 237=3:=by kernel_rfl
theorem et:Tryz.prog.globalNamed "errors.errorType"=some 0:=by kernel_rfl
theorem rt:(Tryz.prog.cutTypes.find? (·.1== "internal/reflectlite.rtype")).map (·.2)=some 175:=by kernel_rfl
theorem GZ:((List.range 268).filter fun t=>Tryz.prog.rowNamed t [101,114,114,111,114])=[30]:=by kernel_rfl
theorem size:Tryz.prog.types.size=268:=by kernel_rfl
def laid:List (String×DataW Unit):=[("errors.errorType",Rows.laid_errors_errorType),("escritoire/lex.marks",Rows.laid_escritoire_lex_marks),("escritoire/expr.levels",Rows.laid_escritoire_expr_levels)]
theorem jE{W:World}(h:laidMetH Tryz.prog laid W):eS W:=by
 have h':=(laidMetH_iff.1 h).2;obtain⟨name,u,ty,e1,e2,e3,e4,e5⟩:=h' ("errors.errorType",Rows.laid_errors_errorType) (by simp[laid,Rows.laid_errors_errorType,DataW.handleName?]);have en:name=[101,114,114,111,114]:=(Option.some.inj e1).symm;subst en;obtain rfl:=Option.some.inj (rt.symm.trans e2);have hm:ty∈(List.range 268).filter fun t=>Tryz.prog.rowNamed t [101,114,114,111,114]:=List.mem_filter.2 ⟨List.mem_range.2 (by rw[← size];exact e3),e4⟩
 rw[GZ]at hm;obtain rfl:=List.mem_singleton.1 hm;have hh:typeHandle Tryz.prog 30=hdl 30:=by kernel_rfl
 rw[hh]at e5;simpa[eS]using World.var?_cell et e5 0
theorem Et{α β:Type}{f:α→Option β}:∀{l:List α} {r:List β},l.mapM f=some r→∀(i:Nat) (h:i < l.length),∃y,r[i]? =some y∧f l[i]=some y:=by
 intro l
 induction l with
 |nil=>intro r _ i h;cases h
 |cons x xs ih=>
  intro r h i hi;simp only[List.mapM_cons,Option.bind_eq_bind,Option.bind_eq_some_iff,Option.pure_def,Option.some.injEq]at h;obtain⟨y,h1,ys,h2,rfl⟩:=h;cases i with
  |zero=>exact⟨y,rfl,h1⟩
  |succ i=>exact ih h2 i (by simpa using hi)
theorem wZ{H:Type}{enc:TypeId×Value→H}{W:World}{base:Nat}{sp:Nat→Bool}{held:Bool}{n:Nat}{c:Value}{bs:List UInt8}{ps:List MemPlace}
  (h:DataW.trod enc Tryz.prog W base sp held n 9 [c]=some (.lit (.string bs),ps)):c= .string (aa bs):=by
 cases n with
 |zero=>simp[DataW.trod]at h
 |succ n=>
  rw[DataW.trod_step]at h;unfold DataW.trodStep at h;rw[Tryz.underlying9]at h;cases c with
  |string s=>
   simp only at h;split at h
   ·simp only[Option.some.injEq,Prod.mk.injEq,DataW.lit.injEq,Lit.string.injEq]at h;rw[← h.1];exact congrArg _ (iv s)
   ·cases h
  |_=>cases h
theorem mr{H:Type}{enc:TypeId×Value→H}{W:World}{base:Nat}{sp:Nat→Bool}{held:Bool}{n:Nat}{t e:TypeId}{m:Nat}{l:List Value}{ds:List (DataW H)}{ps:List MemPlace}
  (ht:Tryz.prog.underlying t=some (.array m e))(hc:Tryz.prog.cellsOf e=1)(hm:Tryz.prog.cellsOf t=m)(h:DataW.trod enc Tryz.prog W base sp held n t l=some (.agg ds,ps))(j:Nat)(hj:j < m):
  ∃k d qs,l[j]? =some k∧ds[j]? =some d∧∃n',DataW.trod enc Tryz.prog W base sp held n' e [k]=some (d,qs):=by
 cases n with
 |zero=>simp[DataW.trod]at h
 |succ n=>
  rw[DataW.trod_step]at h;unfold DataW.trodStep at h;rw[ht]at h;simp only[hc,hm]at h;split at h
  ·rename_i hl
   simp only[Option.map_eq_some_iff]at h;obtain⟨xs,hm,hx⟩:=h;obtain⟨y,hy,hf⟩:=Et hm j (by simpa using hj);simp only[Prod.mk.injEq,DataW.agg.injEq]at hx;simp only[Nat.mul_one,List.getElem_range]at hf;have hjl:j < l.length:=by
    have h0:l.length=m:=hl;omega
   have e3:(l.drop j).take 1=[l[j]]:=by
    rw[List.drop_eq_getElem_cons hjl];rfl
   rw[e3]at hf;obtain⟨y1,y2⟩:=y;refine⟨l[j],y1,y2,Y1 hjl,?_,_,hf⟩;rw[← hx.1,List.getElem?_map,hy];rfl
  ·cases h
theorem ri{W:World}(h:laidMetH Tryz.prog laid W):ec W:=by
 have h':laidMet Tryz.prog [("escritoire/lex.marks",Rows.laid_escritoire_lex_marks),("escritoire/expr.levels",Rows.laid_escritoire_expr_levels)] W:=(laidMetH_iff.1 h).1;obtain⟨ps,⟨g,t,cs,fuel,p,q,hg,ht,hvar,hd,_,_⟩,_⟩:=h';obtain rfl:=Option.some.inj (gm.symm.trans hg);obtain rfl:=Option.some.inj (gt.symm.trans ht);intro j hj;obtain⟨l⟩:=cs;rw[World.var?_cell hg hvar j];obtain⟨k,d,qs,e1,e2,n',e3⟩:=mr (m:=18) Tryz.underlying225 cs1 Hr hd j hj;have hd2:((Lex.marks.map fun m=>(DataW.lit (.string m):DataW Unit))[j]?)=some d:=e2;rw[List.getElem?_map]at hd2;have e4:Lex.marks[j]? =some (Lex.marks.getD j []):=by
  rw[List.getD_eq_getElem?_getD,Y1 (by exact hj)];rfl
 rw[e4]at hd2;have hd3:=Option.some.inj hd2;subst hd3;have:=wZ e3;subst this;simpa using e1
theorem F3{H:Type}{enc:TypeId×Value→H}{W:World}{base:Nat}{sp:Nat→Bool}{held:Bool}{n:Nat}{v:Value}{L:List (List UInt8)}{ps:List MemPlace}(hL:L≠[])
  (h:DataW.trod enc Tryz.prog W base sp held n 105 [v]=some (.slice (L.map fun s=> .lit (.string s)) [],ps)):∃(a:Addr) (cap:Nat),v= .slice (some a) L.length cap∧a.block < W.heap.size∧∀j,j < L.length→W.cell? (a.add j)=some (.string (aa (L.getD j []))):=by
 rcases open_strings Tryz.underlying105 Tryz.underlying9 cs1 h with⟨_,h2⟩|⟨a,len,cap,ss,h1,_,hlc,_,hss,hx,hcell,_⟩
 ·cases h2
 ·obtain rfl:=List.cons.inj h1 |>.1;simp only[Prod.mk.injEq,DataW.slice.injEq]at hx;have hx1:(L.map fun s=>(DataW.lit (.string s):DataW H))=strs (ss.take len):=hx.1.1;have hlen:L.length=(ss.take len).length:=by
   have:=congrArg List.length hx1;simpa[strs]using this
  have hls:len≤ss.length:=by rw[hss];split <;> omega
  have hl2:L.length=len:=by rw[hlen,List.length_take];omega
  have hget:∀j,j < L.length→ss.getD j ByteArray.empty=aa (L.getD j []):=by
   intro j hj;have e1:(L.map fun s=>(DataW.lit (.string s):DataW H))[j]? =(strs (ss.take len))[j]? :=by rw[hx1]
   have hjs:j < ss.length:=by omega
   rw[List.getElem?_map,Y1 hj,strs,List.getElem?_map,List.getElem?_take_of_lt (by omega),Y1 hjs]at e1;simp only[Option.map_some,Option.some.injEq,DataW.lit.injEq,Lit.string.injEq]at e1;rw[List.getD_eq_getElem?_getD,Y1 hjs,List.getD_eq_getElem?_getD,Y1 hj];simp only[Option.getD_some];rw[e1];exact iv _
  have hc:∀j,j < L.length→W.cell? (a.add j)=some (.string (aa (L.getD j []))):=fun j hj=>by
   rw[hcell j (by omega),hget j hj]
  have hpos:0 < L.length:=List.length_pos_iff.2 hL;refine⟨a,cap,by rw[hl2],?_,hc⟩;have:=World.block_lt_of_cell? W _ (hc 0 hpos);rwa[Addr.cM]at this
theorem qF{W:World}(h:laidMetH Tryz.prog laid W):Rd.db W W.heap.size:=by
 have h':laidMet Tryz.prog [("escritoire/lex.marks",Rows.laid_escritoire_lex_marks),("escritoire/expr.levels",Rows.laid_escritoire_expr_levels)] W:=(laidMetH_iff.1 h).1;obtain⟨ps,⟨g,t,cs,fuel,p,q,hg,ht,hvar,hd,hrest,_⟩,_⟩:=h';obtain⟨g2,t2,cs2,fuel2,p2,q2,hg2,ht2,hvar2,hd2,_,_⟩:=hrest;obtain rfl:=Option.some.inj (gl.symm.trans hg2);obtain rfl:=Option.some.inj (glt.symm.trans ht2);obtain⟨l⟩:=cs2;have key:∀k,k < 3→∃(a:Addr) (cap:Nat),W.cell? ⟨2,k,none⟩=some (.slice (some a) (Ex.levels k).length cap)∧a.block < W.heap.size∧∀j,j < (Ex.levels k).length→W.cell? (a.add j)=some (.string (aa ((Ex.levels k).getD j []))):=by
  intro k hk;obtain⟨v,d,qs,e1,e2,n',e3⟩:=mr (m:=3) Tryz.underlying237 Hs cs3 hd2 k hk;have hd3:d= .slice ((Ex.levels k).map fun s=> .lit (.string s)) []:=by
   rcases(by omega:k=0∨k=1∨k=2)with rfl|rfl|rfl
   ·exact(Option.some.inj e2).symm
   ·exact(Option.some.inj e2).symm
   ·exact(Option.some.inj e2).symm
  rw[hd3]at e3;have hne:Ex.levels k≠[]:=by
   rcases(by omega:k=0∨k=1∨k=2)with rfl|rfl|rfl <;> simp[Ex.levels]
  obtain⟨a,cap,rfl,hb,hc⟩:=F3 hne e3;refine⟨a,cap,?_,hb,hc⟩;rw[World.var?_cell hg2 hvar2 k];simpa using e1
 obtain⟨a,cap,hc0,_⟩:=key 0 (by omega);exact⟨World.block_lt_of_cell? W _ hc0,key⟩
theorem mw{W:World}(h:laidMetH Tryz.prog laid W):ke W:=
 ⟨⟨qF h,jE h,(jE h).lt⟩,ri h⟩
theorem n9{H:Type}{enc:TypeId×Value→H}{C:Checked}{os:Os}{f:FuncId}{fn:Func}{s:ChangeSpec}{conds:List PathCond}{apart:Bool}{X:World→Array Value→Prop}(w0:World)(args:Array Value)(fuel:Nat)(hos:w0.os=os)
  (hv:(w0.forCall (fun _ _=>0) ⟨#[],args,[]⟩).variablesRefB C.prog=true)
  (hr:((w0.forCall (fun _ _=>0) ⟨#[],args,[]⟩).heap.toList.drop C.prog.globals.size).take ((begin C.prog (fun _ _=>0) default).world.heap.size - C.prog.globals.size)=(begin C.prog (fun _ _=>0) default).world.heap.toList.drop C.prog.globals.size)
  (hok:Input.okWideB C.prog (w0.forCall (fun _ _=>0) ⟨#[],args,[]⟩) f ⟨#[],args,[]⟩=true)
  (hpre:s.preB enc C.prog fn conds apart (w0.forCall (fun _ _=>0) ⟨#[],args,[]⟩).memory args fuel=true)
  (hsz:s.sizedB enc C.prog fn apart (w0.forCall (fun _ _=>0) ⟨#[],args,[]⟩).memory args fuel=true)
  (hx:X (w0.forCall (fun _ _=>0) ⟨#[],args,[]⟩).memory args):
  ∃(w:World) (tape:Tape) (i:Input),w.os=os∧(w.forCall tape i).Shaped C.prog∧i.vars=[]∧Input.okWide C.prog (w.forCall tape i) .any w.heap.size f i∧
   ((s.pre enc C.prog fn conds apart (w.forCall tape i).memory i.args∧X (w.forCall tape i).memory i.args)∧sizedMet enc C.prog fn (OpenSpec.ofChange s) apart (w.forCall tape i).memory i.args)∧({modest:=false}:Assume).holds C.prog (lone (Frame.enter C.prog f i.args .normal) [] (w.forCall tape i)):=
 ⟨w0,fun _ _=>0,⟨#[],args,[]⟩,hos,World.shaped_of_RefB hv hr,(Input.okWide_of_okWideB (base:=0) hok).1,(Input.okWide_of_okWideB hok).2,⟨⟨ChangeSpec.pre_of_preB hpre,hx⟩,sizedMet_of_sizedB hsz⟩,by
  simp only[Assume.holds];exact⟨by simp,by simp,fun h=>by simp at h,by simp,by simp⟩⟩
noncomputable def nJ(os:Os):World:=
 let w0:=World.holding Tryz.prog os ⟨#[],#[],[]⟩
 let put (h:Array Obj) (g:Nat) (cs:Array Value):Array Obj:=h.modify g fun
  | .cells _ t frozen=> .cells cs t frozen
  |o=>o
 let n:=w0.heap.size
 let h1:=put w0.heap 1 sJ
 let h2:=put h1 0 #[.iface 175 (.agg #[hdl 30])]
 let h3:=put h2 2 #[.slice (some ⟨n,0,none⟩) 4 4,.slice (some ⟨n+1,0,none⟩) 3 3,.slice (some ⟨n+2,0,none⟩) 2 2]
 let h4:=h3.push (.cells #[.string (aa [61,61]),.string (aa [33,61]),.string (aa [60]),.string (aa [62])] 9 (0,0))
 let h5:=h4.push (.cells #[.string (aa [43]),.string (aa [45]),.string (aa [124])] 9 (0,0))
 let h6:=h5.push (.cells #[.string (aa [42]),.string (aa [38])] 9 (0,0))
 {w0 with heap:=h6}
theorem kF(os:Os)(args:Array Value):laidMetH Tryz.prog laid ((nJ os).forCall (fun _ _=>0) ⟨#[],args,[]⟩).memory:=
 laidMetH_of_parts (laidMet_of_run' 8 (by kernel_rfl) (by kernel_rfl)) (by kernel_rfl)
end ExprLaid
end
section
open Go.ChangeShapes Go.WideShapes Go.ChangeAt Go.RowKit
open Go.ChangeMaps (open_string shut_string)
namespace FixSetsProof
theorem own:ownKnob Tryz.prog.godebug=none:=by kernel_rfl
theorem laidOut:laidOutB Tryz.prog=true:=by kernel_rfl
open ExprLaid (nJ kF mw n9)
theorem lifted(os:Os)(started:os.Started)(H:Type)(enc:TypeId×Value→H):
  ReturnsInHanded {} Tryz.checked os 5 .any (fun w args=>(Rows.fixSetsSpec.pre enc Tryz.prog Tryz.f5 [] false w args∧laidMetH Tryz.prog Rows.fixSetsRow.laid w)∧sizedMet enc Tryz.prog Tryz.f5 (OpenSpec.ofChange Rows.fixSetsSpec) false w args)
   (Rows.fixSetsSpec.post enc Tryz.prog Tryz.f5 false true false false):=by
 refine returnsInHanded_of_change_and (C:=Tryz.checked) (X:=fun w _=>laidMetH Tryz.prog Rows.fixSetsRow.laid w) (fun _ _ _ hh h=>h.of_heap hh) own started (by kernel_rfl) Tryz.func5
  (n9 (enc:=enc) (C:=Tryz.checked) (os:=os) (X:=fun w _=>laidMetH Tryz.prog Rows.fixSetsRow.laid w) (nJ os) #[.string ByteArray.empty,.string ByteArray.empty,.string ByteArray.empty,.slice none 0 0,.int .i64 0,.string ByteArray.empty] 8 rfl (by kernel_rfl) (by kernel_rfl) (by kernel_rfl) (by kernel_rfl) (by kernel_rfl) (kF os _)) ?_
 intro W base args ds gs before hval0 hW hcnd hsz0 hL _;have hval:∀(j:Nat) t v,Tryz.f5.params[j]? =some t→args[j]? =some v→Value.okWide Tryz.prog W .any base t v:=hval0;have hsz:(DataW.weightsEach Tryz.prog (Tryz.f5.params.toList++Rows.fixSetsSpec.plain.varTypes Tryz.prog) (ds++gs)).all (· ≤reachBytes)=true:=hsz0;have hW':=hW;obtain⟨p,q,hA0,hV,rfl,hfz,hnd⟩:=hW;have hA:DataW.TrodAll enc Tryz.prog W 0 (fun _=>true) true Tryz.f5.params.toList args.toList ds p:=hA0;rw[Tryz.params5]at hA hval hsz;obtain⟨v0,vs0,d0,ds0,p0,q0,hargs,rfl,rfl,h0,r0⟩:=trodAll_cons hA;obtain⟨v1,vs1,d1,ds1,p1,q1,rfl,rfl,rfl,h1,r1⟩:=trodAll_cons r0;obtain⟨v2,vs2,d2,ds2,p2,q2,rfl,rfl,rfl,h2,r2⟩:=trodAll_cons r1;obtain⟨v3,vs3,d3,ds3,p3,q3,rfl,rfl,rfl,h3,r3⟩:=trodAll_cons r2;obtain⟨v4,vs4,d4,ds4,p4,q4,rfl,rfl,rfl,h4,r4⟩:=trodAll_cons r3;obtain⟨v5,vs5,d5,ds5,p5,q5,rfl,rfl,rfl,h5,r5⟩:=trodAll_cons r4;obtain⟨rfl,rfl,rfl⟩:=trodAll_nil r5;obtain rfl:args= #[v0,v1,v2,v3,v4,v5]:=by cases args;simp_all
 have hg:ke W:=mw hL;obtain⟨rfl,rfl⟩:=trodVars_none hV;obtain⟨a0,rfl,rfl,rfl,w0⟩:=open_string Tryz.underlying9 (hval 0 9 v0 rfl rfl) h0;have s0:a0.size≤140737488351232:=by have:=sized_string hsz (j:=0) rfl rfl;rw[eV]at this;simpa[reachBytes]using this
 obtain⟨a1,rfl,rfl,rfl,w1⟩:=open_string Tryz.underlying9 (hval 1 9 v1 rfl rfl) h1;have s1:a1.size≤140737488351232:=by have:=sized_string hsz (j:=1) rfl rfl;rw[eV]at this;simpa[reachBytes]using this
 obtain⟨a2,rfl,rfl,rfl,w2⟩:=open_string Tryz.underlying9 (hval 2 9 v2 rfl rfl) h2;have s2:a2.size≤140737488351232:=by have:=sized_string hsz (j:=2) rfl rfl;rw[eV]at this;simpa[reachBytes]using this
 obtain⟨A3,len3,cap3,rfl⟩:=okWide_slice Tryz.underlying40 (hval 3 40 v3 rfl rfl);have k3:=h3;have lt3:∀x∈p3,x.block < W.heap.size:=by obtain⟨m,hm⟩:=k3;exact DataW.trod_lt m _ _ _ hm
 obtain⟨z3,w3⟩:∃zs,gG .i64 W A3 len3 cap3 zs:=by
  obtain⟨fuel,hf⟩:=h3;rcases open_ints Tryz.underlying40 Tryz.underlying3 (by kernel_rfl) hf with⟨hcs,_⟩|⟨x,l,c,zs,hcs,_,hl,hm,hz,hx,hcell,hwz⟩
  ·simp[Value.cells]at hcs;obtain⟨rfl,rfl,rfl⟩:=hcs;exact⟨[],.inl ⟨rfl,rfl,rfl,rfl⟩⟩
  ·simp[Value.cells]at hcs;obtain⟨rfl,rfl,rfl⟩:=hcs;have hz':zs.length=cap3:=by simpa using hz
   cases hx;have hsl:=sized_slice hsz (j:=3) (e:=3) rfl rfl Tryz.underlying40;rw[show Tryz.prog.bytesOf 3=8 from by kernel_rfl]at hsl;simp[lits,reachBytes]at hsl;exact⟨zs,.inr ⟨_,rfl,hl,hm,hz',hcell,hwz,by omega⟩⟩
 obtain⟨a4,rfl,rfl,rfl,w4⟩:=open_int Tryz.underlying3 (hval 4 3 v4 rfl rfl) h4;have b4:=bounds_i64 w4;obtain⟨a5,rfl,rfl,rfl,w5⟩:=open_string Tryz.underlying9 (hval 5 9 v5 rfl rfl) h5;have s5:a5.size≤140737488351232:=by have:=sized_string hsz (j:=5) rfl rfl;rw[eV]at this;simpa[reachBytes]using this
 clear hA0 hval0;simp only[List.append_nil]at hW';refine(uf W a0 a1 a2 A3 len3 cap3 z3 a4 a5 s0 s1 s2 w3 b4.1 b4.2 s5 hg).mono fun e W' ⟨he,bel⟩=> ?_
 subst he;exact⟨_,rfl,_,_,_,[],_,[],hW',trodAll_mk1 (shut_bool Tryz.underlying4 _),(trodAll_cons_mk (shut_string Tryz.underlying9 w0) (trodAll_cons_mk (shut_string Tryz.underlying9 w1) (trodAll_cons_mk (shut_string Tryz.underlying9 w2) (trodAll_cons_mk (Below.trod laidOut (by kernel_rfl) (of_decide_eq_true (by kernel_rfl)) k3 bel lt3) (trodAll_cons_mk (shut_int Tryz.underlying3 w4) (trodAll_cons_mk (shut_string Tryz.underlying9 w5) trodAll_mk0)))))),rfl,bel.frame _,fun h=>by cases h⟩
theorem G0:Rows.FixSetsSaid:=
 OpenClaim.holds_of_wide 5 Tryz.f5 rfl rfl rfl rfl rfl rfl rfl ⟨rfl,rfl,rfl,rfl,rfl⟩ rfl rfl rfl rfl rfl (by kernel_rfl) Tryz.func5 (by kernel_rfl)
  (of_decide_eq_true (by kernel_rfl)) (by unfold Func.isWrapper;first|(rw[if_pos (by decide+kernel)];kernel_rfl)|(rw[if_neg (by decide+kernel)];exact⟨rfl,rfl⟩))
  (fun os started H enc _=>lifted os started H enc)
theorem proved:Rows.FixSetsCardSaid:=
 Claim7.holds_tied_plain_at .later [] [.handle,.data,.widerDeep] true Rows.fixSetsCard.stood.harness true
  G0 (fun _ h=>by cases h) (by kernel_rfl) (fun _ h=>by cases h) fixSets_row_tie rfl ⟨rfl,rfl⟩ (by kernel_rfl) rfl
  (fun f fn hf hfn=>by
   obtain rfl:f=5:=Option.some.inj ((show Tryz.prog.funcNamed "escritoire/escritoirekeep.FixSets"=some 5 by kernel_rfl).symm.trans hf) |>.symm;obtain rfl:fn=Tryz.f5:=(Option.some.inj (Tryz.func5.symm.trans hfn)).symm;exact⟨by kernel_rfl,fun j t ht=>by
    rw[Tryz.params5]at ht;have h3:t=40∨t=3∨t=9:=by
     rcases j with _|_|_|_|_|_|j
     ·simp at ht;subst ht;simp
     ·simp at ht;subst ht;simp
     ·simp at ht;subst ht;simp
     ·simp at ht;subst ht;simp
     ·simp at ht;subst ht;simp
     ·simp at ht;subst ht;simp
     ·simp at ht
    rcases h3 with rfl|rfl|rfl
    ·exact(show Tryz.prog.wantsStandIn 40=false by kernel_rfl)
    ·exact(show Tryz.prog.wantsStandIn 3=false by kernel_rfl)
    ·exact(show Tryz.prog.wantsStandIn 9=false by kernel_rfl)⟩)
  (by kernel_rfl)
#print axioms proved
end FixSetsProof
end
end Go.Proofs.YtlomecfhobehnaaGreatDoor
