import Derived.Test.YtlomecfhobehnaaGreatDoorMgFixDrops31
set_option linter.all false
set_option maxRecDepth 100000
set_option maxHeartbeats 4000000
namespace Go.Proofs.YtlomecfhobehnaaGreatDoor
open Lib (hid)
section
open Go Go.RowKit
open Rd
open Ly
theorem lN:∀(i:Nat) (l:Tm.Its),Fx.kZ l→Fx.kZ (l.drop i)
 |0,l,h=>by cases l <;> exact h
 |i+1,.nil,_=>trivial
 |i+1,.cons _ l,h=>lN i l h
 |i+1,.when _ _ _ l,h=>lN i l h.2
theorem BC(U:World)(rb cap:Nat)(tys:List Tm.Ty)(a:Option Addr)(hE:FxE U rb tys a cap)(hFT:∀t∈tys,Tm.bg t)(W:Wri)(Bf:Fx.Fxr)(ts:List Tm.Wd)(hWl:fs W)(hL:Fx.Gb Bf)(hKW:Fx.kY W Bf)(hOk:Fx.OkF W Bf)(hSW:∀nm∈ts,uP tys W nm)(hSF:∀nm∈ts,II U rb tys a cap W Bf nm):
  ∀(n:Nat) (l:Tm.Its),l.sz < n→Tm.bG l→Fx.jQ l.row→Fx.kZ l→kV ts l→l.sz≤100000→xQ U rb tys a cap W (Fx.fu Fx.bE W Bf l) l
 |0,l,h,_,_,_,_,_=>absurd h (Nat.not_lt_zero _)
 |n+1,l,h,hF,hR,hO,hRf,hz=>by
  refine Ah U rb cap tys a W Bf l hE hFT hWl hF hR (Nat.le_trans (Tm.lA l) hz) (fun i ai c b r hd=> ?_) (fun i hh r t hd hk=> ?_) (fun i ai c b r hd=> ?_) (fun i hh r t hd hk=> ?_) hL hKW hOk
  ·have h1:=Tm.dh i l hF;have h2:=dN i l hRf;have h3:=Tm.gT i l;rw[hd]at h1 h2 h3;have h4:b.sz+1≤(Tm.Its.when ai c b r).sz:=by simp only[Tm.Its.sz];omega
   exact jK tys W hWl ts hSW _ b (Nat.lt_succ_self _) h1.2.1 h2.1 (by omega)
  ·have h2:=dN i l hRf;rw[hd]at h2;exact hSW t (h2.1 t hk)
  ·have h1:=Tm.dh i l hF;have h2:=dN i l hRf;have h3:=Tm.gT i l;have h5:=lN i l hO;rw[hd]at h1 h2 h3 h5;have h4:b.sz+1≤(Tm.Its.when ai c b r).sz:=by simp only[Tm.Its.sz];omega
   exact BC U rb cap tys a hE hFT W Bf ts hWl hL hKW hOk hSW hSF n b (by omega) h1.2.1 h5.1.1 h5.1.2 h2.1 (by omega)
  ·have h2:=dN i l hRf;rw[hd]at h2;exact hSF t (h2.1 t hk)
theorem yf(U:World)(rb cap:Nat)(tys:List Tm.Ty)(a:Option Addr)(hE:FxE U rb tys a cap)(hA:∀t∈tys,Tm.bg t∧Tm.Its.sz t.items≤100000)(hK:∀t∈tys,Fx.jQ t.items.row∧Fx.kZ t.items):∀(r:List Tm.Ty),(∀t∈r,t∈tys)→gB r→∀nm∈names r,II U rb tys a cap (wrS r) (Fx.dn Fx.bE r) nm
 |[],_,_,nm,h=>by cases h
 |t::r,hm,hc,nm,h=>by
  obtain⟨c1,c2,c3⟩:=hc;have hmr:∀t'∈r,t'∈tys:=fun t' ht'=>hm t' (List.mem_cons_of_mem _ ht')
  have ih:=yf U rb cap tys a hE hA hK r hmr c3;have hFr:∀t'∈r,Tm.bg t':=fun t' ht'=>(hA t' (hmr t' ht')).1
  have htA:=hm t (by simp);obtain⟨f1,f2⟩:=hA t htA;obtain⟨k1,k2⟩:=hK t htA
  by_cases hn:t.name=nm
  ·subst hn;refine⟨t,htA,rfl,wrS r,fun ks=> ?_,?_⟩
   ·show(if t.name=t.name then _ else _)=_;rw[if_pos rfl]
   ·have e:Fx.dn Fx.bE (t::r) t.name=Fx.fu Fx.bE (wrS r) (Fx.dn Fx.bE r) t.items:=by
     funext ks
     show(if t.name=t.name then _ else _)=_;rw[if_pos rfl]
    rw[e];exact BC U rb cap tys a hE (fun t ht=>(hA t ht).1) (wrS r) (Fx.dn Fx.bE r) (names r) (nU r) (Fx.qU r) (Fx.fQ r hFr) (Fx.mW Fx.jb r hFr) (qK tys (fun t ht=>⟨(hA t ht).1,by have:=(hA t ht).2;omega⟩) r hmr c3) ih _ t.items (Nat.lt_succ_self _) f1.2 k1 k2 c2 f2
  ·have hr:nm∈names r:=by
    rcases List.mem_cons.1 h with h|h
    ·exact absurd h.symm hn
    ·exact h
   obtain⟨t2,g1,g2,W',g4,g5⟩:=ih nm hr;refine⟨t2,g1,g2,W',fun ks=> ?_,?_⟩
   ·show(if t.name=nm then _ else _)=_;rw[if_neg hn];exact g4 ks
   ·have e:Fx.dn Fx.bE (t::r) nm=Fx.dn Fx.bE r nm:=by
     funext ks
     show(if t.name=nm then _ else _)=_;rw[if_neg hn]
    rw[e];exact g5
namespace Fx
open Ly
def eqF(P:Nd→Nd→Bool):Nds→Nds→Bool
 | .nil,.nil=>true
 | .cons a1 a2 a3 a4 a5 a6 a7 r1,.cons b1 b2 b3 b4 b5 b6 b7 r2=>P ⟨a1,a2,a3,a4,a5,a6,a7⟩ ⟨b1,b2,b3,b4,b5,b6,b7⟩&&eqF P r1 r2
 |_,_=>false
theorem BD{P:Nd→Nd→Bool}:∀(X Y:Nds),X.len≠Y.len→eqF P X Y=false
 | .nil,.nil,h=>absurd rfl h
 | .nil,.cons ..,_=>rfl
 | .cons ..,.nil,_=>rfl
 | .cons a1 a2 a3 a4 a5 a6 a7 r1,.cons b1 b2 b3 b4 b5 b6 b7 r2,h=>by
  have:=BD (P:=P) r1 r2 (fun e=>h (by simp only[Nds.len,e]));simp only[eqF,this,Bool.and_false]
theorem yg:∀X Y:Nds,eqF ec X Y=jP X Y
 | .nil,.nil=>rfl
 | .nil,.cons ..=>rfl
 | .cons ..,.nil=>rfl
 | .cons a1 a2 a3 a4 a5 a6 a7 r1,.cons b1 b2 b3 b4 b5 b6 b7 r2=>by
  simp only[eqF,jP,ec,yg r1 r2]
end Fx
def yh(d e:Nd):Prop:=∀(w:World) (B1 B2:Nat) (b1 b2:List Nat) (v1 v2:Value),NdV w B1 b1 d v1→NdV w B2 b2 e v2→Calls Tryz.prog 69 #[v1,v2] w fun x w'=>x= .returned (.bool (Fx.ec d e))∧Below w.heap.size w w'
theorem DT(n:Nat)(ih:∀d e:Nd,d.tot < n→d.tot≤800000→yh d e)(X Y:Nds)(hX:X.tot < n)(hXt:X.tot≤800000)(w:World)(B1 B2 c1 c2:Nat)(g1 g2:Option Addr)(v1 v2:List Value)(b1 b2:List Nat)(ho1:ak w B1 28 7 g1 X.len c1 v1)(he1:aU w B1 X b1 v1)(ho2:ak w B2 28 7 g2 Y.len c2 v2)(he2:aU w B2 Y b2 v2):
  Calls Tryz.prog 36 #[.slice g1 X.len c1,.slice g2 Y.len c2,.func (.func 69) #[] #[]] w fun e w'=>e= .returned (.bool (Fx.eqF Fx.ec X Y))∧Below w.heap.size w w':=by
 obtain⟨nx,hnx⟩:∃nx,nx=X.len:=⟨_,rfl⟩;obtain⟨ny,hny⟩:∃ny,ny=Y.len:=⟨_,rfl⟩;have hnx9:nx≤100000:=by have:=fR X;omega
 have hc1:nx≤c1:=by rw[hnx];exact aW ho1
 have hc2:ny≤c2:=by rw[hny];exact aW ho2
 have HO:=hid (And.intro ho1 (And.intro he1 (And.intro ho2 he2)));have HNX:=hid hnx;have HNY:=hid hny;have HIH:=hid ih;have HXN:=hid hX;have HXT:=hid hXt;have HEQ:=hid (fun(h:X.len≠Y.len)=>Fx.BD (P:=Fx.ec) X Y h);rw[← hnx,← hny];clear ho1 he1 ho2 he2 hnx hny ih hX hXt
 by_cases hl:nx=ny
 ·subst hl;go_enter Tryz.func36,Tryz.ntmps36;go_wp2_with fail;go_loopw [17] (fun v17 wr=>∃k:Nat,v17= .int .i64 k∧k≤nx∧Hid (Fx.eqF Fx.ec X Y=Fx.eqF Fx.ec (X.drop k) (Y.drop k))∧Hid (Below w.heap.size w wr)) (fun v17 _=>nx - (intOf v17).toNat)
  case atStart=>exact⟨0,rfl,Nat.zero_le _,hid (by rw[show X.drop 0=X by cases X <;> rfl,show Y.drop 0=Y by cases Y <;> rfl]),hid (Y4 _ _)⟩
  case round=>
   obtain⟨k,rfl,hk,HQ,HB⟩:=hrel
   by_cases hlt:k < nx
   ·have hki:(k:Int) < (nx:Int):=by omega
    have q1:decide ((k:Int) < (nx:Int))=true:=Z9 hki;have q2:decide (k < nx)=true:=Z9 hlt;have HLT:=hid hlt;obtain⟨x1,rfl⟩:∃x,g1=some x:=by
     cases g1 with
     |none=>have:=HO.out.1.aS.1;rw[← HNX.out]at this;omega
     |some x=>exact⟨x,rfl⟩
    obtain⟨a1,rfl⟩:∃gb,x1=⟨gb,0,none⟩:=⟨x1.block,HO.out.1.row.1⟩;obtain⟨x2,rfl⟩:∃x,g2=some x:=by
     cases g2 with
     |none=>have:=HO.out.2.2.1.aS.1;rw[← HNY.out]at this;omega
     |some x=>exact⟨x,rfl⟩
    obtain⟨a2,rfl⟩:∃gb,x2=⟨gb,0,none⟩:=⟨x2.block,HO.out.2.2.1.row.1⟩;obtain⟨⟨nm1,kd1,at1,sz1,w1,tx1,ks1⟩,r1,hd1,hd1'⟩:=X.cF k (by rw[← HNX.out];exact hlt);obtain⟨⟨nm2,kd2,at2,sz2,w2,tx2,ks2⟩,r2,hd2,hd2'⟩:=Y.cF k (by rw[← HNY.out];exact hlt);obtain⟨h1,i1,s1,t1,e1,e2,e3⟩:=aU.nd HO.out.1 HO.out.2.1 hd1;obtain⟨h2,i2,s2,t2,f1,f2,f3⟩:=aU.nd HO.out.2.2.1 HO.out.2.2.2 hd2;simp only[]at e1 e2 e3 f1 f2 f3;obtain⟨m1,hm1⟩:∃m1,m1=ks1.len:=⟨_,rfl⟩;obtain⟨m2,hm2⟩:∃m2,m2=ks2.len:=⟨_,rfl⟩;rw[← hm1]at e1;rw[← hm2]at f1;have ht1:Nd.tot ⟨nm1,kd1,at1,sz1,w1,tx1,ks1⟩≤X.tot:=by have:=X.jJ k;rw[hd1,fP]at this;omega
    obtain⟨V2,hV2⟩:∃V2,V2=(wr.alloc (.cells #[.string (aa nm1),.int .i64 (kd1:Nat),.int .i64 (at1:Nat),.int .i64 (sz1:Nat),.int .i64 w1,.string (aa tx1),.slice h1 m1 i1] 28)).alloc (.cells #[.string (aa nm2),.int .i64 (kd2:Nat),.int .i64 (at2:Nat),.int .i64 (sz2:Nat),.int .i64 w2,.string (aa tx2),.slice h2 m2 i2] 28):=⟨_,rfl⟩;have hbA:=HB.out.alloc HB.out.size (.cells #[.string (aa nm1),.int .i64 (kd1:Nat),.int .i64 (at1:Nat),.int .i64 (sz1:Nat),.int .i64 w1,.string (aa tx1),.slice h1 m1 i1] 28);have hb2:Below w.heap.size w V2:=by rw[hV2];exact hbA.alloc hbA.size _
    have hq1:ae V2 wr.heap.size 0 28 [.string (aa nm1),.int .i64 (kd1:Nat),.int .i64 (at1:Nat),.int .i64 (sz1:Nat),.int .i64 w1,.string (aa tx1),.slice h1 m1 i1]:=by rw[hV2];exact(ae.new wr _ _).alloc _
    have hq2:ae V2 (wr.heap.size+1) 0 28 [.string (aa nm2),.int .i64 (kd2:Nat),.int .i64 (at2:Nat),.int .i64 (sz2:Nat),.int .i64 w2,.string (aa tx2),.slice h2 m2 i2]:=by rw[hV2];exact ae.iI _ _ (by simp) _ _
    have hv1:NdV V2 B1 (aB h1++t1) ⟨nm1,kd1,at1,sz1,w1,tx1,ks1⟩ (.agg #[.string (aa nm1),.int .i64 (kd1:Nat),.int .i64 (at1:Nat),.int .i64 (sz1:Nat),.int .i64 w1,.string (aa tx1),.slice h1 m1 i1]):=⟨h1,i1,s1,t1,by rw[hm1];rfl,rfl,e2.below hb2 (Z5 _),e3.an _ _ _ fun b hb=>hb2.block b (e3.mem _ _ _ b hb).2⟩;have hv2:NdV V2 B2 (aB h2++t2) ⟨nm2,kd2,at2,sz2,w2,tx2,ks2⟩ (.agg #[.string (aa nm2),.int .i64 (kd2:Nat),.int .i64 (at2:Nat),.int .i64 (sz2:Nat),.int .i64 w2,.string (aa tx2),.slice h2 m2 i2]):=⟨h2,i2,s2,t2,by rw[hm2];rfl,rfl,f2.below hb2 (Z5 _),f3.an _ _ _ fun b hb=>hb2.block b (f3.mem _ _ _ b hb).2⟩;have HC:=hid (HIH.out ⟨nm1,kd1,at1,sz1,w1,tx1,ks1⟩ ⟨nm2,kd2,at2,sz2,w2,tx2,ks2⟩ (by have:=HXN.out;omega) (by have:=HXT.out;omega) V2 B1 B2 _ _ _ _ hv1 hv2);have HDQ:=hid (show Fx.eqF Fx.ec X Y=(Fx.ec ⟨nm1,kd1,at1,sz1,w1,tx1,ks1⟩ ⟨nm2,kd2,at2,sz2,w2,tx2,ks2⟩&&Fx.eqF Fx.ec (X.drop (k+1)) (Y.drop (k+1))) by rw[HQ.out,hd1,hd2,hd1',hd2'];rfl);have r1':=e1.below HB.out e1.lt;have r2':=(f1.below HB.out f1.lt).alloc (.cells #[.string (aa nm1),.int .i64 (kd1:Nat),.int .i64 (at1:Nat),.int .i64 (sz1:Nat),.int .i64 w1,.string (aa tx1),.slice h1 m1 i1] 28);have y0:=r1'.cell 0 (by simp[ab]);have y1:=r1'.cell 1 (by simp[ab]);have y2:=r1'.cell 2 (by simp[ab]);have y3:=r1'.cell 3 (by simp[ab]);have y4:=r1'.cell 4 (by simp[ab]);have y5:=r1'.cell 5 (by simp[ab]);have y6:=r1'.cell 6 (by simp[ab]);have z0:=r2'.cell 0 (by simp[ab]);have z1:=r2'.cell 1 (by simp[ab]);have z2:=r2'.cell 2 (by simp[ab]);have z3:=r2'.cell 3 (by simp[ab]);have z4:=r2'.cell 4 (by simp[ab]);have z5:=r2'.cell 5 (by simp[ab]);have z6:=r2'.cell 6 (by simp[ab]);simp only[ab,Z0,Z1,Y2]at y0 y1 y2 y3 y4 y5 y6 z0 z1 z2 z3 z4 z5 z6;have p0:=hq1.cell0 0 (by simp);have p1:=hq1.cell0 1 (by simp);have p2:=hq1.cell0 2 (by simp);have p3:=hq1.cell0 3 (by simp);have p4:=hq1.cell0 4 (by simp);have p5:=hq1.cell0 5 (by simp);have p6:=hq1.cell0 6 (by simp);have o0:=hq2.cell0 0 (by simp);have o1:=hq2.cell0 1 (by simp);have o2:=hq2.cell0 2 (by simp);have o3:=hq2.cell0 3 (by simp);have o4:=hq2.cell0 4 (by simp);have o5:=hq2.cell0 5 (by simp);have o6:=hq2.cell0 6 (by simp);simp only[Z0,Z1]at p0 p1 p2 p3 p4 p5 p6 o0 o1 o2 o3 o4 o5 o6;have HV2:=hid hV2;rw[hV2]at p0 p1 p2 p3 p4 p5 p6 o0 o1 o2 o3 o4 o5 o6;have HB2:=hid hb2;obtain⟨pv,hpv⟩:∃pv,pv=Fx.ec ⟨nm1,kd1,at1,sz1,w1,tx1,ks1⟩ ⟨nm2,kd2,at2,sz2,w2,tx2,ks2⟩:=⟨_,rfl⟩;rw[← hpv]at HC HDQ;clear hd1 hd1' hd2 hd2' e1 e2 e3 f1 f2 f3 hm1 hm2 ht1 hbA hb2 hq1 hq2 hv1 hv2 r1' r2' hV2 hpv hlt;go_wp2_with fail;rw[← HV2.out];refine HC.out.mono ?_;rintro e w5 ⟨rfl,hb5⟩;have HB5:=hid (HB2.out.trans (hb5.mono HB2.out.size));clear hb5;cases pv with
    |false=>
     go_wp2_with fail;go_ret;exact⟨by rw[HDQ.out];rfl,HB5.out⟩
    |true=>
     have HD2:=hid (show Fx.eqF Fx.ec X Y=Fx.eqF Fx.ec (X.drop (k+1)) (Y.drop (k+1)) by rw[HDQ.out];rfl);go_wp2_with fail;go_roundw
     case rel=>exact⟨k+1,by first|rfl|rw[az HLT.out hnx9],by have:=HLT.out;omega,HD2,HB5⟩
     case measure=>(try rw[az HLT.out hnx9]);simp only[intOf];have:=HLT.out;omega
   ·obtain rfl:k=nx:=by omega
    have hd:decide ((k:Int) < (k:Int))=false:=by simp
    have hd2:decide (k < k)=false:=by simp
    have HE:=hid (show Fx.eqF Fx.ec X Y=true by
     have h1:=X.df;have h2:=Y.df;rw[← HNX.out]at h1;rw[← HNY.out]at h2;rw[HQ.out,h1,h2];rfl)
    go_wp2_with fail;go_ret;exact⟨by rw[HE.out];rfl,HB.out⟩
 ·have q1:((nx:Int)==(ny:Int))=false:=Z8.2 (by omega);have q2:((nx:Int)!=(ny:Int))=true:=by rw[bne,q1];rfl
  have q3:(nx==ny)=false:=Z8.2 hl;have q4:(nx !=ny)=true:=by rw[bne,q3];rfl
  have HE:=hid (HEQ.out (by rw[← HNX.out,← HNY.out];exact hl));clear hl;go_enter Tryz.func36,Tryz.ntmps36;go_wp2_with fail;go_ret;exact⟨by rw[HE.out];rfl,Y4 _ _⟩
theorem DU(d e:Nd)(ht:d.tot≤800000)(ih:∀d' e':Nd,d'.tot < d.tot→d'.tot≤800000→yh d' e'):yh d e:=by
 intro w B1 B2 bl1 bl2 v1 v2 hv1 hv2;obtain⟨g1,c1,s1,b1,rfl,rfl,o1,e1⟩:=hv1;obtain⟨g2,c2,s2,b2,rfl,rfl,o2,e2⟩:=hv2;obtain⟨nm1,kd1,at1,sz1,w1,tx1,ks1⟩:=d;obtain⟨nm2,kd2,at2,sz2,w2,tx2,ks2⟩:=e;simp only[]at o1 e1 o2 e2⊢;have htk:ks1.tot≤800000:=by unfold Nd.tot at ht;simp only[]at ht;omega
 have htk2:ks1.tot < Nd.tot ⟨nm1,kd1,at1,sz1,w1,tx1,ks1⟩:=by unfold Nd.tot;simp only[];omega
 have HL:=hid (fun(X:World) (hX:Below w.heap.size w X)=>DT (Nd.tot ⟨nm1,kd1,at1,sz1,w1,tx1,ks1⟩) ih ks1 ks2 htk2 htk X B1 B2 c1 c2 g1 g2 s1 s2 b1 b2 (o1.below hX (Z5 _)) (e1.an _ _ _ fun b hb=>hX.block b (e1.mem _ _ _ b hb).2) (o2.below hX (Z5 _)) (e2.an _ _ _ fun b hb=>hX.block b (e2.mem _ _ _ b hb).2));rw[Fx.yg]at HL;obtain⟨m1,hm1⟩:∃m1,m1=ks1.len:=⟨_,rfl⟩;obtain⟨m2,hm2⟩:∃m2,m2=ks2.len:=⟨_,rfl⟩;rw[← hm1,← hm2]at HL⊢;obtain⟨sb,hsb⟩:∃sb,sb=Fx.jP ks1 ks2:=⟨_,rfl⟩;rw[← hsb]at HL;have hsd:Fx.ec ⟨nm1,kd1,at1,sz1,w1,tx1,ks1⟩ ⟨nm2,kd2,at2,sz2,w2,tx2,ks2⟩=(decide (nm1=nm2)&&decide (kd1=kd2)&&decide (w1=w2)&&decide (tx1=tx2)&&sb):=by rw[hsb];rfl
 rw[hsd];have e9:(Value.agg (ab nm1 kd1 at1 sz1 w1 tx1 (.slice g1 m1 c1)).toArray)= .agg #[.string (aa nm1),.int .i64 (kd1:Nat),.int .i64 (at1:Nat),.int .i64 (sz1:Nat),.int .i64 w1,.string (aa tx1),.slice g1 m1 c1]:=rfl;have e8:(Value.agg (ab nm2 kd2 at2 sz2 w2 tx2 (.slice g2 m2 c2)).toArray)= .agg #[.string (aa nm2),.int .i64 (kd2:Nat),.int .i64 (at2:Nat),.int .i64 (sz2:Nat),.int .i64 w2,.string (aa tx2),.slice g2 m2 c2]:=rfl;rw[e9,e8];obtain⟨V2,hV2⟩:∃V2,V2=(w.alloc (.cells #[.string (aa nm1),.int .i64 (kd1:Nat),.int .i64 (at1:Nat),.int .i64 (sz1:Nat),.int .i64 w1,.string (aa tx1),.slice g1 m1 c1] 28)).alloc (.cells #[.string (aa nm2),.int .i64 (kd2:Nat),.int .i64 (at2:Nat),.int .i64 (sz2:Nat),.int .i64 w2,.string (aa tx2),.slice g2 m2 c2] 28):=⟨_,rfl⟩;have hb2:Below w.heap.size w V2:=by rw[hV2];exact((Y4 _ _).alloc (Z5 _) _).alloc (by simp) _
 have hq1:ae V2 w.heap.size 0 28 [.string (aa nm1),.int .i64 (kd1:Nat),.int .i64 (at1:Nat),.int .i64 (sz1:Nat),.int .i64 w1,.string (aa tx1),.slice g1 m1 c1]:=by rw[hV2];exact(ae.new w _ _).alloc _
 have hq2:ae V2 (w.heap.size+1) 0 28 [.string (aa nm2),.int .i64 (kd2:Nat),.int .i64 (at2:Nat),.int .i64 (sz2:Nat),.int .i64 w2,.string (aa tx2),.slice g2 m2 c2]:=by rw[hV2];exact ae.iI _ _ (by simp) _ _
 have p0:=hq1.cell0 0 (by simp);have p1:=hq1.cell0 1 (by simp);have p4:=hq1.cell0 4 (by simp);have p5:=hq1.cell0 5 (by simp);have p6:=hq1.cell0 6 (by simp);have z0:=hq2.cell0 0 (by simp);have z1:=hq2.cell0 1 (by simp);have z4:=hq2.cell0 4 (by simp);have z5:=hq2.cell0 5 (by simp);have z6:=hq2.cell0 6 (by simp);simp only[Z0,Z1]at p0 p1 p4 p5 p6 z0 z1 z4 z5 z6;rw[hV2]at p0 p1 p4 p5 p6 z0 z1 z4 z5 z6;have HV2:=hid hV2;have HB2:=hid hb2;clear o1 e1 o2 e2 ih ht htk htk2 hm1 hm2 hsb hsd e9 e8 hV2 hb2 hq1 hq2
 by_cases hn:nm1=nm2
 ·have x1:(nm1==nm2)=true:=beq_iff_eq.2 hn;have x2:decide (nm1=nm2)=true:=Z9 hn
  by_cases hk:kd1=kd2
  ·have x3:((kd1:Int)==(kd2:Int))=true:=by rw[beq_iff_eq];omega
   have x4:decide (kd1=kd2)=true:=Z9 hk;have x4b:(kd1==kd2)=true:=beq_iff_eq.2 hk
   by_cases hw:w1=w2
   ·have x5:(w1==w2)=true:=beq_iff_eq.2 hw;have x6:decide (w1=w2)=true:=Z9 hw
    by_cases hx:tx1=tx2
    ·have x7:(tx1==tx2)=true:=beq_iff_eq.2 hx;have x8:decide (tx1=tx2)=true:=Z9 hx;clear hn hk hw hx;go_enter Tryz.func69,Tryz.ntmps69;go_wp2_with fail;rw[show((w.alloc _).alloc _)=V2 from HV2.out.symm];refine(HL.out V2 HB2.out).mono ?_;rintro x w5 ⟨rfl,hb5⟩;have HB5:=hid (HB2.out.trans (hb5.mono HB2.out.size));clear hb5;go_wp2_with fail;go_ret;exact⟨by rw[x2,x4,x6,x8];rfl,HB5.out⟩
    ·have x7:(tx1==tx2)=false:=Z8.2 hx;have x8:decide (tx1=tx2)=false:=Y9 hx;clear hn hk hw hx;go_enter Tryz.func69,Tryz.ntmps69;go_wp2_with fail;go_ret;exact⟨by simp[x7,x8],by first|exact HB2.out|(rw[← HV2.out];exact HB2.out)⟩
   ·have x5:(w1==w2)=false:=Z8.2 hw;have x6:decide (w1=w2)=false:=Y9 hw;clear hn hk hw;go_enter Tryz.func69,Tryz.ntmps69;go_wp2_with fail;go_ret;exact⟨by simp[x5,x6],by first|exact HB2.out|(rw[← HV2.out];exact HB2.out)⟩
  ·have x3:((kd1:Int)==(kd2:Int))=false:=by rw[Z8];omega
   have x4:decide (kd1=kd2)=false:=Y9 hk;have x4b:(kd1==kd2)=false:=Z8.2 hk;clear hn hk;go_enter Tryz.func69,Tryz.ntmps69;go_wp2_with fail;go_ret;exact⟨by simp[x3,x4,x4b],by first|exact HB2.out|(rw[← HV2.out];exact HB2.out)⟩
 ·have x1:(nm1==nm2)=false:=Z8.2 hn;have x2:decide (nm1=nm2)=false:=Y9 hn;clear hn;go_enter Tryz.func69,Tryz.ntmps69;go_wp2_with fail;go_ret;exact⟨by simp[x1,x2],by first|exact HB2.out|(rw[← HV2.out];exact HB2.out)⟩
theorem yi:∀(n:Nat) (d e:Nd),d.tot < n→d.tot≤800000→yh d e
 |0,d,e,h,_=>absurd h (Nat.not_lt_zero _)
 |n+1,d,e,h,ht=>DU d e ht fun d' e' h' ht'=>yi n d' e' (by omega) ht'
theorem Gq(d e:Nd)(ht:d.tot≤800000):yh d e:=yi _ d e (Nat.lt_succ_self _) ht
structure TyF(w:World)(B:Nat)(tys:List Tm.Ty)(a:Option Addr)(cap:Nat)(vs:List Value):Prop where
 own:ak w B 97 3 a tys.length cap vs
 enc:Tm.cI w B tys vs
 le:B≤w.heap.size
 eE:∀t∈tys,Tm.bg t∧Tm.Its.sz t.items≤100000
 few:tys.length≤100
 chain:gB tys.reverse
 ok:∀t∈tys,Fx.jQ t.items.row∧Fx.kZ t.items
theorem TyF.up{w w':World}{B:Nat}{tys:List Tm.Ty}{a:Option Addr}{cap:Nat}{vs:List Value}(h:TyF w B tys a cap vs)(hb:Below w.heap.size w w'):TyF w' B tys a cap vs:=
 ⟨h.own.below hb (Z5 _),h.enc.grown (ar hb (some B)),Nat.le_trans h.le hb.size,h.eE,h.few,h.chain,h.ok⟩
theorem TyF.nodup{w:World}{B:Nat}{tys:List Tm.Ty}{a:Option Addr}{cap:Nat}{vs:List Value}(h:TyF w B tys a cap vs):(names tys).Nodup:=by
 have:=gV h.chain;rw[List.map_reverse]at this;exact(List.pairwise_reverse.1 this).imp (fun h=>Ne.symm h)
theorem TyF.fxe{w:World}{B:Nat}{tys:List Tm.Ty}{a:Option Addr}{cap:Nat}{vs:List Value}(h:TyF w B tys a cap vs):FxE w B tys a cap:=⟨⟨B,vs,h.own,h.enc⟩,h.few,h.nodup⟩
theorem TyF.of{w:World}{B:Nat}{s:List UInt8}{tys:List Tm.Ty}{a:Option Addr}{cap:Nat}{vs:List Value}(h:qD w B s tys a cap vs)(hs:s.length≤3000)(hc:Tm.chk [] tys=none):TyF w B tys a cap vs:=by
 obtain⟨f1,f2,_,f4⟩:=h.eE hs;exact⟨h.own,h.enc,h.le,fun t ht=>⟨(f2 t ht).1,(f2 t ht).2.2⟩,by omega,Dt hc,Fx.FZ tys [] hc⟩
theorem TyF.rk{w:World}{B:Nat}{tys:List Tm.Ty}{a:Option Addr}{cap:Nat}{vs:List Value}(h:TyF w B tys a cap vs):∀t∈tys.reverse,Tm.bg t:=fun t ht=>(h.eE t (List.mem_reverse.1 ht)).1
def Gr(w:World)(d:Nd)(o:Option Nds)(e:Ending)(w':World):Prop:=Below w.heap.size w w'∧match o with
 |some p=>∃(g:Option Addr) (c:Nat) (b:List Nat) (vs:List Value),e= .returned (.tuple #[.agg #[.string (aa d.name),.int .i64 (d.kind:Nat),.int .i64 (d.at_:Nat),.int .i64 (d.size:Nat),.int .i64 d.val,.string (aa d.text),.slice g p.len c],.nilIface])∧aM w' w.heap.size p g c b vs
 |none=>e= .returned (.tuple #[.agg #[.string {data:= #[]},.int .i64 0,.int .i64 0,.int .i64 0,.int .i64 0,.string {data:= #[]},.slice none 0 0],.iface 48 (.int .i64 2)])
theorem gG{B b:Nat}{w0 w:World}(h:Below B w0 w)(hb:B≤b)(v0 v1 v2 v3 v4 v5 v6:Value):Below B w0 (st7 w b v0 v1 v2 v3 v4 v5 v6):=
 ((((((h.setCell (p:=⟨b,0,none⟩) hb v0).setCell (p:=⟨b,1,none⟩) hb v1).setCell (p:=⟨b,2,none⟩) hb v2).setCell (p:=⟨b,3,none⟩) hb v3).setCell (p:=⟨b,4,none⟩) hb v4).setCell (p:=⟨b,5,none⟩) hb v5).setCell (p:=⟨b,6,none⟩) hb v6
theorem BE(tys:List Tm.Ty)(root u:Tm.Wd)(d:Nd)(w:World)(B cap Bn:Nat)(a:Option Addr)(vs:List Value)(v:Value)(bl:List Nat)(hT:TyF w B tys a cap vs)(hr:root.length≤200000000000000)(hd:NdV w Bn bl d v)(hok:d.ok)(htot:d.tot≤800000)(hw:aX (wrS tys.reverse) (cm root) d=some u):
  Calls Tryz.prog 35 #[.slice a tys.length cap,.string (aa root),v] w (Gr w d (Fx.dn Fx.bE tys.reverse root d.kids)):=by
 obtain⟨gk,gcap,ksv,b1,hv,hbl,hkO,hkE⟩:=hd;have hv2:v= .agg #[.string (aa d.name),.int .i64 (d.kind:Nat),.int .i64 (d.at_:Nat),.int .i64 (d.size:Nat),.int .i64 d.val,.string (aa d.text),.slice gk d.kids.len gcap]:=hv;subst hv2;obtain⟨m,hm⟩:∃m,m=d.kids.len:=⟨_,rfl⟩;obtain⟨n,hn⟩:∃n,n=tys.length:=⟨_,rfl⟩;rw[← hm];obtain⟨V1,hV1⟩:∃V1,V1=(w.alloc (.cells #[.string (aa d.name),.int .i64 (d.kind:Nat),.int .i64 (d.at_:Nat),.int .i64 (d.size:Nat),.int .i64 d.val,.string (aa d.text),.slice gk m gcap] 28)).alloc (.cells #[.string {data:= #[]},.int .i64 0,.int .i64 0,.int .i64 0,.int .i64 0,.string {data:= #[]},.slice none 0 0] 28):=⟨_,rfl⟩;have hb1:Below w.heap.size w V1:=by rw[hV1];exact((Y4 _ _).alloc (Z5 _) _).alloc (by simp) _
 have hz1:V1.heap.size=w.heap.size+2:=by rw[hV1];simp
 have hr5:ae V1 w.heap.size 0 28 [.string (aa d.name),.int .i64 (d.kind:Nat),.int .i64 (d.at_:Nat),.int .i64 (d.size:Nat),.int .i64 d.val,.string (aa d.text),.slice gk m gcap]:=by rw[hV1];exact(ae.new w _ _).alloc _
 have hr6:ae V1 (w.heap.size+1) 0 28 [.string {data:= #[]},.int .i64 0,.int .i64 0,.int .i64 0,.int .i64 0,.string {data:= #[]},.slice none 0 0]:=by rw[hV1];exact ae.iI _ _ (by simp) _ _
 have hnd:∀X,Below w.heap.size w X→NdV X Bn bl d (.agg #[.string (aa d.name),.int .i64 (d.kind:Nat),.int .i64 (d.at_:Nat),.int .i64 (d.size:Nat),.int .i64 d.val,.string (aa d.text),.slice gk m gcap]):=fun X hX=>⟨gk,gcap,ksv,b1,by rw[hm];rfl,hbl,hkO.below hX (Z5 _),hkE.an _ _ _ fun b hb=>hX.block b (hkE.mem _ _ _ b hb).2⟩
 have hF:∀t∈tys,Tm.bg t∧Tm.Its.sz t.items≤100000:=hT.eE;have HWR:Hid (∀X,Below w.heap.size w X→Calls Tryz.prog 10 #[.slice a n cap,.string (aa root),.agg #[.string (aa d.name),.int .i64 (d.kind:Nat),.int .i64 (d.at_:Nat),.int .i64 (d.size:Nat),.int .i64 d.val,.string (aa d.text),.slice gk m gcap]] X fun e w'=>Below X.heap.size X w'∧e= .returned (.tuple #[.string (aa u),.nilIface])):=hid (fun X hX=>by
  have h9:=hT.up hX;rw[hn];exact lG tys root u d X B cap B Bn a vs _ bl h9.own h9.enc hF hT.few hT.chain hr (hnd X hX) hok (by omega) hw)
 have HCP:Hid (∀X,Below w.heap.size w X→Calls Tryz.prog 43 #[.agg #[.string (aa d.name),.int .i64 (d.kind:Nat),.int .i64 (d.at_:Nat),.int .i64 (d.size:Nat),.int .i64 d.val,.string (aa d.text),.slice gk m gcap]] X (uX X d)):=hid (fun X hX=>qT d htot X Bn bl _ (hnd X hX));have hroot:root∈names tys.reverse:=nW hw;obtain⟨t,htm,htn,W',hWW,hBC⟩:=yf w B cap tys a hT.fxe hF hT.ok tys.reverse (fun t ht=>List.mem_reverse.1 ht) hT.chain root hroot;have hwk:(aF W' t.items d.kids).isSome=true:=by
  rw[← hWW];exact(Fx.cC (L:=tys.reverse) (root:=root) (d:=d) (by unfold Fx.wrT;rw[hw];rfl)).1
 have htotk:d.kids.tot≤800000:=by unfold Nd.tot at htot;omega
 obtain⟨mb,hmb⟩:∃mb,mb=t.items.len:=⟨_,rfl⟩;have HIT:Hid (∀X,Below w.heap.size w X→Calls Tryz.prog 71 #[.agg #[.slice a n cap],.string (aa root)] X fun e w'=>Below X.heap.size X w'∧∃ga capb bs,e= .returned (.slice ga mb capb)∧ak w (B+1) 70 13 ga mb capb bs∧Tm.bu w B t.items bs):=hid (fun X hX=>by
  rw[hn,hmb,← htn];exact kG hT.fxe htm X hX)
 obtain⟨fo,hfo⟩:∃fo,fo=Fx.dn Fx.bE tys.reverse root d.kids:=⟨_,rfl⟩;have HBK:Hid (∀X ga capb bs g c b5 v5,Below w.heap.size w X→ak w (B+1) 70 13 ga mb capb bs→Tm.bu w B t.items bs→aM X w.heap.size d.kids g c b5 v5→Calls Tryz.prog 70 #[.agg #[.slice a n cap],.slice ga mb capb,.slice g m c] X (ep X w.heap.size g c b5 fo)):=hid (fun X ga capb bs g c b5 v5 hX h1 h2 h3=>by
  rw[hmb]at h1⊢;rw[hn,hm,hfo];exact hBC X w.heap.size c capb ga g bs v5 b5 d.kids hX h1 h2 h3 (Z5 _) hok.2 htotk hwk)
 have HPL:Hid (∀p,fo=some p→p.len=m):=hid (fun p hp=>by rw[hm];exact Fx.qU tys.reverse root d.kids p (by rw[← hfo];exact hp));rw[← hfo,← hn];have c0:=hr5.cell0 0 (by simp);have f0:=hr5.frozen0 0 (by simp);have c1:=hr5.cell0 1 (by simp);have f1:=hr5.frozen0 1 (by simp);have c2:=hr5.cell0 2 (by simp);have f2:=hr5.frozen0 2 (by simp);have c3:=hr5.cell0 3 (by simp);have f3:=hr5.frozen0 3 (by simp);have c4:=hr5.cell0 4 (by simp);have f4:=hr5.frozen0 4 (by simp);have c5:=hr5.cell0 5 (by simp);have f5:=hr5.frozen0 5 (by simp);have c6:=hr5.cell0 6 (by simp);have f6:=hr5.frozen0 6 (by simp);simp only[Z0,Z1]at c0 c1 c2 c3 c4 c5 c6;rw[hV1]at c0 c1 c2 c3 c4 c5 c6;have HV1:=hid hV1;have HB1:=hid hb1;have HR5:=hid hr5;have HR6:=hid hr6;have HZ1:=hid hz1;have HM:=hid hm;clear hT hr hok htot hw hv hbl hkO hkE hnd hF hroot htm htn hWW hBC hwk htotk hmb hfo hV1 hb1 hr5 hr6 hz1 hm hn f0 f1 f2 f3 f4 f5 f6;go_enter Tryz.func35,Tryz.ntmps35;go_wp2_with fail;rw[← HV1.out];refine(HWR.out V1 HB1.out).mono ?_;rintro e w2 ⟨hb2,rfl⟩;have HB2:=hid (HB1.out.trans (hb2.mono HB1.out.size));have hr2:=HR5.out.below hb2 HR5.out.lt;have hr2z:=HR6.out.below hb2 HR6.out.lt;have HZ2:=hid (show w.heap.size+2≤w2.heap.size by have:=hb2.size;have:=HZ1.out;omega);clear c0 c1 c2 c3 c4 c5 c6 hb2;have c0:=hr2.cell0 0 (by simp);have f0:=hr2.frozen0 0 (by simp);have c1:=hr2.cell0 1 (by simp);have f1:=hr2.frozen0 1 (by simp);have c2:=hr2.cell0 2 (by simp);have f2:=hr2.frozen0 2 (by simp);have c3:=hr2.cell0 3 (by simp);have f3:=hr2.frozen0 3 (by simp);have c4:=hr2.cell0 4 (by simp);have f4:=hr2.frozen0 4 (by simp);have c5:=hr2.cell0 5 (by simp);have f5:=hr2.frozen0 5 (by simp);have c6:=hr2.cell0 6 (by simp);have f6:=hr2.frozen0 6 (by simp);simp only[Z0,Z1]at c0 c1 c2 c3 c4 c5 c6;have HR2:=hid hr2;have HR2Z:=hid hr2z;clear hr2 hr2z f0 f1 f2 f3 f4 f5 f6;go_wp2_with fail;refine(HCP.out w2 HB2.out).mono ?_;rintro e w3 ⟨hb3,b3,v3,rfl,hv3,hn3⟩;obtain⟨g3,cq,bs3,b4,rfl,rfl,o3,e3⟩:=hv3;have hk3:aM w3 w2.heap.size d.kids g3 cq b4 bs3:=⟨o3,e3,hn3⟩;rw[← HM.out];have e9:Value.agg (ab d.name d.kind d.at_ d.size d.val d.text (.slice g3 m cq)).toArray= .agg #[.string (aa d.name),.int .i64 (d.kind:Nat),.int .i64 (d.at_:Nat),.int .i64 (d.size:Nat),.int .i64 d.val,.string (aa d.text),.slice g3 m cq]:=rfl;rw[e9];have hr3:=HR2.out.below hb3 HR2.out.lt;have hr3z:=HR2Z.out.below hb3 HR2Z.out.lt;have HB3:=hid (HB2.out.trans (hb3.mono HB2.out.size));have HZ3:=hid hb3.size;clear c0 c1 c2 c3 c4 c5 c6 o3 e3 hn3 e9 hb3;have y0:=hr3.cell0 0 (by simp);have z0:=hr3.frozen0 0 (by simp);have y1:=hr3.cell0 1 (by simp);have z1:=hr3.frozen0 1 (by simp);have y2:=hr3.cell0 2 (by simp);have z2:=hr3.frozen0 2 (by simp);have y3:=hr3.cell0 3 (by simp);have z3:=hr3.frozen0 3 (by simp);have y4:=hr3.cell0 4 (by simp);have z4:=hr3.frozen0 4 (by simp);have y5:=hr3.cell0 5 (by simp);have z5:=hr3.frozen0 5 (by simp);have y6:=hr3.cell0 6 (by simp);have z6:=hr3.frozen0 6 (by simp);simp only[Z0,Z1]at y0 y1 y2 y3 y4 y5 y6;have p0:=hr3.ax 0 (by simp) (.string (aa d.name));have r0:=p0.cell0 0 (by simp);have p1:=p0.ax 1 (by simp) (.int .i64 (d.kind:Nat));have r1:=p1.cell0 1 (by simp);have p2:=p1.ax 2 (by simp) (.int .i64 (d.at_:Nat));have r2:=p2.cell0 2 (by simp);have p3:=p2.ax 3 (by simp) (.int .i64 (d.size:Nat));have r3:=p3.cell0 3 (by simp);have p4:=p3.ax 4 (by simp) (.int .i64 d.val);have r4:=p4.cell0 4 (by simp);have p5:=p4.ax 5 (by simp) (.string (aa d.text));have r5:=p5.cell0 5 (by simp);have p6:=p5.ax 6 (by simp) (.slice g3 m cq);have r6:=p6.cell0 6 (by simp);simp only[Z2,Z3,Z0,Z1]at r0 r1 r2 r3 r4 r5 r6;clear p0 p1 p2 p3 p4 p5 p6;obtain⟨P,hP⟩:∃P,P=st7 w3 w.heap.size (.string (aa d.name)) (.int .i64 (d.kind:Nat)) (.int .i64 (d.at_:Nat)) (.int .i64 (d.size:Nat)) (.int .i64 d.val) (.string (aa d.text)) (.slice g3 m cq):=⟨_,rfl⟩;have hbP:Below w.heap.size w P:=by rw[hP];exact gG HB3.out (Z5 _) _ _ _ _ _ _ _
 have hPs:P.heap.size=w3.heap.size:=by rw[hP];exact qk _ _ _ _ _ _ _
 have hP5:ae P w.heap.size 0 28 [.string (aa d.name),.int .i64 (d.kind:Nat),.int .i64 (d.at_:Nat),.int .i64 (d.size:Nat),.int .i64 d.val,.string (aa d.text),.slice g3 m cq]:=by rw[hP];exact pj hr3 rfl _ _ _ _ _ _ _
 have hP6:ae P (w.heap.size+1) 0 28 [.string {data:= #[]},.int .i64 0,.int .i64 0,.int .i64 0,.int .i64 0,.string {data:= #[]},.slice none 0 0]:=hr3z.of_heap (by rw[hP];exact dz _ _ _ _ _ _ _ _ (by omega));have hPk:aM P w2.heap.size d.kids g3 cq b4 bs3:=hk3.an fun b hb _=>by rw[hP];exact dz _ _ _ _ _ _ _ _ (by have:=HZ2.out;omega)
 have HP:=hid hP;have HBP:=hid hbP;have HPS:=hid hPs;have HP5:=hid hP5;have HP6:=hid hP6;have HPK:=hid hPk;clear hr3 hr3z hk3 hP hbP hPs hP5 hP6 hPk;go_wp2_with fail;rw[show(((((((w3.setCell ⟨w.heap.size,0,none⟩ (.string (aa d.name))).setCell ⟨w.heap.size,1,none⟩ (.int .i64 (d.kind:Nat))).setCell ⟨w.heap.size,2,none⟩ (.int .i64 (d.at_:Nat))).setCell ⟨w.heap.size,3,none⟩ (.int .i64 (d.size:Nat))).setCell ⟨w.heap.size,4,none⟩ (.int .i64 d.val)).setCell ⟨w.heap.size,5,none⟩ (.string (aa d.text))).setCell ⟨w.heap.size,6,none⟩ (.slice g3 m cq))=P from HP.out.symm];obtain⟨Q,hQ⟩:∃Q,Q=P.alloc (.cells #[.slice a n cap] 75):=⟨_,rfl⟩;rw[← hQ];have hbQ:Below P.heap.size P Q:=by rw[hQ];exact(Y4 _ _).alloc (Z5 _) _
 have hbQw:Below w.heap.size w Q:=HBP.out.trans (hbQ.mono HBP.out.size);have hq0:ae Q w3.heap.size 0 75 [.slice a n cap]:=by rw[hQ];exact ae.iI _ _ HPS.out.symm _ _
 have hq5:=HP5.out.below hbQ HP5.out.lt;have hq6:=HP6.out.below hbQ HP6.out.lt;have hqk:=HPK.out.an (w':=Q) fun b _ hl=>hbQ.block b hl
 have hmem:=hqk.mem;have hSS:∀X,Mut Q X (aB g3++b4)→ae X w3.heap.size 0 75 [.slice a n cap]∧ae X w.heap.size 0 28 [.string (aa d.name),.int .i64 (d.kind:Nat),.int .i64 (d.at_:Nat),.int .i64 (d.size:Nat),.int .i64 d.val,.string (aa d.text),.slice g3 m cq]∧ae X (w.heap.size+1) 0 28 [.string {data:= #[]},.int .i64 0,.int .i64 0,.int .i64 0,.int .i64 0,.string {data:= #[]},.slice none 0 0]:=fun X hX=>
  ⟨hq0.of_heap (hX.block _ hq0.lt (fun hm=>by have h1:=HPK.out.mem _ hm;have:=HPS.out;omega)),hq5.of_heap (hX.block _ hq5.lt (fun hm=>by have:=hmem _ hm;have:=HZ2.out;omega)),hq6.of_heap (hX.block _ hq6.lt (fun hm=>by have:=hmem _ hm;have:=HZ2.out;omega))⟩
 have hS:∀X,Mut Q X (aB g3++b4)→X.cell? ⟨w3.heap.size,0,none⟩=some (.slice a n cap)∧X.cell? ⟨w.heap.size,6,none⟩=some (.slice g3 m cq):=by
  intro X hX;obtain⟨s1,s2,_⟩:=hSS X hX;have k0:=s1.cell0 0 (by simp);have k6:=s2.cell0 6 (by simp);simp only[Z0,Z1]at k0 k6;exact⟨k0,k6⟩
 have hS1:=hS Q.drew (Mut.aA (Y4 _ _).drew);have HSS:=hid hSS;have HS:=hid hS;have HBQ:=hid hbQw;have HQK:=hid hqk;have HQM:=hid hmem;have HLE:=hid (show w.heap.size≤w2.heap.size by have:=HZ2.out;omega);clear hQ hbQ hbQw hq0 hq5 hq6 hqk hmem hSS hS;clear y0 y1 y2 y3 y4 y5 y6 z0 z1 z2 z3 z4 z5 z6 r0 r1 r2 r3 r4 r5 r6;go_wp2_with fail;go_region_held3 (fun X=>X.cell? ⟨w3.heap.size,0,none⟩=some (.slice a n cap)∧X.cell? ⟨w.heap.size,6,none⟩=some (.slice g3 m cq))
  (first
   |exact hS1
   |assumption)
  (first
   |(go_at_call 71;(with_reducible refine(HIT.out _ ?_).mono ?_);(next=>exact HBQ.out.drew);(rintro e wi ⟨hbi,ga,capb,bs,rfl,hoi,hei⟩);(have HBI:=hid (Below.trans (Y4 Q.heap.size Q).drew hbi));(have HOE:=hid (And.intro hoi hei));(have hSi:=HS.out wi (Mut.aA HBI.out)))
   |(go_at_call 70;(with_reducible refine(HBK.out _ ga capb bs g3 cq b4 bs3 (HBQ.out.trans (HBI.out.mono HBQ.out.size)) HOE.out.1 HOE.out.2 ((HQK.out.an fun b _ hl=>HBI.out.block b hl).low HLE.out)).mono ?_);(rintro e w5 ⟨hm5,v,rfl,hv5⟩);(have HM5:=hid (Mut.trans (Mut.aA HBI.out) hm5));(have HV5:=hid hv5);(have hS5:=HS.out w5 HM5.out)))
 all_goals
  have hv5:=HV5.out;unfold IH at hv5;obtain⟨_,hr5,hr6⟩:=HSS.out w5 HM5.out;have HBE:=hid (HM5.out.below HBQ.out HBQ.out.size (fun b hb=>by have h1:=(HQM.out b hb).1;have h2:=HLE.out;omega));cases fo with
  |none=>
   simp only[]at hv5;subst hv5;have y0:=hr6.cell0 0 (by simp);have z0:=hr6.frozen0 0 (by simp);have y1:=hr6.cell0 1 (by simp);have z1:=hr6.frozen0 1 (by simp);have y2:=hr6.cell0 2 (by simp);have z2:=hr6.frozen0 2 (by simp);have y3:=hr6.cell0 3 (by simp);have z3:=hr6.frozen0 3 (by simp);have y4:=hr6.cell0 4 (by simp);have z4:=hr6.frozen0 4 (by simp);have y5:=hr6.cell0 5 (by simp);have z5:=hr6.frozen0 5 (by simp);have y6:=hr6.cell0 6 (by simp);have z6:=hr6.frozen0 6 (by simp);simp only[Z0,Z1]at y0 y1 y2 y3 y4 y5 y6;have p0:=hr6.ax 0 (by simp) (.string {data:= #[]});have r0:=p0.cell0 0 (by simp);have p1:=p0.ax 1 (by simp) (.int .i64 0);have r1:=p1.cell0 1 (by simp);have p2:=p1.ax 2 (by simp) (.int .i64 0);have r2:=p2.cell0 2 (by simp);have p3:=p2.ax 3 (by simp) (.int .i64 0);have r3:=p3.cell0 3 (by simp);have p4:=p3.ax 4 (by simp) (.int .i64 0);have r4:=p4.cell0 4 (by simp);have p5:=p4.ax 5 (by simp) (.string {data:= #[]});have r5:=p5.cell0 5 (by simp);have p6:=p5.ax 6 (by simp) (.slice none 0 0);have r6:=p6.cell0 6 (by simp);simp only[Z2,Z3,Z0,Z1]at r0 r1 r2 r3 r4 r5 r6;clear p0 p1 p2 p3 p4 p5 p6;clear hr5 hr6;go_wp2_with fail;refine bodyPost_ret (v:= .tuple #[.agg #[.string {data:= #[]},.int .i64 0,.int .i64 0,.int .i64 0,.int .i64 0,.string {data:= #[]},.slice none 0 0],.iface 48 (.int .i64 2)]) (by simp[results,Tryz.results35,go_sem,r0,r1,r2,r3,r4,r5,r6];first|done|rfl) rfl ?_;exact⟨gG HBE.out (by omega) _ _ _ _ _ _ _,rfl⟩
  |some p=>
   simp only[]at hv5;obtain⟨rfl,vs5,hk5⟩:=hv5;have HK5:=hid hk5;have y0:=hr6.cell0 0 (by simp);have z0:=hr6.frozen0 0 (by simp);have y1:=hr6.cell0 1 (by simp);have z1:=hr6.frozen0 1 (by simp);have y2:=hr6.cell0 2 (by simp);have z2:=hr6.frozen0 2 (by simp);have y3:=hr6.cell0 3 (by simp);have z3:=hr6.frozen0 3 (by simp);have y4:=hr6.cell0 4 (by simp);have z4:=hr6.frozen0 4 (by simp);have y5:=hr6.cell0 5 (by simp);have z5:=hr6.frozen0 5 (by simp);have y6:=hr6.cell0 6 (by simp);have z6:=hr6.frozen0 6 (by simp);simp only[Z0,Z1]at y0 y1 y2 y3 y4 y5 y6;have c0:=hr5.cell0 0 (by simp);have f0:=hr5.frozen0 0 (by simp);have c1:=hr5.cell0 1 (by simp);have f1:=hr5.frozen0 1 (by simp);have c2:=hr5.cell0 2 (by simp);have f2:=hr5.frozen0 2 (by simp);have c3:=hr5.cell0 3 (by simp);have f3:=hr5.frozen0 3 (by simp);have c4:=hr5.cell0 4 (by simp);have f4:=hr5.frozen0 4 (by simp);have c5:=hr5.cell0 5 (by simp);have f5:=hr5.frozen0 5 (by simp);have c6:=hr5.cell0 6 (by simp);have f6:=hr5.frozen0 6 (by simp);simp only[Z0,Z1]at c0 c1 c2 c3 c4 c5 c6;have p0:=hr6.ax 0 (by simp) (.string (aa d.name));have r0:=p0.cell0 0 (by simp);have p1:=p0.ax 1 (by simp) (.int .i64 (d.kind:Nat));have r1:=p1.cell0 1 (by simp);have p2:=p1.ax 2 (by simp) (.int .i64 (d.at_:Nat));have r2:=p2.cell0 2 (by simp);have p3:=p2.ax 3 (by simp) (.int .i64 (d.size:Nat));have r3:=p3.cell0 3 (by simp);have p4:=p3.ax 4 (by simp) (.int .i64 d.val);have r4:=p4.cell0 4 (by simp);have p5:=p4.ax 5 (by simp) (.string (aa d.text));have r5:=p5.cell0 5 (by simp);have p6:=p5.ax 6 (by simp) (.slice g3 m cq);have r6:=p6.cell0 6 (by simp);simp only[Z2,Z3,Z0,Z1]at r0 r1 r2 r3 r4 r5 r6;clear p0 p1 p2 p3 p4 p5 p6;have hfar:∀b,b∈aB g3++b4→(st7 w5 (w.heap.size+1) (.string (aa d.name)) (.int .i64 (d.kind:Nat)) (.int .i64 (d.at_:Nat)) (.int .i64 (d.size:Nat)) (.int .i64 d.val) (.string (aa d.text)) (.slice g3 m cq)).heap[b]? =w5.heap[b]? :=fun b hb=>dz (w:=w5) (b:=w.heap.size+1) (.string (aa d.name)) (.int .i64 (d.kind:Nat)) (.int .i64 (d.at_:Nat)) (.int .i64 (d.size:Nat)) (.int .i64 d.val) (.string (aa d.text)) (.slice g3 m cq) b (by have h1:=(HQM.out b hb).1;have h2:=HZ2.out;omega)
   have HKF:Hid (aM (st7 w5 (w.heap.size+1) (.string (aa d.name)) (.int .i64 (d.kind:Nat)) (.int .i64 (d.at_:Nat)) (.int .i64 (d.size:Nat)) (.int .i64 d.val) (.string (aa d.text)) (.slice g3 m cq)) w.heap.size p g3 cq b4 vs5):=hid ⟨hk5.own.an fun x hx=>hfar _ (List.mem_append_left _ (by rw[hx];simp[aB])),hk5.enc.an _ _ _ fun b hb=>hfar b (List.mem_append_right _ hb),hk5.nodup⟩;clear hfar;have HPE:=hid (HPL.out p rfl);clear hr5 hr6 hk5;go_wp2_with fail;refine bodyPost_ret (v:= .tuple #[.agg #[.string (aa d.name),.int .i64 (d.kind:Nat),.int .i64 (d.at_:Nat),.int .i64 (d.size:Nat),.int .i64 d.val,.string (aa d.text),.slice g3 m cq],.nilIface]) (by simp[results,Tryz.results35,go_sem,r0,r1,r2,r3,r4,r5,r6];first|done|rfl) rfl ?_;refine⟨gG HBE.out (by omega) _ _ _ _ _ _ _,g3,cq,b4,vs5,?_,HKF.out⟩;rw[HPE.out]
namespace Fx
open Ly Tm
theorem Ai{C:Wd→Nat}{L:List Ty}{root:Wd}{d:Nd}(h:dn C L root d.kids=none):bH C L root d= .bad 0:=by
 unfold bH;rw[h]
theorem Aj{C:Wd→Nat}{L:List Ty}{root u:Wd}{d:Nd}{p:Nds}(h:dn C L root d.kids=some p)(h2:wrT L root {d with kids:=p}=some u)(h3:4000 < u.length):bH C L root d= .bad 1:=by
 unfold bH;rw[h];simp only[];unfold xI;rw[h2];simp only[];rw[if_pos h3]
theorem Ak{C:Wd→Nat}{L:List Ty}{root u:Wd}{d:Nd}{p:Nds}(h:dn C L root d.kids=some p)(h2:wrT L root {d with kids:=p}=some u)(h3:¬4000 < u.length)(h4:rdT L root u=none):bH C L root d= .bad 2:=by
 unfold bH;rw[h];simp only[];unfold xI;rw[h2];simp only[];rw[if_neg h3,h4]
theorem rm{C:Wd→Nat}{L:List Ty}{root u:Wd}{d m:Nd}{p:Nds}(h:dn C L root d.kids=some p)(h2:wrT L root {d with kids:=p}=some u)(h3:¬4000 < u.length)(h4:rdT L root u=some m):bH C L root d=if ec {d with kids:=p} m=true then .ok u else .bad 2:=by
 unfold bH;rw[h];simp only[];unfold xI;rw[h2];simp only[];rw[if_neg h3,h4];simp only[]
 by_cases hs:ec {d with kids:=p} m=true
 ·rw[if_pos hs,if_pos ((tE _ _).1 hs).symm]
 ·rw[if_neg hs,if_neg (fun e=>hs ((tE _ _).2 e.symm))]
end Fx
def DV:Nat→Int
 |0=>2
 |1=>12
 |_=>13
def mY(w:World)(r:Fx.Dn)(e:Ending)(w':World):Prop:=Below w.heap.size w w'∧match r with
 | .ok u=>e= .returned (.tuple #[.string (aa u),.nilIface])
 | .bad k=>e= .returned (.tuple #[.string {data:= #[]},.iface 48 (.int .i64 (DV k))])
theorem kI(tys:List Tm.Ty)(root u0:Tm.Wd)(d:Nd)(w:World)(B cap Bn:Nat)(a:Option Addr)(vs:List Value)(v:Value)(bl:List Nat)(hT:TyF w B tys a cap vs)(hr:root.length≤200000000000000)(hd:NdV w Bn bl d v)(hok:d.ok)(htot:d.tot≤800000)(hw:aX (wrS tys.reverse) (cm root) d=some u0):
  Calls Tryz.prog 34 #[.agg #[.slice a tys.length cap],.string (aa root),v] w (mY w (Fx.bH Fx.bE tys.reverse root d)):=by
 obtain⟨gk,gcap,ksv,b1,hv,hbl,hkO,hkE⟩:=hd;have hv2:v= .agg #[.string (aa d.name),.int .i64 (d.kind:Nat),.int .i64 (d.at_:Nat),.int .i64 (d.size:Nat),.int .i64 d.val,.string (aa d.text),.slice gk d.kids.len gcap]:=hv;subst hv2;obtain⟨m0,hm0⟩:∃m0,m0=d.kids.len:=⟨_,rfl⟩;obtain⟨n,hn⟩:∃n,n=tys.length:=⟨_,rfl⟩;rw[← hm0];obtain⟨V1,hV1⟩:∃V1,V1=(w.alloc (.cells #[.slice a n cap] 75)).alloc (.cells #[.string (aa d.name),.int .i64 (d.kind:Nat),.int .i64 (d.at_:Nat),.int .i64 (d.size:Nat),.int .i64 d.val,.string (aa d.text),.slice gk m0 gcap] 28):=⟨_,rfl⟩;have hb1:Below w.heap.size w V1:=by rw[hV1];exact((Y4 _ _).alloc (Z5 _) _).alloc (by simp) _
 have hz1:V1.heap.size=w.heap.size+2:=by rw[hV1];simp
 have hr3:ae V1 w.heap.size 0 75 [.slice a n cap]:=by rw[hV1];exact(ae.new w _ _).alloc _
 have hr5:ae V1 (w.heap.size+1) 0 28 [.string (aa d.name),.int .i64 (d.kind:Nat),.int .i64 (d.at_:Nat),.int .i64 (d.size:Nat),.int .i64 d.val,.string (aa d.text),.slice gk m0 gcap]:=by rw[hV1];exact ae.iI _ _ (by simp) _ _
 have hF:∀t∈tys,Tm.bg t∧Tm.Its.sz t.items≤100000:=hT.eE;have hnd1:NdV V1 Bn bl d (.agg #[.string (aa d.name),.int .i64 (d.kind:Nat),.int .i64 (d.at_:Nat),.int .i64 (d.size:Nat),.int .i64 d.val,.string (aa d.text),.slice gk m0 gcap]):=⟨gk,gcap,ksv,b1,by rw[hm0];rfl,hbl,hkO.below hb1 (Z5 _),hkE.an _ _ _ fun b hb=>hb1.block b (hkE.mem _ _ _ b hb).2⟩;have hFX:=BE tys root u0 d V1 B cap Bn a vs _ bl (hT.up hb1) hr hnd1 hok htot hw;obtain⟨fo,hfo⟩:∃fo,fo=Fx.dn Fx.bE tys.reverse root d.kids:=⟨_,rfl⟩;rw[← hfo]at hFX;obtain⟨r,hrr⟩:∃r,r=Fx.bH Fx.bE tys.reverse root d:=⟨_,rfl⟩;have hwd:(Fx.wrT tys.reverse root d).isSome=true:=by unfold Fx.wrT;rw[hw];rfl
 have HP:Hid (∀p,fo=some p→∃u,aX (wrS tys.reverse) (cm root) {d with kids:=p}=some u∧Nd.ok {d with kids:=p}∧Nd.tot {d with kids:=p}=d.tot∧u.length≤d.tot):=hid (fun p hp=>by
  rw[hfo]at hp;obtain⟨k1,k2,k3⟩:=Fx.cC hwd;have h1:=Fx.fQ tys.reverse hT.rk root d.kids p hp k1;have h2:=Fx.mW Fx.jb tys.reverse hT.rk root d.kids p hp k1 hok.2 (by unfold Nd.tot at htot;omega);obtain⟨u,hu⟩:=Option.isSome_iff_exists.1 h1;have h3:aX (wrS tys.reverse) (cm root) {d with kids:=p}=some u:=by
   unfold aX;simp only[];rw[if_neg (by rw[not_or];exact⟨fun h=>h k2,fun h=>h k3⟩)];exact hu
  have h4:Nd.tot {d with kids:=p}=d.tot:=by unfold Nd.tot;simp only[];omega
  have h5:=pw (nU tys.reverse) h3;exact⟨u,h3,⟨hok.1,h2.1⟩,h4,by omega⟩)
 have HWR:Hid (∀X p u Bq bq g c,Below w.heap.size w X→fo=some p→aX (wrS tys.reverse) (cm root) {d with kids:=p}=some u→Nd.ok {d with kids:=p}→Nd.tot {d with kids:=p}=d.tot→NdV X Bq bq {d with kids:=p} (.agg #[.string (aa d.name),.int .i64 (d.kind:Nat),.int .i64 (d.at_:Nat),.int .i64 (d.size:Nat),.int .i64 d.val,.string (aa d.text),.slice g p.len c])→Calls Tryz.prog 10 #[.slice a n cap,.string (aa root),.agg #[.string (aa d.name),.int .i64 (d.kind:Nat),.int .i64 (d.at_:Nat),.int .i64 (d.size:Nat),.int .i64 d.val,.string (aa d.text),.slice g p.len c]] X fun e w'=>Below X.heap.size X w'∧e= .returned (.tuple #[.string (aa u),.nilIface])):=hid (fun X p u Bq bq g c hX hp hu ho ht hnv=>by
  have h9:=hT.up hX;rw[hn];exact lG tys root u _ X B cap B Bq a vs _ bq h9.own h9.enc hF hT.few hT.chain hr hnv ho (by omega) hu)
 have HRD:Hid (∀X (u:Tm.Wd),Below w.heap.size w X→u.length≤4000→Calls Tryz.prog 9 #[.slice a n cap,.string (aa root),.string (aa u)] X (gU X (aw tys root u))):=hid (fun X u hX hu=>by
  have h9:=hT.up hX;rw[hn];exact fU tys root u X B cap B a vs h9.own h9.enc hF hT.few hT.chain hr (by omega))
 have HR0:Hid (fo=none→r= .bad 0):=hid (fun h=>by rw[hrr];exact Fx.Ai (by rw[← hfo];exact h));have HR1:Hid (∀p u,fo=some p→aX (wrS tys.reverse) (cm root) {d with kids:=p}=some u→4000 < u.length→r= .bad 1):=hid (fun p u h1 h2 h3=>by rw[hrr];exact Fx.Aj (by rw[← hfo];exact h1) h2 h3);have HR2:Hid (∀p u,fo=some p→aX (wrS tys.reverse) (cm root) {d with kids:=p}=some u→¬4000 < u.length→aw tys root u=none→r= .bad 2):=hid (fun p u h1 h2 h3 h4=>by rw[hrr];exact Fx.Ak (by rw[← hfo];exact h1) h2 h3 h4);have HR3:Hid (∀p u m,fo=some p→aX (wrS tys.reverse) (cm root) {d with kids:=p}=some u→¬4000 < u.length→aw tys root u=some m→r=if Fx.ec {d with kids:=p} m=true then .ok u else .bad 2):=hid (fun p u m h1 h2 h3 h4=>by rw[hrr];exact Fx.rm (by rw[← hfo];exact h1) h2 h3 h4);have HTT:=hid htot;rw[← hrr];rw[← hn]at hFX⊢;have HFX:=hid hFX;have q1:=hr3.cell0 0 (by simp);simp only[Z0]at q1;have c0:=hr5.cell0 0 (by simp);have c1:=hr5.cell0 1 (by simp);have c2:=hr5.cell0 2 (by simp);have c3:=hr5.cell0 3 (by simp);have c4:=hr5.cell0 4 (by simp);have c5:=hr5.cell0 5 (by simp);have c6:=hr5.cell0 6 (by simp);simp only[Z0,Z1]at c0 c1 c2 c3 c4 c5 c6;rw[hV1]at q1 c0 c1 c2 c3 c4 c5 c6;have HV1:=hid hV1;have HB1:=hid hb1;have HR3b:=hid hr3;have HR5:=hid hr5;have HZ1:=hid hz1;clear hT hr hok htot hw hv hbl hkO hkE hnd1 hF hfo hrr hwd hV1 hb1 hr3 hr5 hz1 hm0 hn hFX;go_enter Tryz.func34,Tryz.ntmps34;go_wp2_with fail;rw[← HV1.out];refine HFX.out.mono ?_;rintro e w2 ⟨hb2,hv2⟩;have hr32:=HR3b.out.below hb2 HR3b.out.lt;have hr52:=HR5.out.below hb2 HR5.out.lt;have hbw2:Below w.heap.size w w2:=HB1.out.trans (hb2.mono HB1.out.size);have hsz2:w.heap.size+2≤w2.heap.size:=by have:=hb2.size;have:=HZ1.out;omega
 clear q1 c0 c1 c2 c3 c4 c5 c6 hb2 HFX;cases fo with
 |none=>
  simp only[]at hv2;subst hv2;have HRR:=hid (HR0.out rfl);have HBE:=hid (gG hbw2 (show w.heap.size≤w.heap.size+1 by omega) (.string {data:= #[]}) (.int .i64 0) (.int .i64 0) (.int .i64 0) (.int .i64 0) (.string {data:= #[]}) (.slice none 0 0));have y0:=hr52.cell0 0 (by simp);have z0:=hr52.frozen0 0 (by simp);have y1:=hr52.cell0 1 (by simp);have z1:=hr52.frozen0 1 (by simp);have y2:=hr52.cell0 2 (by simp);have z2:=hr52.frozen0 2 (by simp);have y3:=hr52.cell0 3 (by simp);have z3:=hr52.frozen0 3 (by simp);have y4:=hr52.cell0 4 (by simp);have z4:=hr52.frozen0 4 (by simp);have y5:=hr52.cell0 5 (by simp);have z5:=hr52.frozen0 5 (by simp);have y6:=hr52.cell0 6 (by simp);have z6:=hr52.frozen0 6 (by simp);simp only[Z0,Z1]at y0 y1 y2 y3 y4 y5 y6;clear hr32 hr52 hbw2 hsz2;go_wp2_with fail;go_ret2;rw[HRR.out];exact⟨HBE.out,rfl⟩
 |some p=>
  simp only[]at hv2;obtain⟨g2,cc2,bl2,vs2,rfl,hk2⟩:=hv2;obtain⟨u,hu,hpo,hpt,hul⟩:=HP.out p rfl;obtain⟨np,hnp⟩:∃np,np=p.len:=⟨_,rfl⟩;rw[← hnp];obtain⟨P,hP⟩:∃P,P=st7 w2 (w.heap.size+1) (.string (aa d.name)) (.int .i64 (d.kind:Nat)) (.int .i64 (d.at_:Nat)) (.int .i64 (d.size:Nat)) (.int .i64 d.val) (.string (aa d.text)) (.slice g2 np cc2):=⟨_,rfl⟩;have hbP:Below w.heap.size w P:=by rw[hP];exact gG hbw2 (by omega) _ _ _ _ _ _ _
  have hPs:P.heap.size=w2.heap.size:=by rw[hP];exact qk _ _ _ _ _ _ _
  have hP5:ae P (w.heap.size+1) 0 28 [.string (aa d.name),.int .i64 (d.kind:Nat),.int .i64 (d.at_:Nat),.int .i64 (d.size:Nat),.int .i64 d.val,.string (aa d.text),.slice g2 np cc2]:=by rw[hP];exact pj hr52 rfl _ _ _ _ _ _ _
  have hP3:ae P w.heap.size 0 75 [.slice a n cap]:=hr32.of_heap (by rw[hP];exact dz _ _ _ _ _ _ _ _ (by omega));have hfar:∀b,b≠w.heap.size+1→P.heap[b]? =w2.heap[b]? :=fun b hb=>by rw[hP];exact dz _ _ _ _ _ _ _ _ hb
  have hkP:aM P V1.heap.size p g2 cc2 bl2 vs2:=hk2.an fun b h1 h2=>hfar b (by have:=HZ1.out;omega)
  have hnvP:∀X,Below P.heap.size P X→NdV X V1.heap.size (aB g2++bl2) {d with kids:=p} (.agg #[.string (aa d.name),.int .i64 (d.kind:Nat),.int .i64 (d.at_:Nat),.int .i64 (d.size:Nat),.int .i64 d.val,.string (aa d.text),.slice g2 np cc2]):=fun X hX=>by
   have:=(hkP.an (w':=X) fun b h1 h2=>hX.block b h2).nd d.name d.kind d.at_ d.size d.val d.text;rw[hnp];exact this
  have HW2:=hid (by
   have h9:=HWR.out P p u V1.heap.size (aB g2++bl2) g2 cc2 hbP rfl hu hpo hpt;rw[← hnp]at h9;exact h9 (hnvP P (Y4 _ _)))
  have HNV:=hid hnvP;have HPD:=hid (And.intro hu hpt);have HUL:=hid hul;have HP3:=hid hP3;have HP5:=hid hP5;have HBP:=hid hbP;have HP:=hid hP;have HSZ2:=hid hsz2;have HPS:=hid hPs;have y0:=hr52.cell0 0 (by simp);have z0:=hr52.frozen0 0 (by simp);have y1:=hr52.cell0 1 (by simp);have z1:=hr52.frozen0 1 (by simp);have y2:=hr52.cell0 2 (by simp);have z2:=hr52.frozen0 2 (by simp);have y3:=hr52.cell0 3 (by simp);have z3:=hr52.frozen0 3 (by simp);have y4:=hr52.cell0 4 (by simp);have z4:=hr52.frozen0 4 (by simp);have y5:=hr52.cell0 5 (by simp);have z5:=hr52.frozen0 5 (by simp);have y6:=hr52.cell0 6 (by simp);have z6:=hr52.frozen0 6 (by simp);simp only[Z0,Z1]at y0 y1 y2 y3 y4 y5 y6;have p0:=hr52.ax 0 (by simp) (.string (aa d.name));have r0:=p0.cell0 0 (by simp);have p1:=p0.ax 1 (by simp) (.int .i64 (d.kind:Nat));have r1:=p1.cell0 1 (by simp);have p2:=p1.ax 2 (by simp) (.int .i64 (d.at_:Nat));have r2:=p2.cell0 2 (by simp);have p3:=p2.ax 3 (by simp) (.int .i64 (d.size:Nat));have r3:=p3.cell0 3 (by simp);have p4:=p3.ax 4 (by simp) (.int .i64 d.val);have r4:=p4.cell0 4 (by simp);have p5:=p4.ax 5 (by simp) (.string (aa d.text));have r5:=p5.cell0 5 (by simp);have p6:=p5.ax 6 (by simp) (.slice g2 np cc2);have r6:=p6.cell0 6 (by simp);simp only[Z2,Z3,Z0,Z1]at r0 r1 r2 r3 r4 r5 r6;clear p0 p1 p2 p3 p4 p5 p6;have j3:=hP3.cell0 0 (by simp);simp only[Z0]at j3;rw[HP.out]at j3;have j2:=hr32.cell0 0 (by simp);simp only[Z0]at j2;clear hr32 hr52 hbw2 hsz2 hk2 hkP hnvP hfar hP3 hP5 hbP hPs hu hpo hpt hul hP hnp;go_wp2_with fail;rw[show(((((((w2.setCell ⟨w.heap.size+1,0,none⟩ (.string (aa d.name))).setCell ⟨w.heap.size+1,1,none⟩ (.int .i64 (d.kind:Nat))).setCell ⟨w.heap.size+1,2,none⟩ (.int .i64 (d.at_:Nat))).setCell ⟨w.heap.size+1,3,none⟩ (.int .i64 (d.size:Nat))).setCell ⟨w.heap.size+1,4,none⟩ (.int .i64 d.val)).setCell ⟨w.heap.size+1,5,none⟩ (.string (aa d.text))).setCell ⟨w.heap.size+1,6,none⟩ (.slice g2 np cc2))=P from HP.out.symm];refine HW2.out.mono ?_;rintro e w3 ⟨hb3,rfl⟩;have HB3:=hid hb3;have HBW3:=hid (HBP.out.trans (hb3.mono HBP.out.size));have hr33:=HP3.out.below hb3 HP3.out.lt;have hr53:=HP5.out.below hb3 HP5.out.lt;have HR33:=hid hr33;have HR53:=hid hr53;have q1:=hr33.cell0 0 (by simp);simp only[Z0]at q1;clear j3 j2 hr33 hr53 hb3 HW2 y0 y1 y2 y3 y4 y5 y6 z0 z1 z2 z3 z4 z5 z6 r0 r1 r2 r3 r4 r5 r6
  by_cases hful:4000 < u.length
  ·have x1:decide ((4000:Int) < (u.length:Int))=true:=Z9 (by omega);have x2:decide (4000 < u.length)=true:=Z9 hful;have HRR:=hid (HR1.out p u rfl HPD.out.1 hful);clear hful;go_wp2_with fail;go_ret2;rw[HRR.out];exact⟨HBW3.out,rfl⟩
  ·have x1:decide ((4000:Int) < (u.length:Int))=false:=Y9 (by omega);have x2:decide (4000 < u.length)=false:=Y9 hful;have HRD3:=hid (HRD.out w3 u HBW3.out (by omega));obtain⟨o,ho⟩:∃o,o=aw tys root u:=⟨_,rfl⟩;rw[← ho]at HRD3;have HO:=hid ho;have HFUL:=hid hful;clear hful ho;go_wp2_with fail;refine HRD3.out.mono ?_;unfold gU;rintro e w4 ⟨hb4,hv4⟩;have HB4:=hid hb4;have HBW4:=hid (HBW3.out.trans (hb4.mono HBW3.out.size));have hr34:=HR33.out.below hb4 HR33.out.lt;have hr54:=HR53.out.below hb4 HR53.out.lt;have HR54:=hid hr54;clear q1 hb4;cases o with
   |none=>
    obtain⟨ty,vv,rfl⟩:=hv4;have HRR:=hid (HR2.out p u rfl HPD.out.1 HFUL.out HO.out.symm);clear hr34 hr54;go_wp2_with fail;go_ret2;rw[HRR.out];exact⟨HBW4.out.alloc HBW4.out.size _,rfl⟩
   |some m=>
    obtain⟨v4,bl4,rfl,hnd4,hnp4⟩:=hv4;obtain⟨g4,cc4,hv4e⟩:=hnd4.cells;subst hv4e;obtain⟨ml,hml⟩:∃ml,ml=m.kids.len:=⟨_,rfl⟩;rw[← hml]at hnd4⊢;obtain⟨Q,hQ⟩:∃Q,Q=w4.alloc (.cells #[.string (aa m.name),.int .i64 (m.kind:Nat),.int .i64 (m.at_:Nat),.int .i64 (m.size:Nat),.int .i64 m.val,.string (aa m.text),.slice g4 ml cc4] 28):=⟨_,rfl⟩;have hbQ:Below w4.heap.size w4 Q:=by rw[hQ];exact(Y4 _ _).alloc (Z5 _) _
    have hq0:ae Q w4.heap.size 0 28 [.string (aa m.name),.int .i64 (m.kind:Nat),.int .i64 (m.at_:Nat),.int .i64 (m.size:Nat),.int .i64 m.val,.string (aa m.text),.slice g4 ml cc4]:=by rw[hQ];exact ae.new w4 _ _
    have hq5:=hr54.below hbQ hr54.lt;have hndQ:=hnd4.an (w':=Q) fun b hb=>hbQ.block b (hnd4.mem b hb).2
    have hbPQ:Below P.heap.size P Q:=(HB3.out.trans (HB4.out.mono HB3.out.size)).trans (hbQ.mono (Nat.le_trans HB3.out.size HB4.out.size));have hsm:=Gq {d with kids:=p} m (by rw[HPD.out.2];exact HTT.out) Q V1.heap.size w3.heap.size _ bl4 _ _ (HNV.out Q hbPQ) hndQ;have hrs:=HR3.out p u m rfl HPD.out.1 HFUL.out HO.out.symm;obtain⟨sd,hsd⟩:∃sd,sd=Fx.ec {d with kids:=p} m:=⟨_,rfl⟩;rw[← hsd]at hsm hrs;have HSM:=hid hsm;have HRS:=hid hrs;have HBQ:=hid (HBW4.out.trans (hbQ.mono HBW4.out.size));have c0:=hq5.cell0 0 (by simp);have c1:=hq5.cell0 1 (by simp);have c2:=hq5.cell0 2 (by simp);have c3:=hq5.cell0 3 (by simp);have c4:=hq5.cell0 4 (by simp);have c5:=hq5.cell0 5 (by simp);have c6:=hq5.cell0 6 (by simp);simp only[Z0,Z1]at c0 c1 c2 c3 c4 c5 c6;have m0:=hq0.cell0 0 (by simp);have m1:=hq0.cell0 1 (by simp);have m2:=hq0.cell0 2 (by simp);have m3:=hq0.cell0 3 (by simp);have m4:=hq0.cell0 4 (by simp);have m5:=hq0.cell0 5 (by simp);have m6:=hq0.cell0 6 (by simp);simp only[Z0,Z1]at m0 m1 m2 m3 m4 m5 m6;have HQ:=hid hQ;rw[hQ]at c0 c1 c2 c3 c4 c5 c6 m0 m1 m2 m3 m4 m5 m6;clear hr34 hr54 hnd4 hnp4 hQ hbQ hq0 hq5 hndQ hbPQ hsm hrs hsd hml;go_wp2_with fail;rw[← HQ.out];refine HSM.out.mono ?_;rintro e w6 ⟨rfl,hb6⟩;have HBE:=hid (HBQ.out.trans (hb6.mono HBQ.out.size));clear hb6;cases sd with
    |false=>
     have HRR:=hid (show r= .bad 2 by rw[HRS.out];rfl);go_wp2_with fail;go_ret2;rw[HRR.out];exact⟨HBE.out,rfl⟩
    |true=>
     have HRR:=hid (show r= .ok u by rw[HRS.out];rfl);go_wp2_with fail;go_ret2;rw[HRR.out];exact⟨HBE.out,rfl⟩
end
end Go.Proofs.YtlomecfhobehnaaGreatDoor
