import Derived.Test.YtlomecfhobehnaaGreatDoorMgFixSets46
set_option linter.unusedVariables false
set_option linter.unusedSimpArgs false
set_option maxRecDepth 100000
set_option maxHeartbeats 4000000
namespace Go.Proofs.YtlomecfhobehnaaGreatDoor
open Lib (hid)
section
open Go Go.RowKit
open Rd
open Ly
theorem lp{tys:List Tm.Ty}{root u:Tm.Wd}{d:Nd}(hF:∀t∈tys.reverse,Tm.aZ t)(hd:(Fx.wrT tys.reverse root d).isSome=true)(h:Fx.bW Fx.bJ tys.reverse root d= .ok u):
  ∃m,aB tys root u=some m∧gQ tys root u m=true∧Fx.bW Fx.bJ tys.reverse root m= .ok u∧u.length≤4000∧Fx.shp m.kids=Fx.shp d.kids∧m.name=d.name∧m.kind=d.kind∧m.text=d.text∧m.val=d.val:=by
 have hP:=Fx.l8.1 h;obtain⟨m,q,h1,h2,h3,h4,h5⟩:=Fx.yS hF hd hP;obtain⟨p,g1,g2,g3,m',g4,g5⟩:=hP;rw[h1]at g4;injection g4 with g4
 subst g4;refine⟨m,h1,?_,Fx.l8.2 h4,g3,h5,?_,?_,?_,?_⟩
 ·unfold gQ;rw[h2];simp only[];rw[h3,beq_self_eq_true]
 ·have h9:=congrArg Nd.name g5;exact h9
 ·have h9:=congrArg Nd.kind g5;exact h9
 ·have h9:=congrArg Nd.text g5;exact h9
 ·have h9:=congrArg Nd.val g5;exact h9
theorem Cs{tys:List Tm.Ty}{root u s:Tm.Wd}{d:Nd}(h:Fx.bW Fx.bJ tys.reverse root d= .ok u):gQ tys root s d=decide (u=s):=by
 obtain⟨p,g1,g2,g3,m',g4,g5⟩:=Fx.l8.1 h;unfold gQ;rw[g1];simp only[];rw[g2]
 by_cases hus:u=s
 ·rw[hus,Z9 rfl,beq_self_eq_true]
 ·rw[Y9 hus,Z8];intro h8;injection h8 with h8
  exact hus h8
theorem zo{w:World}{g:Nat}(h:ad w g 0 3 [.int .i64 2,.int .i64 1,.int .i64 1]):iw w (some ⟨g,0,none⟩) [2,1,1]:=by
 refine .inr ⟨g,0,rfl,fun i hi=> ?_⟩;have:=h.cell i hi
 match i,hi with
 |0,_=>exact this
 |1,_=>exact this
 |2,_=>exact this
theorem sF{q:List Nat}(h:([2,1,1]:List Int)=bN q):q=[2,1,1]:=by
 unfold bN at h
 match q,h with
 |[a,b,c],h=>
  simp only[List.map_cons,List.map_nil,List.cons.injEq,and_true]at h;obtain⟨h1,h2,h3⟩:=h;rw[show a=2 by omega,show b=1 by omega,show c=1 by omega]
 |[],h=>simp at h
 |[a],h=>simp at h
 |[a,b],h=>simp at h
 |a::b::c::e::r,h=>simp at h
theorem Ct(w:World)(hB:ke w):Calls Tryz.prog 11 #[] w fun e w'=>e= .returned (.bool true)∧Below w.heap.size w w':=by
 have HBX:=hid (rX w hB);clear hB;go_enter Tryz.func11,Tryz.ntmps11;go_wp2_with fail;refine HBX.out.mono ?_;rintro e w1 ⟨hb1,tys,a,cap,vs,hsame,hm,rfl⟩;have hbl:(Tm.cS Tm.bV).length≤3000:=by rw[Tm.lW];omega
 have hchk:Tm.chk [] tys=none:=by rw[Tm.pw hsame Tm.ij];exact Tm.tu
 have hlen:tys.length=2:=by
  have:∀{l m:List Tm.Ty},Tm.bZ l m→l.length=m.length:=by
   intro l m h
   induction h with
   |nil=>rfl
   |cons _ _ ih=>simp[ih]
  exact(this hsame).symm
 have hT:=TyF.of hm hbl hchk;have hrl:dZ.length≤200000000000000:=by decide
 have hlay:=qz hsame;have hsd:=Fx.wT hsame;have hwd:(Fx.wrT tys.reverse dZ dE).isSome=true:=by
  have:=n7 hsame (fun t ht=>(hT.ew t ht).1);unfold Fx.wrT;rw[this];rfl
 obtain⟨m0,hm0,hrt0,_,_,_⟩:=lp hT.jC hwd hsd;have HDN:Hid (∀X,Below w1.heap.size w1 X→Calls Tryz.prog 12 #[.slice a 2 cap,.string (aa dZ),.string (aa bX)] X fun e w'=>Below X.heap.size X w'∧e= .returned (.tuple #[.string (aa Fx.u0),.nilIface])):=hid (fun X hX=>by
  have h1:=Eg tys dZ bX X w.heap.size cap a vs (hT.up hX) hrl (by decide);rw[hlen,hlay]at h1;unfold Ef at h1;simp only[]at h1;rw[hsd]at h1;exact h1)
 have HR1:Hid (∀X,Below w1.heap.size w1 X→Calls Tryz.prog 13 #[.slice a 2 cap,.string (aa dZ),.string (aa Fx.u0)] X fun e w'=>Below X.heap.size X w'∧e= .returned (.tuple #[.bool true,.nilIface])):=hid (fun X hX=>by
  have h1:=lk tys dZ Fx.u0 X w.heap.size cap a vs (hT.up hX) hrl (by decide);rw[hlen,hm0]at h1;unfold nG at h1;simp only[]at h1;rw[hrt0]at h1;exact h1)
 have HR2:Hid (∀X,Below w1.heap.size w1 X→Calls Tryz.prog 13 #[.slice a 2 cap,.string (aa dZ),.string (aa bX)] X fun e w'=>Below X.heap.size X w'∧e= .returned (.tuple #[.bool false,.nilIface])):=hid (fun X hX=>by
  have h1:=lk tys dZ bX X w.heap.size cap a vs (hT.up hX) hrl (by decide);rw[hlen,hlay]at h1;unfold nG at h1;simp only[]at h1;rw[Cs hsd,show decide (Fx.u0=bX)=false from by decide]at h1;exact h1)
 have HFI:Hid (∀X g,Below w1.heap.size w1 X→ad X g 0 3 [.int .i64 2,.int .i64 1,.int .i64 1]→Calls Tryz.prog 16 #[.slice a 2 cap,.string (aa dZ),.string (aa bX),.slice (some ⟨g,0,none⟩) 3 3,.string (aa [97,98,99])] X fun e w'=>Below X.heap.size X w'∧e= .returned (.tuple #[.string (aa Fx.u1),.nilIface])):=hid (fun X g hX hrow=>by
  have h1:=wP X w.heap.size cap 3 tys a (some ⟨g,0,none⟩) vs dZ bX [97,98,99] [2,1,1] (hT.up hX) hrl (by decide) (by decide) (fun Y hY=>(zo (hrow.below hY hrow.lt)).rd) (by decide) (by decide);rw[hlen,hlay]at h1;refine(show Calls Tryz.prog 16 #[.slice a 2 cap,.string (aa dZ),.string (aa bX),.slice (some ⟨g,0,none⟩) 3 3,.string (aa [97,98,99])] X _ from h1).mono ?_;rintro e w' ⟨hb,h2⟩;refine⟨hb,?_⟩;obtain⟨x0,hx0,hxk⟩:=Fx.Cr;rcases h2 with⟨hno,_⟩|⟨q,x,hq,hqn,hgx,⟨k,⟨hk2,_⟩,_⟩|⟨d',⟨_,hd',_⟩,_,he⟩⟩
  ·rcases hno [2,1,1] rfl with h3|h3
   ·cases h3
   ·rw[hx0]at h3;cases h3
  ·have:=sF hq;subst this;rw[hx0]at hgx;cases hgx;exact absurd hxk hk2
  ·have:=sF hq;subst this;have hdd:d'=Fx.filled:=hd';rw[hdd,Fx.wU hsame]at he;exact he)
 have HB1:=hid hb1;clear hb1 hsame hm hbl hchk hlen hT hrl hlay hsd hwd hm0 hrt0 HBX;have e3:aa dZ={data:= #[98,111,120]}:=rfl;rw[e3]at HDN HR1 HR2 HFI;have e4:aa [97,98,99]={data:= #[97,98,99]}:=rfl;rw[e4]at HFI;clear e3 e4;go_wp2_with fail;refine(ei _).mono ?_;rintro e w9 ⟨rfl,rfl⟩;go_wp2_with fail;refine(HDN.out w1 (Y4 _ _)).mono ?_;rintro e w2 ⟨hb2,rfl⟩;have HB2:=hid hb2;clear hb2;go_wp2_with fail;refine(HR1.out w2 HB2.out).mono ?_;rintro e w3 ⟨hb3,rfl⟩;have HB3:=hid (HB2.out.trans (hb3.mono HB2.out.size));clear hb3;go_wp2_with fail;refine(ei _).mono ?_;rintro e w9 ⟨rfl,rfl⟩;go_wp2_with fail;refine(HR2.out w3 HB3.out).mono ?_;rintro e w4 ⟨hb4,rfl⟩;have HB4:=hid (HB3.out.trans (hb4.mono HB3.out.size));clear hb4;go_wp2_with fail;refine(ei _).mono ?_;rintro e w9 ⟨rfl,rfl⟩;obtain⟨V,hV⟩:∃V,V=w4.alloc (.cells #[.int .i64 2,.int .i64 1,.int .i64 1] 3):=⟨_,rfl⟩;have hbV:Below w4.heap.size w4 V:=by rw[hV];exact(Y4 _ _).alloc (Z5 _) _
 have hrV:ad V w4.heap.size 0 3 [.int .i64 2,.int .i64 1,.int .i64 1]:=by rw[hV];exact ad.new w4 _ _
 have HV:=hid hV;have HBV:=hid (HB4.out.trans (hbV.mono HB4.out.size));have HRV:=hid hrV;clear hV hbV hrV;go_wp2_with fail;rw[← HV.out];refine(HFI.out V w4.heap.size HBV.out HRV.out).mono ?_;rintro e w5 ⟨hb5,rfl⟩;have HB5:=hid (HBV.out.trans (hb5.mono HBV.out.size));clear hb5;have x1:(Fx.u0==bX)=false:=by decide
 have x2:decide (Fx.u0=bX)=false:=by decide
 have l0:Fx.u0.length=12:=rfl;have l1:bX.length=12:=rfl;have l2:Fx.u1.length=15:=rfl;go_wp2_with fail;refine(ei _).mono ?_;rintro e w9 ⟨rfl,rfl⟩;go_wp2_with fail;refine(ei _).mono ?_;rintro e w9 ⟨rfl,rfl⟩;go_wp2_with fail;go_ret;refine⟨?_,HB1.out.trans (HB5.out.mono HB1.out.size)⟩
 first|rfl|kernel_rfl
namespace Fx
open Ly
end Fx
theorem zp(w:World)(B cap pc tb:Nat)(tys:List Tm.Ty)(a pa:Option Addr)(vs:List Value)(root s:Tm.Wd)(ps:List Int)(ErrC:List Nat→Nd→Nd→Int→Prop)(OkC:List Nat→Nd→Nd→Nd→Prop)(hT:TyF w B tys a cap vs)(hr:root.length≤200000000000000)(hs:s.length≤4000)
  (hps:∀X,Below w.heap.size w X→RdI X pa ps)(hpl:ps.length≤1000)(hpc:ps.length≤pc)
  (hdo:∀(X:World) (q:List Nat) (d x:Nd) (nb gn on:Nat) (g:Option Addr) (c:Nat) (bl:List Nat) (vsx:List Value) (upv:Value) (gx ox:Nat),Below w.heap.size w X→aB tys root s=some d→ps=bN q→q≠[]→Foc X w.heap.size nb d q gn on x g c bl vsx→w.heap.size≤gn→gn≠nb+1→w.heap.size≤nb→nb+1 < X.heap.size→Itm w tys root x q gx ox→(∃q' k y gu ou g' c' bl' vs',q=q'++[k]∧upv= .pointer (some ⟨gu,ou,none⟩)∧Foc X w.heap.size nb d q' gu ou y g' c' bl' vs')→
   Calls Tryz.prog 38 #[upv,.pointer (some ⟨gn,on,none⟩),.pointer (some ⟨gx,ox,none⟩),.pointer (some ⟨tb,0,none⟩)] X (nZ w X nb tys root (ErrC q d x) (OkC q d x))):
  Calls Tryz.prog 37 #[.slice a tys.length cap,.string (aa root),.string (aa s),.slice pa ps.length pc,.func (.func 38) #[] #[.pointer (some ⟨tb,0,none⟩)]] w (iY w tys root ps (aB tys root s) ErrC OkC):=by
 have hF:∀t∈tys,Tm.aZ t∧Tm.Its.sz t.items≤100000:=hT.ew;obtain⟨n,hn⟩:∃n,n=tys.length:=⟨_,rfl⟩;obtain⟨pn,hpn⟩:∃pn,pn=ps.length:=⟨_,rfl⟩;have hRD:=eO tys root s w B cap B a vs hT.own hT.enc hF hT.few hT.chain hr (by omega);have HRT:Hid (∀d,aB tys root s=some d→d.ok∧d.tot≤8000∧(wrS tys.reverse root d.kids).isSome=true∧d.kind=3∧Fx.Tdy d.kids):=hid (fun d hd=>by
  obtain⟨d1,d2,d3⟩:=ea hT hs hd;have hwd:(Fx.wrT tys.reverse root d).isSome=true:=by unfold Fx.wrT;rw[d3];rfl
  obtain⟨k1,k2,k3⟩:=Fx.dO hwd;exact⟨d1,d2,k1,k3,(Fx.wN hd).2⟩)
 have HAT:Hid (∀X d nb,Below w.heap.size w X→aB tys root s=some d→eh X w.heap.size nb d→Calls Tryz.prog 72 #[.agg #[.slice a n cap],.string (aa root),.pointer (some ⟨nb,0,none⟩),.slice pa pn pc] X (wM w X w.heap.size nb tys root d ps)):=hid (fun X d nb hX hd ht=>by
  obtain⟨d1,d2,d3,d4,d5⟩:=HRT.out d hd;rw[hn,hpn];exact El w X B w.heap.size nb cap pc tys a pa root d ps hT.fxe hX ht d4 d3 d5 (by omega) (fun Y hY=>hps Y (hX.trans (hY.mono hX.size))) hpl hpc)
 have HDN:Hid (∀X d Bn bl v,Below w.heap.size w X→d.ok→d.tot≤800000→(Fx.wrT tys.reverse root d).isSome=true→NdV X Bn bl d v→Calls Tryz.prog 34 #[.agg #[.slice a n cap],.string (aa root),v] X (oH X (Fx.bW Fx.bJ tys.reverse root d))):=hid (fun X d Bn bl v hX d1 d2 d3 hv=>by
  obtain⟨u0,hu0⟩:=Option.isSome_iff_exists.1 d3;rw[hn];exact nF tys root u0 d X B cap Bn a vs v bl (hT.up hX) hr hv d1 d2 hu0)
 have HDO:=hid hdo;obtain⟨o,ho⟩:∃o,o=aB tys root s:=⟨_,rfl⟩;rw[← ho]at hRD HRT HAT HDO⊢;rw[← hn,← hpn]at *
 have HRD:=hid hRD;clear hT hr hs hps hpl hpc hdo hF hRD ho hn hpn;go_enter Tryz.func37,Tryz.ntmps37;go_wp2_with fail;refine HRD.out.mono ?_;unfold cQ;rintro e w2 ⟨hb2,hv2⟩;have HB2:=hid hb2;cases o with
 |none=>
  obtain⟨ty,vv,rfl⟩:=hv2;clear hb2;go_wp2_with fail;go_ret2;exact⟨HB2.out.alloc HB2.out.size _,ty,vv,rfl⟩
 |some d=>
  obtain⟨v2,bl2,rfl,hnd2,hnp2⟩:=hv2;obtain⟨g2,cc2,hve⟩:=hnd2.cells;subst hve;obtain⟨V,hV⟩:∃V,V=(w2.alloc (.cells #[.string (aa d.name),.int .i64 (d.kind:Nat),.int .i64 (d.at_:Nat),.int .i64 (d.size:Nat),.int .i64 d.val,.string (aa d.text),.slice g2 d.kids.len cc2] 28)).alloc (.cells #[.slice a n cap] 75):=⟨_,rfl⟩;have hbV:Below w2.heap.size w2 V:=by rw[hV];exact((Y4 _ _).alloc (Z5 _) _).alloc (by simp) _
  have hVs:V.heap.size=w2.heap.size+2:=by rw[hV];simp
  have hq0:ad V w2.heap.size 0 28 [.string (aa d.name),.int .i64 (d.kind:Nat),.int .i64 (d.at_:Nat),.int .i64 (d.size:Nat),.int .i64 d.val,.string (aa d.text),.slice g2 d.kids.len cc2]:=by rw[hV];exact(ad.new w2 _ _).alloc _
  have hq1:ad V (w2.heap.size+1) 0 75 [.slice a n cap]:=by rw[hV];exact ad.ix _ _ (by simp) _ _
  have hndV:=hnd2.al (w':=V) fun b hb=>hbV.block b (hnd2.mem b hb).2
  have htr:eh V w.heap.size w2.heap.size d:=eh.F' hndV hnp2 hq0 (fun hb=>by have:=(hnd2.mem _ hb).2;omega);have hbVw:Below w.heap.size w V:=hb2.trans (hbV.mono hb2.size);have HAV:=hid (HAT.out V d w2.heap.size hbVw rfl htr);have HQ1:=hid hq1;have j0:=hq1.cell0 0 (by simp);simp only[Z0]at j0;obtain⟨ml,hml⟩:∃ml,ml=d.kids.len:=⟨_,rfl⟩;rw[← hml]at hV⊢;rw[hV]at j0;have HV:=hid hV;have HBV:=hid hbVw;have HVS:=hid hVs;clear hb2 hnd2 hnp2 hV hbV hq0 hq1 hndV htr hbVw hml hVs;go_wp2_with fail;rw[← HV.out];refine HAV.out.mono ?_;unfold wM;rintro e w4 ⟨hb4,⟨rfl,hno⟩|⟨q,x,gn,on,g,c,bl,vsx,upv,xv,hq,rfl,hfoc,hx0,hx1⟩⟩
  ·have HB4:=hid (HBV.out.trans (hb4.mono HBV.out.size));have HNO:=hid hno;clear hb4 hno j0;go_wp2_with fail;go_ret2;exact⟨HB4.out,.inl ⟨fun q hq=> .inr (HNO.out q hq),rfl⟩⟩
  ·have HB4:=hid (HBV.out.trans (hb4.mono HBV.out.size));have hq14:=HQ1.out.below hb4 HQ1.out.lt;have hz4:w2.heap.size+1 < w4.heap.size:=by have:=hb4.size;have:=HVS.out;omega
   by_cases hqn:q=[]
   ·have hxe:=hx0 hqn;subst hxe;have HNO:=hid (show ∀q2,ps=bN q2→q2=[]∨Fx.bD q2 d=none from fun q2 h2=> .inl (by
     subst hqn;rw[hq]at h2;cases q2 with
     |nil=>rfl
     |cons y q2=>simp[bN]at h2))
    clear hb4 hx0 hx1 hqn hq14 hz4 j0 hq hfoc;go_wp2_with fail;go_ret2;exact⟨HB4.out,.inl ⟨HNO.out,rfl⟩⟩
   ·obtain⟨⟨gx,ox,rfl,hitm⟩,hpar⟩:=hx1 hqn;have hgn1:gn≠w2.heap.size+1:=fun e=>by
     have h1:=hfoc.row;rw[e]at h1;have:=Em h1 hq14;exact absurd this (by decide)
    have hgnB:w.heap.size≤gn:=by
     rcases hfoc.base with h|h
     ·exact h
     ·have:=HB2.out.size;omega
    have HCL:=hid (HDO.out w4 q d x w2.heap.size gn on g c bl vsx upv gx ox HB4.out rfl hq hqn hfoc hgnB hgn1 HB2.out.size hz4 hitm hpar);have HQX:=hid (And.intro hq (And.intro hqn hfoc.get));have HQ14:=hid hq14;clear hb4 hx0 hx1 hq hfoc hitm hpar hgn1 hgnB hq14 hz4 j0;go_wp2_with fail;refine HCL.out.mono ?_;unfold nZ;rintro e w5 ⟨hb5,⟨k,hek,rfl⟩|⟨d2,hok2,rfl,ht5,hk5,ho5,ht25,hw5⟩⟩
    ·have HB5:=hid hb5;have HEK:=hid hek;clear hb5 hek hqn;go_wp2_with fail;go_ret2;exact⟨HB5.out,.inr ⟨q,x,HQX.out.1,HQX.out.2.1,HQX.out.2.2,.inl ⟨k,HEK.out,rfl⟩⟩⟩
    ·have HB5:=hid hb5;obtain⟨g5,c5,bl5,vs5,hr5,hkv5,hn5⟩:=ht5;have hq5:=HQ14.out.of_heap hk5;have j5:=hq5.cell0 0 (by simp);simp only[Z0]at j5;have hnd5:=hkv5.nd d2.name d2.kind d2.at_ d2.size d2.val d2.text;have HD5:=hid (HDN.out w5 d2 _ _ _ hb5 ho5 ht25 hw5 hnd5);obtain⟨m5,hm5⟩:∃m5,m5=d2.kids.len:=⟨_,rfl⟩;rw[← hm5]at hr5 HD5;have e5:Value.agg (ae d2.name d2.kind d2.at_ d2.size d2.val d2.text (.slice g5 m5 c5)).toArray= .agg #[.string (aa d2.name),.int .i64 (d2.kind:Nat),.int .i64 (d2.at_:Nat),.int .i64 (d2.size:Nat),.int .i64 d2.val,.string (aa d2.text),.slice g5 m5 c5]:=rfl;rw[e5]at HD5;have hr5b:ad w5 w2.heap.size 0 28 [.string (aa d2.name),.int .i64 (d2.kind:Nat),.int .i64 (d2.at_:Nat),.int .i64 (d2.size:Nat),.int .i64 d2.val,.string (aa d2.text),.slice g5 m5 c5]:=hr5;have c0:=hr5b.cell0 0 (by simp);have c1:=hr5b.cell0 1 (by simp);have c2:=hr5b.cell0 2 (by simp);have c3:=hr5b.cell0 3 (by simp);have c4:=hr5b.cell0 4 (by simp);have cc5:=hr5b.cell0 5 (by simp);have c6:=hr5b.cell0 6 (by simp);simp only[Z0,Z1]at c0 c1 c2 c3 c4 cc5 c6;have HOK:=hid (And.intro hok2 hw5);obtain⟨rr,hrr⟩:∃rr,rr=Fx.bW Fx.bJ tys.reverse root d2:=⟨_,rfl⟩;rw[← hrr]at HD5;have HRR:=hid hrr;clear hb5 hok2 hr5 hr5b hkv5 hn5 hq5 hnd5 ho5 ht25 hw5 hk5 e5 hm5 hqn hrr;go_wp2_with fail;refine HD5.out.mono ?_;rintro e w6 ⟨hb6,hv6⟩;have HB6:=hid (HB5.out.trans (hb6.mono HB5.out.size));clear hb6;cases rr with
     |ok u=>
      simp only[]at hv6;subst hv6;go_wp2_with fail;go_ret2;refine⟨HB6.out,.inr ⟨q,x,HQX.out.1,HQX.out.2.1,HQX.out.2.2,.inr ⟨d2,HOK.out.1,HOK.out.2,?_⟩⟩⟩;rw[← HRR.out];rfl
     |bad k=>
      simp only[]at hv6;subst hv6;go_wp2_with fail;go_ret2;refine⟨HB6.out,.inr ⟨q,x,HQX.out.1,HQX.out.2.1,HQX.out.2.2,.inr ⟨d2,HOK.out.1,HOK.out.2,?_⟩⟩⟩;rw[← HRR.out];rfl
def ue(q:List Nat)(d x:Nd)(k:Int):Prop:=True
def sG(tys:List Tm.Ty)(root:Tm.Wd)(v:Int)(q:List Nat)(d x d':Nd):Prop:=x.kind=1∧d'=Fx.cB (fun d=>{d with val:=v}) q d∧∃h,Fx.itS tys.reverse root q=some h∧kNo h.k=1∧Tm.isNone h.ax=true∧cz (Fx.wOf h.k) v=true
theorem wV{tys:List Tm.Ty}{root:Tm.Wd}{v:Int}{q:List Nat}{d x:Nd}{h:Tm.Hd}(hd:(Fx.wrT tys.reverse root d).isSome=true)(hq:q≠[])(hi:Fx.itS tys.reverse root q=some h)(hx:Fx.bD q d=some x)(hk:x.kind=1)(hk2:kNo h.k=1)(hv:cz (Fx.wOf h.k) v=true):(Fx.wrT tys.reverse root (Fx.cB (fun d=>{d with val:=v}) q d)).isSome=true:=by
 cases q with
 |nil=>exact absurd rfl hq
 |cons k q=>
  refine Fx.ma (fun W d hd=> ?_) hd hi hx (by rw[hk,hk2]);unfold aY at hd⊢;simp only[]at hd⊢;split at hd
  ·cases hd
  ·rename_i hn
   rw[if_neg hn];cases hc:h.k with
   |scalar w=>
    have hv2:cz w v=true:=by rw[hc]at hv;exact hv
    simp only[];rw[if_pos hv2];rfl
   |bytes=>rw[hc]at hk2;cases hk2
   |struct t=>rw[hc]at hk2;cases hk2
theorem zq{w:World}{tys:List Tm.Ty}{root:Tm.Wd}{x:Nd}{q:List Nat}{gx ox:Nat}(h:Itm w tys root x q gx ox)(hx:x.kind=1):∃h' cv wd,ad w gx ox 70 (Tm.ag h' cv)∧Fx.itS tys.reverse root q=some h'∧h'.k= .scalar wd∧kNo h'.k=1:=by
 cases h with
 |hd h' cv hr hi hk=>
  have h1:kNo h'.k=1:=by rcases hk with hk|hk <;> omega
  cases hc:h'.k with
  |scalar wd=>exact⟨h',cv,wd,hr,hi,hc,h1⟩
  |bytes=>rw[hc]at h1;cases h1
  |struct t=>rw[hc]at h1;cases h1
 |wh ai cv sv hr hk=>omega
theorem Cu(r:Tm.Rl):(((av r).1:Nat):Int)=0↔Tm.isNone r=true:=by cases r <;> simp[av,Tm.isNone]
theorem ka:∀(l:Tm.Its) (R:Fx.Itf) (p:List Nat) (h:Tm.Hd),Tm.bB l→(∀t p h,R t p=some h→Tm.fO h)→Fx.km R l p=some h→Tm.fO h
 | .nil,R,p,h,_,_,e=>by cases e
 | .cons h0 l,R,[],h,_,_,e=>by cases e
 | .when _ _ b l,R,[],h,_,_,e=>by cases e
 | .cons h0 l,R,(k+1)::q,h,hF,hR,e=>ka l R (k::q) h hF.2 hR e
 | .when _ _ b l,R,(k+1)::q,h,hF,hR,e=>ka l R (k::q) h hF.2.2 hR e
 | .when _ _ b l,R,0::q,h,hF,hR,e=>ka b R q h hF.2.1 hR e
 | .cons h0 l,R,0::q,h,hF,hR,e=>by
  have one:∀p,Fx.gf R h0 p=some h→Tm.fO h:=by
   intro p e;cases p with
   |nil=>cases e;exact hF.1
   |cons k2 p2=>
    cases hk0:h0.k with
    |struct t=>
     have e2:(match h0.k with| .struct t=>R t (k2::p2)|_=>none)=some h:=e;rw[hk0]at e2;exact hR _ _ _ e2
    |scalar w0=>
     have e2:(match h0.k with| .struct t=>R t (k2::p2)|_=>none)=some h:=e;rw[hk0]at e2;cases e2
    |bytes=>
     have e2:(match h0.k with| .struct t=>R t (k2::p2)|_=>none)=some h:=e;rw[hk0]at e2;cases e2
  have e2:Fx.hdI R h0 q=some h:=e;cases q with
  |nil=>cases e2;exact hF.1
  |cons k q2=>
   have e3:(if Tm.cI h0=true then Fx.gf R h0 q2 else Fx.gf R h0 (k::q2))=some h:=e2;split at e3
   ·exact one _ e3
   ·exact one _ e3
theorem qE:∀(L:List Tm.Ty),(∀t∈L,Tm.aZ t)→∀nm p h,Fx.itS L nm p=some h→Tm.fO h
 |[],_,nm,p,h,e=>by cases e
 |t::r,hF,nm,p,h,e=>by
  have e2:(if t.name=nm then Fx.km (Fx.itS r) t.items p else Fx.itS r nm p)=some h:=e;split at e2
  ·exact ka t.items (Fx.itS r) p h (hF t (by simp)).2 (qE r (fun x hx=>hF x (by simp[hx]))) e2
  ·exact qE r (fun x hx=>hF x (by simp[hx])) nm p h e2
theorem Er(w X:World)(tys:List Tm.Ty)(root s:Tm.Wd)(v:Int)(hv:Ex.InR v)(q:List Nat)(d x:Nd)(nb gn on tb gx ox c B cap:Nat)(a:Option Addr)(vs:List Value)(g:Option Addr)(bl:List Nat)(vsx:List Value)(upv:Value)(hT:TyF w B tys a cap vs)(hs:s.length≤4000)(hX:Below w.heap.size w X)(hb:ad w tb 0 3 [.int .i64 v])(hd:aB tys root s=some d)(hq:q≠[])(hf:Foc X w.heap.size nb d q gn on x g c bl vsx)(hgn:w.heap.size≤gn)(hgn1:gn≠nb+1)(hnz:nb+1 < X.heap.size)(hit:Itm w tys root x q gx ox):
  Calls Tryz.prog 38 #[upv,.pointer (some ⟨gn,on,none⟩),.pointer (some ⟨gx,ox,none⟩),.pointer (some ⟨tb,0,none⟩)] X (nZ w X nb tys root (ue q d x) (sG tys root v q d x)):=by
 have hrow:=hf.row;have c1:=hrow.cell 1 (by simp[ae]);have c4:=hrow.cell 4 (by simp[ae]);have z4:=hrow.frozen 4 (by simp[ae]);have hbX:=hb.below hX hb.lt;have b0:=hbX.cell0 0 (by simp);simp only[ae,Z0,Z1]at c1 c4 b0;obtain⟨xv,hxv⟩:∃xv,xv=x.val:=⟨_,rfl⟩;rw[← hxv]at c4;obtain⟨kd,hkd⟩:∃kd,kd=x.kind:=⟨_,rfl⟩;rw[← hkd]at c1;have HX:=hid hX
 by_cases h1:kd=1
 ·have q1:((kd:Int)==1)=true:=by rw[beq_iff_eq];omega
  have q2:((kd:Int)!=1)=false:=by rw[bne,q1];rfl
  have q3:(kd==1)=true:=beq_iff_eq.2 h1;have q4:(kd !=1)=false:=by rw[bne,q3];rfl
  have hx1:x.kind=1:=by rw[← hkd];exact h1
  obtain⟨h,cv,wd,hir,hi,hkk,hk1⟩:=zq hit hx1;have hfh:=qE tys.reverse hT.jC root q h hi;have hkw:(Tm.kindOf wd).isSome=true:=by have:=hfh.1;rw[hkk]at this;exact this
  obtain⟨kv1,kv2,kv3⟩:=lI hkw;have hirX:=hir.below hX hir.lt;have i4:=hirX.cell 4 (by simp[Tm.aj]);have i6:=hirX.cell 6 (by simp[Tm.aj]);have i9:=hirX.cell 9 (by simp[Tm.aj]);simp only[Tm.ag,hkk,Tm.bo,Z0,Z1]at i4 i6 i9;rw[kv1]at i4;rw[kv3]at i6;obtain⟨rv,hrv⟩:∃rv:Nat,rv=(av h.ax).1:=⟨_,rfl⟩;rw[← hrv]at i9;obtain⟨ft,hft⟩:∃ft,ft=cz wd v:=⟨_,rfl⟩;have HFT:Hid (∀Y,Calls Tryz.prog 39 #[.int .i64 v,.int .i64 (bj wd:Nat),.bool (eF wd)] Y fun e w'=>e= .returned (.bool ft)∧Y=w'):=hid (fun Y=>by rw[hft];exact mo wd hkw v hv Y);obtain⟨d1,dt,d3⟩:=ea hT hs hd;have hwd:(Fx.wrT tys.reverse root d).isSome=true:=by unfold Fx.wrT;rw[d3];rfl
  have HR:=hid (fun(hr0:rv=0) (hf1:ft=true) (Y:World) (hY:Below X.heap.size X Y)=>show nZ w X nb tys root (ue q d x) (sG tys root v q d x) (.returned .nilIface) (Y.setCell ⟨gn,on+4,none⟩ (.int .i64 v))from by
   have hf2:=hf.up hY;have hnr:Tm.isNone h.ax=true:=(Cu h.ax).1 (by rw[← hrv];omega);have hfit:cz (Fx.wOf h.k) v=true:=by rw[hkk];show cz wd v=true;rw[← hft];exact hf1
   refine⟨(hX.trans (hY.mono hX.size)).setCell (p:=⟨gn,on+4,none⟩) hgn _,.inr ⟨_,⟨hx1,rfl,h,hi,hk1,hnr,hfit⟩,rfl,F0 hf2 v,?_,Fx.oK (fun d=>{d with val:=v}) (fun d h=>⟨hv,h.2⟩) q d d1,?_,wV hwd hq hi hf.get hx1 hk1 hfit⟩⟩
   ·exact(Below.heap_setCell _ _ _ _ (fun e=>hgn1 (show gn=nb+1 from e.symm))).trans (hY.block _ hnz)
   ·have:=Fx.qw (fun d=>{d with val:=v}) 0 (fun d=>Z5 _) q d;omega)
  have hC4:∀Y,Below X.heap.size X Y→Y.cell? ⟨gn,on+4,none⟩=some (.int .i64 xv)∧Y.frozen? ⟨gn,on+4,none⟩=false∧Y.cell? ⟨tb,0,none⟩=some (.int .i64 v):=fun Y hY=>by
   have r1:=hrow.below hY hrow.lt;have k4:=r1.cell 4 (by simp[ae]);simp only[ae,Z0,Z1]at k4;rw[← hxv]at k4;have k0:=(hbX.below hY hbX.lt).cell0 0 (by simp);simp only[Z0]at k0;exact⟨k4,r1.frozen 4 (by simp[ae]),k0⟩
  have HC4:=hid hC4;clear hT hs hb hd hq hf hgn hgn1 hit hrow hkd h1 hx1 hi hk1 d1 dt d3 hwd hxv hX hbX hir hirX hfh hkw kv1 kv2 kv3 hrv hft hC4
  by_cases hr0:rv=0
  ·have y1:((rv:Int)==0)=true:=by rw[beq_iff_eq];omega
   have y2:((rv:Int)!=0)=false:=by rw[bne,y1];rfl
   have y3:(rv==0)=true:=beq_iff_eq.2 hr0;have y4:(rv !=0)=false:=by rw[bne,y3];rfl
   have HR0:=hid hr0;clear hr0;go_enter Tryz.func38,Tryz.ntmps38;go_wp2_with fail;go_quiet (first|(go_at_call 39;with_reducible exact Calls.quiet_of_same (qG (HFT.out _))));have HB7:=hid (ey (Y4 X.heap.size X) nq);obtain⟨w7,hw7⟩:∃w7,w7=X.drewN nq:=⟨_,rfl⟩;rw[← hw7]at HB7⊢;clear hw7 c1 c4 z4 b0 i4 i6 i9;obtain⟨c4,z4,b0⟩:=HC4.out w7 HB7.out;cases ft with
   |false=>
    go_wp2_with fail;go_ret;exact⟨HX.out.trans (HB7.out.mono HX.out.size),.inl ⟨2,trivial,rfl⟩⟩
   |true=>
    have HRR:=hid (HR.out HR0.out rfl w7 HB7.out);go_wp2_with fail;go_ret;exact HRR.out
  ·have y1:((rv:Int)==0)=false:=by rw[Z8];omega
   have y2:((rv:Int)!=0)=true:=by rw[bne,y1];rfl
   have y3:(rv==0)=false:=Z8.2 hr0;have y4:(rv !=0)=true:=by rw[bne,y3];rfl
   clear hr0;go_enter Tryz.func38,Tryz.ntmps38;go_wp2_with fail;go_ret;exact⟨HX.out,.inl ⟨6,trivial,rfl⟩⟩
 ·have q1:((kd:Int)==1)=false:=by rw[Z8];omega
  have q2:((kd:Int)!=1)=true:=by rw[bne,q1];rfl
  have q3:(kd==1)=false:=Z8.2 h1;have q4:(kd !=1)=true:=by rw[bne,q3];rfl
  clear hT hs hb hd hq hf hgn hgn1 hit hrow hkd h1 hxv hX hbX;go_enter Tryz.func38,Tryz.ntmps38;go_wp2_with fail;go_ret;exact⟨HX.out,.inl ⟨1,trivial,rfl⟩⟩
theorem F1(w:World)(B cap pc:Nat)(tys:List Tm.Ty)(a pa:Option Addr)(vs:List Value)(root s:Tm.Wd)(v:Int)(hv:Ex.InR v)(ps:List Int)(hT:TyF w B tys a cap vs)(hr:root.length≤200000000000000)(hs:s.length≤4000)
  (hps:∀X,Below w.heap.size w X→RdI X pa ps)(hpl:ps.length≤1000)(hpc:ps.length≤pc):
  Calls Tryz.prog 15 #[.slice a tys.length cap,.string (aa root),.string (aa s),.slice pa ps.length pc,.int .i64 v] w (iY w tys root ps (aB tys root s) ue (sG tys root v)):=by
 obtain⟨n,hn⟩:∃n,n=tys.length:=⟨_,rfl⟩;obtain⟨pn,hpn⟩:∃pn,pn=ps.length:=⟨_,rfl⟩;obtain⟨V1,hV1⟩:∃V1,V1=w.alloc (.cells #[.int .i64 v] 3):=⟨_,rfl⟩;have hb1:Below w.heap.size w V1:=by rw[hV1];exact(Y4 _ _).alloc (Z5 _) _
 have hbx:ad V1 w.heap.size 0 3 [.int .i64 v]:=by rw[hV1];exact ad.new w _ _
 have HCH:=hid (zp V1 B cap pc w.heap.size tys a pa vs root s ps ue (sG tys root v) (hT.up hb1) hr hs (fun X hX=>hps X (hb1.trans (hX.mono hb1.size))) hpl hpc (fun X q d x nb gn on g c bl vsx upv gx ox hX hd hq hqn hf hg1 hg2 hnb hnz hit hpar=>Er V1 X tys root s v hv q d x nb gn on w.heap.size gx ox c B cap a vs g bl vsx upv (hT.up hb1) hs hX hbx hd hqn hf hg1 hg2 hnz hit));have HV1:=hid hV1;have HB1:=hid hb1;rw[← hn,← hpn]at HCH⊢;clear hT hr hs hps hpl hpc hn hpn hV1 hb1 hbx hv;go_enter Tryz.func15,Tryz.ntmps15;go_wp2_with fail;rw[← HV1.out];refine HCH.out.mono ?_;intro e w5 hco;have HCO:=hid hco;obtain⟨u,vv,rfl⟩:=hco.two;clear hco;go_wp2_with fail;go_ret2;exact HCO.out.below HB1.out
structure PrS(w wr:World)(B:Nat)(d:Nd)(q:List Nat)(i:Nat)(xn:Tm.Wd)(xk xa xz:Nat)(xv:Int)(xt:Tm.Wd)(ks:Nds)(g:Option Addr)(c:Nat):Prop where
 bel:Below w.heap.size w wr
 row:ad wr w.heap.size 0 28 [.string (aa xn),.int .i64 (xk:Nat),.int .i64 (xa:Nat),.int .i64 (xz:Nat),.int .i64 xv,.string (aa xt),.slice g ks.len c]
 res:ad wr (w.heap.size+1) 0 28 [.string {data:= #[]},.int .i64 0,.int .i64 0,.int .i64 0,.int .i64 0,.string {data:= #[]},.slice none 0 0]
 kv:∃bl vs,an w B 28 7 g ks.len c vs∧aW w B ks bl vs
 get:Fx.bD (q.take i) d=some ⟨xn,xk,xa,xz,xv,xt,ks⟩
theorem sH(k:Nat):∀(p:List Nat) (q:List Nat) (d x:Nd),Fx.bD p d=some x→Fx.bD (p++k::q) d=(Fx.nth k x.kids).bind (Fx.bD q)
 |[],q,d,x,h=>by cases h;rfl
 |j::p,q,d,x,h=>by
  have h2:(Fx.nth j d.kids).bind (Fx.bD p)=some x:=h;obtain⟨y,h3,h4⟩:=Option.bind_eq_some_iff.1 h2;show(Fx.nth j d.kids).bind (Fx.bD (p++k::q))=_;rw[h3];exact sH k p q y x h4
theorem wW(w:World)(B pc:Nat)(d y:Nd)(q:List Nat)(pa:Option Addr)(v:Value)(bl:List Nat)(hd:NdV w B bl d v)(hq:Fx.bD q d=some y)(htot:d.tot≤800000)(hps:∀X,Below w.heap.size w X→RdI X pa (bN q))(hpl:q.length≤1000)(hpc:q.length≤pc):
  Calls Tryz.prog 17 #[v,.slice pa q.length pc] w fun e w'=>Below w.heap.size w w'∧∃g n c,e= .returned (.tuple #[.agg #[.string (aa y.name),.int .i64 (y.kind:Nat),.int .i64 (y.at_:Nat),.int .i64 (y.size:Nat),.int .i64 y.val,.string (aa y.text),.slice g n c],.bool true]):=by
 obtain⟨gk,gcap,ksv,b1,hv,hbl,hkO,hkE⟩:=hd;have hv2:v= .agg #[.string (aa d.name),.int .i64 (d.kind:Nat),.int .i64 (d.at_:Nat),.int .i64 (d.size:Nat),.int .i64 d.val,.string (aa d.text),.slice gk d.kids.len gcap]:=hv;subst hv2;obtain⟨pn,hpn⟩:∃pn,pn=q.length:=⟨_,rfl⟩;obtain⟨V1,hV1⟩:∃V1,V1=(w.alloc (.cells #[.string (aa d.name),.int .i64 (d.kind:Nat),.int .i64 (d.at_:Nat),.int .i64 (d.size:Nat),.int .i64 d.val,.string (aa d.text),.slice gk d.kids.len gcap] 28)).alloc (.cells #[.string {data:= #[]},.int .i64 0,.int .i64 0,.int .i64 0,.int .i64 0,.string {data:= #[]},.slice none 0 0] 28):=⟨_,rfl⟩;have hb1:Below w.heap.size w V1:=by rw[hV1];exact((Y4 _ _).alloc (Z5 _) _).alloc (by simp) _
 have hr5:ad V1 w.heap.size 0 28 [.string (aa d.name),.int .i64 (d.kind:Nat),.int .i64 (d.at_:Nat),.int .i64 (d.size:Nat),.int .i64 d.val,.string (aa d.text),.slice gk d.kids.len gcap]:=by rw[hV1];exact(ad.new w _ _).alloc _
 have hr6:ad V1 (w.heap.size+1) 0 28 [.string {data:= #[]},.int .i64 0,.int .i64 0,.int .i64 0,.int .i64 0,.string {data:= #[]},.slice none 0 0]:=by rw[hV1];exact ad.ix _ _ (by simp) _ _
 have HS0:=hid (show PrS w V1 B d q 0 d.name d.kind d.at_ d.size d.val d.text d.kids gk gcap from⟨hb1,hr5,hr6,⟨b1,ksv,hkO,hkE⟩,rfl⟩);have HPS:=hid hps;have HPL:=hid hpl;have HPN:=hid hpn;have HQ:=hid hq;have HTOT:=hid htot;have hpc2:pn≤pc:=by rw[hpn];exact hpc
 obtain⟨m0,hm0⟩:∃m0,m0=d.kids.len:=⟨_,rfl⟩;rw[← hm0]at hV1;have HV1:=hid hV1;rw[← hpn,← hm0];clear hv hbl hkO hkE hq htot hps hpl hpc hpn hV1 hb1 hr5 hr6 hm0;go_enter Tryz.func17,Tryz.ntmps17;go_wp2_with fail;rw[← HV1.out];go_loopw [6] (fun v6 wr=>∃(i:Nat) (xn:Tm.Wd) (xk xa xz:Nat) (xv:Int) (xt:Tm.Wd) (ks:Nds) (g:Option Addr) (c:Nat),v6= .int .i64 i∧i≤pn∧Hid (PrS w wr B d q i xn xk xa xz xv xt ks g c)) (fun v6 _=>pn - (intOf v6).toNat)
 case atStart=>exact⟨0,_,_,_,_,_,_,_,_,_,rfl,Nat.zero_le _,HS0⟩
 case round=>
  obtain⟨i,xn,xk,xa,xz,xv,xt,ks,g,c,rfl,hin,HS⟩:=hrel;obtain⟨xm,hxm⟩:∃xm,xm=ks.len:=⟨_,rfl⟩;have hrow:=HS.out.row;rw[← hxm]at hrow;have hres:=HS.out.res;have HXM:=hid hxm
  by_cases hlt:i < pn
  ·have hki:(i:Int) < (pn:Int):=by omega
   have q1:decide ((i:Int) < (pn:Int))=true:=Z9 hki;have q2:decide (i < pn)=true:=Z9 hlt;have hlq:i < q.length:=by rw[← HPN.out];exact hlt
   obtain⟨kn,hkn⟩:∃kn,q[i]? =some kn:=⟨q[i],Y1 hlq⟩;have hsplit:q=q.take i++kn::q.drop (i+1):=by
    have e:=List.drop_eq_getElem_cons hlq;rw[Y1 hlq]at hkn;injection hkn with hkn
    rw[hkn]at e;rw[← e,List.take_append_drop]
   have hge:(Fx.nth kn ks).bind (Fx.bD (q.drop (i+1)))=some y:=by
    rw[← sH kn (q.take i) (q.drop (i+1)) d _ HS.out.get,← hsplit];exact HQ.out
   obtain⟨⟨yn,yk,ya,yz,yv,yt,yks⟩,hnth,hge2⟩:=Option.bind_eq_some_iff.1 hge;have hkm:kn < xm:=by
    rw[hxm];rcases Nat.lt_or_ge kn ks.len with h|h
    ·exact h
    ·rw[zj kn ks h]at hnth;cases hnth
   obtain⟨k1,d2,r,hsp,hkl⟩:=Fx.qu kn ks (by rw[← hxm];exact hkm);have hd2:d2=⟨yn,yk,ya,yz,yv,yt,yks⟩:=by
    rw[hsp,← hkl,Fx.tW]at hnth;injection hnth
   subst hd2;obtain⟨blk1,vsk,hown,henc⟩:=HS.out.kv;obtain⟨gb,hgb⟩:∃gb,g=some ⟨gb,0,none⟩:=by
    cases hg:g with
    |none=>rw[hg]at hown;have:=hown.aO.1;omega
    |some z=>rw[hg]at hown;exact⟨z.block,by have:=hown.row.1;rw[← this]⟩
   subst hgb;have hmc:xm≤c:=by rw[hxm];exact aT hown
   have hdrop:ks.drop kn=Nd.put ⟨yn,yk,ya,yz,yv,yt,yks⟩ r:=by
    rw[hsp,← hkl];clear hsp hkl hnth hge2 hge hsplit
    induction k1 with
    |nil=>cases r <;> rfl
    |cons a b c' e f g' x k1 _ ih=>exact ih
   obtain⟨g2,c2,bs2,bb2,hr2,ho2,he2⟩:=aW.nd hown henc hdrop;simp only[]at hr2 ho2 he2;obtain⟨ym,hym⟩:∃ym,ym=yks.len:=⟨_,rfl⟩;have hr2b:=hr2;rw[← hym]at hr2b;have hr2W:=hr2b.below HS.out.bel hr2b.lt;have hgw:gb < w.heap.size:=hr2b.lt;obtain⟨px,rfl,_,hci⟩:=HPS.out wr HS.out.bel i (by unfold bN;rw[List.length_map];exact hlq);have hcv:(bN q).getD i 0=(kn:Int):=by
    unfold bN;rw[List.getD_eq_getElem?_getD,List.getElem?_map,hkn];rfl
   rw[hcv]at hci;have hkm2:(kn:Int) < (xm:Int):=by omega
   have hk0:(0:Int)≤(kn:Int):=by omega
   have n0:decide ((kn:Int) < 0)=false:=Y9 (by omega);have n1:decide ((xm:Int)≤(kn:Int))=false:=Y9 (by omega);have n2:decide (xm≤kn)=false:=Y9 (by omega);have HHH:=hid (And.intro hr2W (And.intro hrow hres));have HGET:=hid (show Fx.bD (q.take (i+1)) d=some ⟨yn,yk,ya,yz,yv,yt,yks⟩ by
    rw[List.take_add_one,hkn];show Fx.bD (q.take i++[kn]) d=_;rw[Fx.nH kn _ d _ HS.out.get];exact hnth)
   have HKV:=hid (show ∃bl vs,an w B 28 7 g2 yks.len c2 vs∧aW w B yks bl vs from⟨bb2,bs2,ho2,he2⟩);have HYM:=hid hym;have HLT:=hid hlt;have HBEL:=hid HS.out.bel;have hx6:=hrow.cell0 6 (by simp);simp only[Z0,Z1]at hx6;clear hsplit hge hnth hge2 hsp hkl hown henc hdrop hr2 hr2b ho2 he2 hcv hym hlq hkn hlt hxm hgw hrow hres hr2W;go_wp2_with fail;go_quiet (fail);obtain⟨wq,hwq⟩:∃wq,wq=wr.drewN nq:=⟨_,rfl⟩;rw[← hwq];have hbq:Below wr.heap.size wr wq:=by rw[hwq];exact ey (Y4 _ _) _
   have hr2Q:=HHH.out.1.below hbq HHH.out.1.lt;have hrowQ:=HHH.out.2.1.below hbq HHH.out.2.1.lt;have hresQ:=HHH.out.2.2.below hbq HHH.out.2.2.lt;have hciQ:wq.cell? (px.add i)=some (.int .i64 (kn:Nat)):=by rw[hwq];exact hci
   have s0:=hr2Q.cell 0 (by simp[ae]);have s1:=hr2Q.cell 1 (by simp[ae]);have s2:=hr2Q.cell 2 (by simp[ae]);have s3:=hr2Q.cell 3 (by simp[ae]);have s4:=hr2Q.cell 4 (by simp[ae]);have s5:=hr2Q.cell 5 (by simp[ae]);have s6:=hr2Q.cell 6 (by simp[ae]);simp only[ae,Z0,Z1,Y2]at s0 s1 s2 s3 s4 s5 s6;have b0:=hrowQ.cell0 0 (by simp);have e0:=hrowQ.frozen0 0 (by simp);have b1:=hrowQ.cell0 1 (by simp);have e1:=hrowQ.frozen0 1 (by simp);have b2:=hrowQ.cell0 2 (by simp);have e2:=hrowQ.frozen0 2 (by simp);have b3:=hrowQ.cell0 3 (by simp);have e3:=hrowQ.frozen0 3 (by simp);have b4:=hrowQ.cell0 4 (by simp);have e4:=hrowQ.frozen0 4 (by simp);have b5:=hrowQ.cell0 5 (by simp);have e5:=hrowQ.frozen0 5 (by simp);have b6:=hrowQ.cell0 6 (by simp);have e6:=hrowQ.frozen0 6 (by simp);simp only[Z0,Z1]at b0 b1 b2 b3 b4 b5 b6;obtain⟨wd,hwd⟩:∃wd,wd=wq:=⟨_,rfl⟩;have hbd:Below wr.heap.size wr wd:=by rw[hwd];exact hbq
   have hrowD:=HHH.out.2.1.below hbd HHH.out.2.1.lt;have hresD:=HHH.out.2.2.below hbd HHH.out.2.2.lt;have hbw:Below w.heap.size w wd:=HBEL.out.trans (hbd.mono HBEL.out.size);obtain⟨Wn,hWn⟩:∃Wn,Wn=st7 wd w.heap.size (.string (aa yn)) (.int .i64 (yk:Nat)) (.int .i64 (ya:Nat)) (.int .i64 (yz:Nat)) (.int .i64 yv) (.string (aa yt)) (.slice g2 ym c2):=⟨_,rfl⟩;have hn1:Below w.heap.size w Wn:=by rw[hWn];exact eg hbw (Z5 _) _ _ _ _ _ _ _
   have hn2:ad Wn w.heap.size 0 28 [.string (aa yn),.int .i64 (yk:Nat),.int .i64 (ya:Nat),.int .i64 (yz:Nat),.int .i64 yv,.string (aa yt),.slice g2 ym c2]:=by rw[hWn];exact lH hrowD rfl _ _ _ _ _ _ _
   have hn3:Wn.heap[w.heap.size+1]? =wd.heap[w.heap.size+1]? :=by rw[hWn];exact cY _ _ _ _ _ _ _ _ (by omega)
   have hn4:PrS w Wn.drew B d q (i+1) yn yk ya yz yv yt yks g2 c2:=⟨hn1.drew,by rw[← HYM.out];exact hn2.drew,(hresD.of_heap hn3).drew,HKV.out,HGET.out⟩;rw[hWn,hwd]at hn4;have HNX:=hid hn4;clear hn1 hn2 hn3 hn4 hWn hbw hbd hrowD hresD hwd;clear hx6 hci hwq hbq hr2Q hrowQ hresQ;go_wp2_with fail;go_still_tail 8,(by kernel_rfl);change wpList _ _ _ _ _ wq.drew;go_wp2_with fail;go_roundw
   case rel=>exact⟨i+1,yn,yk,ya,yz,yv,yt,yks,g2,c2,by first|rfl|rw[ay HLT.out (show pn≤100000 by have:=HPL.out;have:=HPN.out;omega)],by have:=HLT.out;omega,HNX⟩
   case measure=>(try rw[ay HLT.out (show pn≤100000 by have:=HPL.out;have:=HPN.out;omega)]);simp only[intOf];have:=HLT.out;omega
  ·obtain rfl:i=pn:=by omega
   have hdd:decide ((i:Int) < (i:Int))=false:=by simp
   have hdd2:decide (i < i)=false:=by simp
   have HY:=hid (show y=⟨xn,xk,xa,xz,xv,xt,ks⟩ by
    have h1:=HS.out.get;rw[HPN.out,List.take_length,HQ.out]at h1;injection h1)
   have HBEL:=hid HS.out.bel;have f0:=hrow.cell0 0 (by simp);have f1:=hrow.cell0 1 (by simp);have f2:=hrow.cell0 2 (by simp);have f3:=hrow.cell0 3 (by simp);have f4:=hrow.cell0 4 (by simp);have f5:=hrow.cell0 5 (by simp);have f6:=hrow.cell0 6 (by simp);simp only[Z0,Z1]at f0 f1 f2 f3 f4 f5 f6;have b0:=hres.cell0 0 (by simp);have e0:=hres.frozen0 0 (by simp);have b1:=hres.cell0 1 (by simp);have e1:=hres.frozen0 1 (by simp);have b2:=hres.cell0 2 (by simp);have e2:=hres.frozen0 2 (by simp);have b3:=hres.cell0 3 (by simp);have e3:=hres.frozen0 3 (by simp);have b4:=hres.cell0 4 (by simp);have e4:=hres.frozen0 4 (by simp);have b5:=hres.cell0 5 (by simp);have e5:=hres.frozen0 5 (by simp);have b6:=hres.cell0 6 (by simp);have e6:=hres.frozen0 6 (by simp);simp only[Z0,Z1]at b0 b1 b2 b3 b4 b5 b6;have p0:=hres.aw 0 (by simp) (.string (aa xn));have r0:=p0.cell0 0 (by simp);have p1:=p0.aw 1 (by simp) (.int .i64 (xk:Nat));have r1:=p1.cell0 1 (by simp);have p2:=p1.aw 2 (by simp) (.int .i64 (xa:Nat));have r2:=p2.cell0 2 (by simp);have p3:=p2.aw 3 (by simp) (.int .i64 (xz:Nat));have r3:=p3.cell0 3 (by simp);have p4:=p3.aw 4 (by simp) (.int .i64 xv);have r4:=p4.cell0 4 (by simp);have p5:=p4.aw 5 (by simp) (.string (aa xt));have r5:=p5.cell0 5 (by simp);have p6:=p5.aw 6 (by simp) (.slice g xm c);have r6:=p6.cell0 6 (by simp);simp only[Z2,Z3,Z0,Z1]at r0 r1 r2 r3 r4 r5 r6;clear p0 p1 p2 p3 p4 p5 p6;clear hrow hres hlt hxm;go_wp2_with fail;refine bodyPost_ret (v:= .tuple #[.agg #[.string (aa xn),.int .i64 (xk:Nat),.int .i64 (xa:Nat),.int .i64 (xz:Nat),.int .i64 xv,.string (aa xt),.slice g xm c],.bool true]) (by simp[results,Tryz.results17,go_sem,r0,r1,r2,r3,r4,r5,r6];first|done|rfl) rfl ?_;refine⟨eg HBEL.out (by omega) _ _ _ _ _ _ _,g,xm,c,?_⟩;rw[HY.out]
end
end Go.Proofs.YtlomecfhobehnaaGreatDoor
