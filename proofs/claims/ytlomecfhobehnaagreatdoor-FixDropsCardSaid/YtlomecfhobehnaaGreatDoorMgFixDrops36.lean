import Derived.Test.YtlomecfhobehnaaGreatDoorMgFixDrops35
set_option linter.all false
set_option maxRecDepth 100000
set_option maxHeartbeats 4000000
namespace Go.Proofs.YtlomecfhobehnaaGreatDoor
open Lib (hid)
section
open Go Go.RowKit
open Rd
open Ly
theorem yq(w:World)(B cap pc tb:Nat)(tys:List Tm.Ty)(a pa:Option Addr)(vs:List Value)(root s:Tm.Wd)(ps:List Int)(ErrC:List Nat→Nd→Nd→Int→Prop)(OkC:List Nat→Nd→Nd→Nd→Prop)(hT:TyF w B tys a cap vs)(hr:root.length≤200000000000000)(hs:s.length≤4000)
  (hps:∀X,Below w.heap.size w X→RdI X pa ps)(hpl:ps.length≤1000)(hpc:ps.length≤pc)
  (hdo:∀(X:World) (q:List Nat) (d x:Nd) (nb gn on:Nat) (g:Option Addr) (c:Nat) (bl:List Nat) (vsx:List Value) (upv:Value) (gx ox:Nat),Below w.heap.size w X→aw tys root s=some d→ps=bf q→q≠[]→Foc X w.heap.size nb d q gn on x g c bl vsx→w.heap.size≤gn→gn≠nb+1→w.heap.size≤nb→nb+1 < X.heap.size→Itm w tys root x q gx ox→(∃q' k y gu ou g' c' bl' vs',q=q'++[k]∧upv= .pointer (some ⟨gu,ou,none⟩)∧Foc X w.heap.size nb d q' gu ou y g' c' bl' vs')→
   Calls Tryz.prog 40 #[upv,.pointer (some ⟨gn,on,none⟩),.pointer (some ⟨gx,ox,none⟩),.pointer (some ⟨tb,0,none⟩)] X (jk w X nb tys root (ErrC q d x) (OkC q d x))):
  Calls Tryz.prog 37 #[.slice a tys.length cap,.string (aa root),.string (aa s),.slice pa ps.length pc,.func (.func 40) #[] #[.pointer (some ⟨tb,0,none⟩)]] w (eI w tys root ps (aw tys root s) ErrC OkC):=by
 have hF:∀t∈tys,Tm.bg t∧Tm.Its.sz t.items≤100000:=hT.eE;obtain⟨n,hn⟩:∃n,n=tys.length:=⟨_,rfl⟩;obtain⟨pn,hpn⟩:∃pn,pn=ps.length:=⟨_,rfl⟩;have hRD:=fU tys root s w B cap B a vs hT.own hT.enc hF hT.few hT.chain hr (by omega);have HRT:Hid (∀d,aw tys root s=some d→d.ok∧d.tot≤8000∧(wrS tys.reverse root d.kids).isSome=true∧d.kind=3∧Fx.Tdy d.kids):=hid (fun d hd=>by
  obtain⟨d1,d2,d3⟩:=dL hT hs hd;have hwd:(Fx.wrT tys.reverse root d).isSome=true:=by unfold Fx.wrT;rw[d3];rfl
  obtain⟨k1,k2,k3⟩:=Fx.cC hwd;exact⟨d1,d2,k1,k3,(Fx.rz hd).2⟩)
 have HAT:Hid (∀X d nb,Below w.heap.size w X→aw tys root s=some d→dX X w.heap.size nb d→Calls Tryz.prog 72 #[.agg #[.slice a n cap],.string (aa root),.pointer (some ⟨nb,0,none⟩),.slice pa pn pc] X (ry w X w.heap.size nb tys root d ps)):=hid (fun X d nb hX hd ht=>by
  obtain⟨d1,d2,d3,d4,d5⟩:=HRT.out d hd;rw[hn,hpn];exact Aq w X B w.heap.size nb cap pc tys a pa root d ps hT.fxe hX ht d4 d3 d5 (by omega) (fun Y hY=>hps Y (hX.trans (hY.mono hX.size))) hpl hpc)
 have HDN:Hid (∀X d Bn bl v,Below w.heap.size w X→d.ok→d.tot≤800000→(Fx.wrT tys.reverse root d).isSome=true→NdV X Bn bl d v→Calls Tryz.prog 34 #[.agg #[.slice a n cap],.string (aa root),v] X (mY X (Fx.bH Fx.bE tys.reverse root d))):=hid (fun X d Bn bl v hX d1 d2 d3 hv=>by
  obtain⟨u0,hu0⟩:=Option.isSome_iff_exists.1 d3;rw[hn];exact kI tys root u0 d X B cap Bn a vs v bl (hT.up hX) hr hv d1 d2 hu0)
 have HDO:=hid hdo;obtain⟨o,ho⟩:∃o,o=aw tys root s:=⟨_,rfl⟩;rw[← ho]at hRD HRT HAT HDO⊢;rw[← hn,← hpn]at *
 have HRD:=hid hRD;clear hT hr hs hps hpl hpc hdo hF hRD ho hn hpn;go_enter Tryz.func37,Tryz.ntmps37;go_wp2_with fail;refine HRD.out.mono ?_;unfold gU;rintro e w2 ⟨hb2,hv2⟩;have HB2:=hid hb2;cases o with
 |none=>
  obtain⟨ty,vv,rfl⟩:=hv2;clear hb2;go_wp2_with fail;go_ret2;exact⟨HB2.out.alloc HB2.out.size _,ty,vv,rfl⟩
 |some d=>
  obtain⟨v2,bl2,rfl,hnd2,hnp2⟩:=hv2;obtain⟨g2,cc2,hve⟩:=hnd2.cells;subst hve;obtain⟨V,hV⟩:∃V,V=(w2.alloc (.cells #[.string (aa d.name),.int .i64 (d.kind:Nat),.int .i64 (d.at_:Nat),.int .i64 (d.size:Nat),.int .i64 d.val,.string (aa d.text),.slice g2 d.kids.len cc2] 28)).alloc (.cells #[.slice a n cap] 75):=⟨_,rfl⟩;have hbV:Below w2.heap.size w2 V:=by rw[hV];exact((Y4 _ _).alloc (Z5 _) _).alloc (by simp) _
  have hVs:V.heap.size=w2.heap.size+2:=by rw[hV];simp
  have hq0:ae V w2.heap.size 0 28 [.string (aa d.name),.int .i64 (d.kind:Nat),.int .i64 (d.at_:Nat),.int .i64 (d.size:Nat),.int .i64 d.val,.string (aa d.text),.slice g2 d.kids.len cc2]:=by rw[hV];exact(ae.new w2 _ _).alloc _
  have hq1:ae V (w2.heap.size+1) 0 75 [.slice a n cap]:=by rw[hV];exact ae.iI _ _ (by simp) _ _
  have hndV:=hnd2.an (w':=V) fun b hb=>hbV.block b (hnd2.mem b hb).2
  have htr:dX V w.heap.size w2.heap.size d:=dX.Gx hndV hnp2 hq0 (fun hb=>by have:=(hnd2.mem _ hb).2;omega);have hbVw:Below w.heap.size w V:=hb2.trans (hbV.mono hb2.size);have HAV:=hid (HAT.out V d w2.heap.size hbVw rfl htr);have HQ1:=hid hq1;have j0:=hq1.cell0 0 (by simp);simp only[Z0]at j0;obtain⟨ml,hml⟩:∃ml,ml=d.kids.len:=⟨_,rfl⟩;rw[← hml]at hV⊢;rw[hV]at j0;have HV:=hid hV;have HBV:=hid hbVw;have HVS:=hid hVs;clear hb2 hnd2 hnp2 hV hbV hq0 hq1 hndV htr hbVw hml hVs;go_wp2_with fail;rw[← HV.out];refine HAV.out.mono ?_;unfold ry;rintro e w4 ⟨hb4,⟨rfl,hno⟩|⟨q,x,gn,on,g,c,bl,vsx,upv,xv,hq,rfl,hfoc,hx0,hx1⟩⟩
  ·have HB4:=hid (HBV.out.trans (hb4.mono HBV.out.size));have HNO:=hid hno;clear hb4 hno j0;go_wp2_with fail;go_ret2;exact⟨HB4.out,.inl ⟨fun q hq=> .inr (HNO.out q hq),rfl⟩⟩
  ·have HB4:=hid (HBV.out.trans (hb4.mono HBV.out.size));have hq14:=HQ1.out.below hb4 HQ1.out.lt;have hz4:w2.heap.size+1 < w4.heap.size:=by have:=hb4.size;have:=HVS.out;omega
   by_cases hqn:q=[]
   ·have hxe:=hx0 hqn;subst hxe;have HNO:=hid (show ∀q2,ps=bf q2→q2=[]∨Fx.bX q2 d=none from fun q2 h2=> .inl (by
     subst hqn;rw[hq]at h2;cases q2 with
     |nil=>rfl
     |cons y q2=>simp[bf]at h2))
    clear hb4 hx0 hx1 hqn hq14 hz4 j0 hq hfoc;go_wp2_with fail;go_ret2;exact⟨HB4.out,.inl ⟨HNO.out,rfl⟩⟩
   ·obtain⟨⟨gx,ox,rfl,hitm⟩,hpar⟩:=hx1 hqn;have hgn1:gn≠w2.heap.size+1:=fun e=>by
     have h1:=hfoc.row;rw[e]at h1;have:=Ar h1 hq14;exact absurd this (by decide)
    have hgnB:w.heap.size≤gn:=by
     rcases hfoc.base with h|h
     ·exact h
     ·have:=HB2.out.size;omega
    have HCL:=hid (HDO.out w4 q d x w2.heap.size gn on g c bl vsx upv gx ox HB4.out rfl hq hqn hfoc hgnB hgn1 HB2.out.size hz4 hitm hpar);have HQX:=hid (And.intro hq (And.intro hqn hfoc.get));have HQ14:=hid hq14;clear hb4 hx0 hx1 hq hfoc hitm hpar hgn1 hgnB hq14 hz4 j0;go_wp2_with fail;refine HCL.out.mono ?_;unfold jk;rintro e w5 ⟨hb5,⟨k,hek,rfl⟩|⟨d2,hok2,rfl,ht5,hk5,ho5,ht25,hw5⟩⟩
    ·have HB5:=hid hb5;have HEK:=hid hek;clear hb5 hek hqn;go_wp2_with fail;go_ret2;exact⟨HB5.out,.inr ⟨q,x,HQX.out.1,HQX.out.2.1,HQX.out.2.2,.inl ⟨k,HEK.out,rfl⟩⟩⟩
    ·have HB5:=hid hb5;obtain⟨g5,c5,bl5,vs5,hr5,hkv5,hn5⟩:=ht5;have hq5:=HQ14.out.of_heap hk5;have j5:=hq5.cell0 0 (by simp);simp only[Z0]at j5;have hnd5:=hkv5.nd d2.name d2.kind d2.at_ d2.size d2.val d2.text;have HD5:=hid (HDN.out w5 d2 _ _ _ hb5 ho5 ht25 hw5 hnd5);obtain⟨m5,hm5⟩:∃m5,m5=d2.kids.len:=⟨_,rfl⟩;rw[← hm5]at hr5 HD5;have e5:Value.agg (ab d2.name d2.kind d2.at_ d2.size d2.val d2.text (.slice g5 m5 c5)).toArray= .agg #[.string (aa d2.name),.int .i64 (d2.kind:Nat),.int .i64 (d2.at_:Nat),.int .i64 (d2.size:Nat),.int .i64 d2.val,.string (aa d2.text),.slice g5 m5 c5]:=rfl;rw[e5]at HD5;have hr5b:ae w5 w2.heap.size 0 28 [.string (aa d2.name),.int .i64 (d2.kind:Nat),.int .i64 (d2.at_:Nat),.int .i64 (d2.size:Nat),.int .i64 d2.val,.string (aa d2.text),.slice g5 m5 c5]:=hr5;have c0:=hr5b.cell0 0 (by simp);have c1:=hr5b.cell0 1 (by simp);have c2:=hr5b.cell0 2 (by simp);have c3:=hr5b.cell0 3 (by simp);have c4:=hr5b.cell0 4 (by simp);have cc5:=hr5b.cell0 5 (by simp);have c6:=hr5b.cell0 6 (by simp);simp only[Z0,Z1]at c0 c1 c2 c3 c4 cc5 c6;have HOK:=hid (And.intro hok2 hw5);obtain⟨rr,hrr⟩:∃rr,rr=Fx.bH Fx.bE tys.reverse root d2:=⟨_,rfl⟩;rw[← hrr]at HD5;have HRR:=hid hrr;clear hb5 hok2 hr5 hr5b hkv5 hn5 hq5 hnd5 ho5 ht25 hw5 hk5 e5 hm5 hqn hrr;go_wp2_with fail;refine HD5.out.mono ?_;rintro e w6 ⟨hb6,hv6⟩;have HB6:=hid (HB5.out.trans (hb6.mono HB5.out.size));clear hb6;cases rr with
     |ok u=>
      simp only[]at hv6;subst hv6;go_wp2_with fail;go_ret2;refine⟨HB6.out,.inr ⟨q,x,HQX.out.1,HQX.out.2.1,HQX.out.2.2,.inr ⟨d2,HOK.out.1,HOK.out.2,?_⟩⟩⟩;rw[← HRR.out];rfl
     |bad k=>
      simp only[]at hv6;subst hv6;go_wp2_with fail;go_ret2;refine⟨HB6.out,.inr ⟨q,x,HQX.out.1,HQX.out.2.1,HQX.out.2.2,.inr ⟨d2,HOK.out.1,HOK.out.2,?_⟩⟩⟩;rw[← HRR.out];rfl
def nh(q:List Nat)(d x:Nd)(k:Int):Prop:=x.kind≠2∧k=1
def vt(tys:List Tm.Ty)(root txt:Tm.Wd)(q:List Nat)(d x d':Nd):Prop:=x.kind=2∧d'=Fx.cN (fun d=>{d with text:=txt}) q d∧∃h,Fx.itS tys.reverse root q=some h∧kNo h.k=2
theorem vu{tys:List Tm.Ty}{root txt:Tm.Wd}{q:List Nat}{d x:Nd}{h:Tm.Hd}(hd:(Fx.wrT tys.reverse root d).isSome=true)(hq:q≠[])(hi:Fx.itS tys.reverse root q=some h)(hx:Fx.bX q d=some x)(hk:x.kind=2)(hk2:kNo h.k=2):(Fx.wrT tys.reverse root (Fx.cN (fun d=>{d with text:=txt}) q d)).isSome=true:=by
 cases q with
 |nil=>exact absurd rfl hq
 |cons k q=>
  refine Fx.FX (fun W d hd=> ?_) hd hi hx (by rw[hk,hk2]);unfold aX at hd⊢;simp only[]at hd⊢;split at hd
  ·cases hd
  ·rename_i hn
   rw[if_neg hn];cases hc:h.k with
   |scalar w=>rw[hc]at hk2;cases hk2
   |bytes=>rfl
   |struct t=>rw[hc]at hk2;cases hk2
theorem DY(w X:World)(tys:List Tm.Ty)(root txt s:Tm.Wd)(q:List Nat)(d x:Nd)(nb gn on tb gx ox c B cap:Nat)(a:Option Addr)(vs:List Value)(g:Option Addr)(bl:List Nat)(vsx:List Value)(upv:Value)(hT:TyF w B tys a cap vs)(hs:s.length≤4000)(htl:txt.length≤1000)(hX:Below w.heap.size w X)(hb:ae w tb 0 9 [.string (aa txt)])(hd:aw tys root s=some d)(hq:q≠[])(hf:Foc X w.heap.size nb d q gn on x g c bl vsx)(hgn:w.heap.size≤gn)(hgn1:gn≠nb+1)(hit:Itm w tys root x q gx ox):
  Calls Tryz.prog 40 #[upv,.pointer (some ⟨gn,on,none⟩),.pointer (some ⟨gx,ox,none⟩),.pointer (some ⟨tb,0,none⟩)] X (jk w X nb tys root (nh q d x) (vt tys root txt q d x)):=by
 have hrow:=hf.row;have c1:=hrow.cell 1 (by simp[ab]);have c5:=hrow.cell 5 (by simp[ab]);have z5:=hrow.frozen 5 (by simp[ab]);have b0:=(hb.below hX hb.lt).cell0 0 (by simp);simp only[ab,Z0,Z1]at c1 c5 b0;obtain⟨xt,hxt⟩:∃xt,xt=aa x.text:=⟨_,rfl⟩;rw[← hxt]at c5;obtain⟨kd,hkd⟩:∃kd,kd=x.kind:=⟨_,rfl⟩;rw[← hkd]at c1;have HKD:=hid hkd;have HX:=hid hX
 by_cases h2:kd=2
 ·have q1:((kd:Int)==2)=true:=by rw[beq_iff_eq];omega
  have q2:((kd:Int)!=2)=false:=by rw[bne,q1];rfl
  have q3:(kd==2)=true:=beq_iff_eq.2 h2;have q4:(kd !=2)=false:=by rw[bne,q3];rfl
  have hx2:x.kind=2:=by rw[← hkd];exact h2
  obtain⟨h,hi,hk2⟩:∃h,Fx.itS tys.reverse root q=some h∧kNo h.k=2:=by
   cases hit with
   |hd h cv hr hi hk=>exact⟨h,hi,by rcases hk with hk|hk <;> omega⟩
   |wh ai cv sv hr hk=>omega
  obtain⟨d1,dt,d3⟩:=dL hT hs hd;have hwd:(Fx.wrT tys.reverse root d).isSome=true:=by unfold Fx.wrT;rw[d3];rfl
  have HR:=hid (show jk w X nb tys root (nh q d x) (vt tys root txt q d x) (.returned .nilIface) (X.setCell ⟨gn,on+5,none⟩ (.string (aa txt)))from
   ⟨hX.setCell (p:=⟨gn,on+5,none⟩) hgn _,.inr ⟨_,⟨hx2,rfl,h,hi,hk2⟩,rfl,Gw hf txt,Below.heap_setCell _ _ _ _ (fun e=>hgn1 (show gn=nb+1 from e.symm)),Fx.pD (fun d=>{d with text:=txt}) (fun d h=>h) q d d1,by
    have:=Fx.rA (fun d=>{d with text:=txt}) txt.length (fun d=>by unfold Nd.tot;simp only[];omega) q d;omega,vu hwd hq hi hf.get hx2 hk2⟩⟩)
  clear hT hs htl hX hb hd hq hf hgn hgn1 hit hrow hkd h2 hx2 hi hk2 d1 dt d3 hwd hxt;go_enter Tryz.func40,Tryz.ntmps40;go_wp2_with fail;go_ret;exact HR.out
 ·have q1:((kd:Int)==2)=false:=by rw[Z8];omega
  have q2:((kd:Int)!=2)=true:=by rw[bne,q1];rfl
  have q3:(kd==2)=false:=Z8.2 h2;have q4:(kd !=2)=true:=by rw[bne,q3];rfl
  have HE:=hid (show nh q d x 1 from⟨by rw[← hkd];exact h2,rfl⟩);clear hT hs htl hX hb hd hq hf hgn hgn1 hit hrow hkd h2 hxt;go_enter Tryz.func40,Tryz.ntmps40;go_wp2_with fail;go_ret;exact⟨HX.out,.inl ⟨1,HE.out,rfl⟩⟩
theorem eI.below{w w1 w':World}{tys:List Tm.Ty}{root:Tm.Wd}{ps:List Int}{o:Option Nd}{E:List Nat→Nd→Nd→Int→Prop}{O:List Nat→Nd→Nd→Nd→Prop}{e:Ending}(h:eI w1 tys root ps o E O e w')(hb:Below w.heap.size w w1):eI w tys root ps o E O e w':=⟨hb.trans (h.1.mono hb.size),h.2⟩
theorem eI.two{w w':World}{tys:List Tm.Ty}{root:Tm.Wd}{ps:List Int}{o:Option Nd}{E:List Nat→Nd→Nd→Int→Prop}{O:List Nat→Nd→Nd→Nd→Prop}{e:Ending}(h:eI w tys root ps o E O e w'):∃u v,e= .returned (.tuple #[.string u,v]):=by
 obtain⟨_,h2⟩:=h;cases o with
 |none=>obtain⟨t,v,rfl⟩:=h2;exact⟨_,_,rfl⟩
 |some d=>
  rcases h2 with⟨_,rfl⟩|⟨q,x,_,_,_,⟨k,_,rfl⟩|⟨d',_,_,rfl⟩⟩
  ·exact⟨_,_,rfl⟩
  ·exact⟨_,_,rfl⟩
  ·cases Fx.bH Fx.bE tys.reverse root d' <;> exact⟨_,_,rfl⟩
theorem GC(w:World)(B cap pc:Nat)(tys:List Tm.Ty)(a pa:Option Addr)(vs:List Value)(root s txt:Tm.Wd)(ps:List Int)(hT:TyF w B tys a cap vs)(hr:root.length≤200000000000000)(hs:s.length≤4000)(htl:txt.length≤1000)
  (hps:∀X,Below w.heap.size w X→RdI X pa ps)(hpl:ps.length≤1000)(hpc:ps.length≤pc):
  Calls Tryz.prog 16 #[.slice a tys.length cap,.string (aa root),.string (aa s),.slice pa ps.length pc,.string (aa txt)] w (eI w tys root ps (aw tys root s) nh (vt tys root txt)):=by
 obtain⟨n,hn⟩:∃n,n=tys.length:=⟨_,rfl⟩;obtain⟨pn,hpn⟩:∃pn,pn=ps.length:=⟨_,rfl⟩;obtain⟨V1,hV1⟩:∃V1,V1=w.alloc (.cells #[.string (aa txt)] 9):=⟨_,rfl⟩;have hb1:Below w.heap.size w V1:=by rw[hV1];exact(Y4 _ _).alloc (Z5 _) _
 have hbx:ae V1 w.heap.size 0 9 [.string (aa txt)]:=by rw[hV1];exact ae.new w _ _
 have HCH:=hid (yq V1 B cap pc w.heap.size tys a pa vs root s ps nh (vt tys root txt) (hT.up hb1) hr hs (fun X hX=>hps X (hb1.trans (hX.mono hb1.size))) hpl hpc (fun X q d x nb gn on g c bl vsx upv gx ox hX hd hq hqn hf hg1 hg2 hnb hnz hit hpar=>DY V1 X tys root txt s q d x nb gn on w.heap.size gx ox c B cap a vs g bl vsx upv (hT.up hb1) hs htl hX hbx hd hqn hf hg1 hg2 hit));have HV1:=hid hV1;have HB1:=hid hb1;rw[← hn,← hpn]at HCH⊢;clear hT hr hs htl hps hpl hpc hn hpn hV1 hb1 hbx;go_enter Tryz.func16,Tryz.ntmps16;go_wp2_with fail;rw[← HV1.out];refine HCH.out.mono ?_;intro e w5 hco;have HCO:=hid hco;obtain⟨u,v,rfl⟩:=hco.two;clear hco;go_wp2_with fail;go_ret2;exact HCO.out.below HB1.out
def dB(q:List Nat)(d x:Nd)(k:Int):Prop:=k=1∧∃q' j y,q=q'++[j]∧Fx.bX q' d=some y∧y.kind≠9
def eW(G:Nat→Nds→Nds)(q:List Nat)(d x d':Nd):Prop:=∃q' j y,q=q'++[j]∧Fx.bX q' d=some y∧y.kind=9∧Fx.nth j y.kids=some x∧d'={d with kids:=Fx.bP (G j) q' 3 d.kids}
theorem rF{w w':World}{g:Nat}(h:w'.heap[g]? =w.heap[g]?)(o:Nat)(v:Value):(w'.setCell ⟨g,o,none⟩ v).heap[g]? =(w.setCell ⟨g,o,none⟩ v).heap[g]? :=by
 simp[World.setCell,Array.getElem?_modify,h]
theorem lQ(q':List Nat)(j:Nat):(bf (q'++[j])).getD ((q'++[j]).length - 1) 0=(j:Int):=by
 unfold bf;rw[List.map_append,Z7,List.getD_eq_getElem?_getD];simp
theorem tR(j:Nat)(X:Nds)(x:Nd)(h:Fx.nth j X=some x):∃(k1 r:Nds),X=k1.app (x.put r)∧k1.len=j:=by
 have hj:j < X.len:=by
  rcases Nat.lt_or_ge j X.len with h2|h2
  ·exact h2
  ·rw[Ap j X h2]at h;cases h
 obtain⟨k1,d,r,h1,h2⟩:=Fx.rq j X hj;rw[h1,← h2,Fx.vm]at h;injection h with h
 exact⟨k1,r,by rw[h1,h],h2⟩
theorem tS{w:World}{B cap:Nat}{tys:List Tm.Ty}{a:Option Addr}{vs:List Value}{root s:Tm.Wd}{d y:Nd}{q':List Nat}{G:Nds→Nds}(hT:TyF w B tys a cap vs)(hs:s.length≤4000)(hd:aw tys root s=some d)(hy:Fx.bX q' d=some y)(hk:y.kind=9)
  (hok:∀X:Nds,X.ok→(G X).ok)(htot:∀X:Nds,(G X).tot≤X.tot+X.tot)(hw:∀(f:Nd→Option Tm.Wd) X,(bc f X).isSome=true→(bc f (G X)).isSome=true):
  Fx.cN (fun _=>{y with kids:=G y.kids}) q' d={d with kids:=Fx.bP G q' 3 d.kids}∧Nd.ok {d with kids:=Fx.bP G q' 3 d.kids}∧Nd.tot {d with kids:=Fx.bP G q' 3 d.kids}≤800000∧(Fx.wrT tys.reverse root {d with kids:=Fx.bP G q' 3 d.kids}).isSome=true:=by
 obtain⟨d1,d2,d3⟩:=dL hT hs hd;have hwd:(Fx.wrT tys.reverse root d).isSome=true:=by unfold Fx.wrT;rw[d3];rfl
 have hk3:d.kind=3:=(Fx.cC hwd).2.2;have e:Fx.cN (fun _=>{y with kids:=G y.kids}) q' d={d with kids:=Fx.bP G q' 3 d.kids}:=by
  rw[Fx.oz G q' d y hy hk];have e1:Fx.bP G q' d.kind d.kids=Fx.bP G q' 3 d.kids:=by rw[hk3]
  rw[e1]
 have t1:=Fx.jT q' d y hy;have t2:Nd.tot {y with kids:=G y.kids}≤y.tot+y.tot:=by
  have h1:=htot y.kids;have h2:y.tot=y.text.length+8+y.kids.tot:=rfl;show y.text.length+8+(G y.kids).tot≤y.tot+y.tot;omega
 refine⟨e,?_,?_,Fx.GB G hw q' hwd⟩
 ·rw[← e,Fx.lO (fun z=>{z with kids:=G z.kids}) q' d y hy];exact Fx.pD (fun z=>{z with kids:=G z.kids}) (fun z hz=>⟨hz.1,hok _ hz.2⟩) q' d d1
 ·have t3:=Fx.rA (fun _=>({y with kids:=G y.kids}:Nd)) (Nd.tot {y with kids:=G y.kids}) (fun z=>Nat.le_add_left _ _) q' d;rw[e]at t3;omega
theorem DZ(w X:World)(tys:List Tm.Ty)(root s:Tm.Wd)(q q':List Nat)(j:Nat)(d x y:Nd)(nb gn on tb gx ox gu ou c' B cap pc:Nat)(a pa:Option Addr)(vs:List Value)(g':Option Addr)(bl':List Nat)(vs':List Value)(hT:TyF w B tys a cap vs)(hs:s.length≤4000)(hX:Below w.heap.size w X)(hb:ae w tb 0 40 [.slice pa q.length pc])
  (hps:RdI X pa (bf q))(hpl:q.length≤1000)(hd:aw tys root s=some d)(hq:q=q'++[j])(hx:Fx.bX q d=some x)(hf:Foc X w.heap.size nb d q' gu ou y g' c' bl' vs')(hne:∀(g' o':Nat) (zs':List Value),ae X g' o' 28 zs'→g'≠nb+1)(hnb:w.heap.size≤nb)(hnz:nb+1 < X.heap.size):
  Calls Tryz.prog 44 #[.pointer (some ⟨gu,ou,none⟩),.pointer (some ⟨gn,on,none⟩),.pointer (some ⟨gx,ox,none⟩),.pointer (some ⟨tb,0,none⟩)] X (jk w X nb tys root (dB q d x) (eW Fx.dJ q d x)):=by
 have hrow:=hf.row;have c1:=hrow.cell 1 (by simp[ab]);have c6:=hrow.cell 6 (by simp[ab]);have z6:=hrow.frozen 6 (by simp[ab]);have hbX:=hb.below hX hb.lt;have b0:=hbX.cell0 0 (by simp);simp only[ab,Z0,Z1]at c1 c6 b0;obtain⟨kd,hkd⟩:∃kd,kd=y.kind:=⟨_,rfl⟩;rw[← hkd]at c1;have HX:=hid hX
 by_cases h1:kd=9
 ·have q1:((kd:Int)==9)=true:=by rw[beq_iff_eq];omega
  have q2:((kd:Int)!=9)=false:=by rw[bne,q1];rfl
  have q3:(kd==9)=true:=beq_iff_eq.2 h1;have q4:(kd !=9)=false:=by rw[bne,q3];rfl
  have hy9:y.kind=9:=by rw[← hkd];exact h1
  have hnth:Fx.nth j y.kids=some x:=by
   rw[← Fx.fW j q' d y hf.get,← hq];exact hx
  obtain⟨k1,r,hsp,hkl⟩:=tR j y.kids x hnth;obtain⟨n,hn⟩:∃n,n=y.kids.len:=⟨_,rfl⟩;have hjn:j < n:=by
   rw[hn,hsp,Nds.bZ,hkl];show j < j+(r.len+1);omega
  obtain⟨gb,rfl⟩:∃gb,g'=some ⟨gb,0,none⟩:=by
   cases g' with
   |none=>have:=hf.kv.own.aS.1;omega
   |some x=>exact⟨x.block,by rw[hf.kv.own.row.1]⟩
  have hkv:=hf.kv;have hgood:=tS (G:=Fx.dJ j) hT hs hd hf.get hy9 (Fx.GA j) (fun X=>Nat.le_trans (Fx.BL j X) (Nat.le_add_left _ _)) (fun f X h=>Fx.qP j X h);have htd:=(dL hT hs hd).2.1;have hyt:=Fx.jT q' d y hf.get;have hnl:n≤100000000:=by
   have h8:=fR y.kids;have h9:y.tot=y.text.length+8+y.kids.tot:=rfl;omega
  have hDL:Hid (Calls Tryz.prog 45 #[.slice (some ⟨gb,0,none⟩) n c',.int .i64 j,.int .i64 ((j:Int)+1)] X fun e w'=>e= .returned (.slice (some ⟨gb,0,none⟩) (n - 1) c')∧ak w' w.heap.size 28 7 (some ⟨gb,0,none⟩) (n - 1) c' (vs'.take (j * 7)++vs'.drop (j * 7+7))∧X.grownBy w' (some gb)∧w'.heap.size=X.heap.size):=hid (ym X w.heap.size gb n c' j vs' (by rw[hn];exact hkv.own) hjn hnl (mJ _ _ _ hkv.enc));have hgub:gu≠gb:=fun e=>hf.off (by rw[e];simp[aB])
  have hgbl:w.heap.size≤gb∧gb < X.heap.size:=hkv.own.lt;have hguB:w.heap.size≤gu:=by
   rcases hf.base with h|h
   ·exact h
   ·omega
  have HFIN:Hid (∀w5:World,ak w5 w.heap.size 28 7 (some ⟨gb,0,none⟩) (n - 1) c' (vs'.take (j * 7)++vs'.drop (j * 7+7))→X.grownBy w5 (some gb)→w5.heap.size=X.heap.size→jk w X nb tys root (dB q d x) (eW Fx.dJ q d x) (.returned .nilIface) (w5.setCell ⟨gu,ou+6,none⟩ (.slice (some ⟨gb,0,none⟩) (n - 1) c'))):=hid (fun w5 ho hg hz=>by
   have hB5:Below w.heap.size w w5:=by
    refine hX.trans ⟨hg.os,hg.tape,hg.output,by omega,fun k hk=>hg.block k (by have:=hX.size;omega) (fun e=>by injection e with e;omega)⟩
   have hlen:n - 1=(Fx.dJ j y.kids).len:=by
    rw[hn,hsp,← hkl,Fx.ng,Nds.bZ,Nds.bZ];show k1.len+(r.len+1) - 1=_;omega
   refine⟨hB5.setCell (p:=⟨gu,ou+6,none⟩) hguB _,.inr ⟨_,⟨q',j,y,hq,hf.get,hy9,hnth,rfl⟩,rfl,?_,?_,hgood.2.1,hgood.2.2.1,hgood.2.2.2⟩⟩
   ·rw[← hgood.1];have hbl:∀b∈bl',b≠gb:=fun b hb e=>by
     have h3:(gb::bl').Nodup:=hkv.nodup;exact(List.nodup_cons.1 h3).1 (by rw[← e];exact hb)
    have hblu:∀b∈bl',b≠gu:=fun b hb e=>hf.off (List.mem_append_right _ (by rw[← e];exact hb))
    have ho6:ak (w5.setCell ⟨gu,ou+6,none⟩ (.slice (some ⟨gb,0,none⟩) (n - 1) c')) w.heap.size 28 7 (some ⟨gb,0,none⟩) (n - 1) c' (vs'.take (j * 7)++vs'.drop (j * 7+7)):=ho.far (p:=⟨gu,ou+6,none⟩) (fun z hz=>by cases hz;exact fun e=>hgub e.symm) _;rw[hsp]at hkv;obtain⟨bl2,vs2,hk2,hm2⟩:=aM.del (w':=w5.setCell ⟨gu,ou+6,none⟩ (.slice (some ⟨gb,0,none⟩) (n - 1) c')) hkv (by
     rw[hkl];have e9:(k1.app r).len=n - 1:=by rw[hlen,hsp,← hkl,Fx.ng]
     rw[e9];exact ho6) (fun b hb=>(Below.heap_setCell _ _ _ _ (hblu b hb)).trans (hg.block b (hkv.mem b (List.mem_append_right _ hb)).2 (fun e=>by injection e with e;exact hbl b hb e)))
    have e8:k1.app r=Fx.dJ j y.kids:=by rw[hsp,← hkl,Fx.ng]
    rw[e8]at hk2;refine hf.put _ {y with kids:=Fx.dJ j y.kids} (some ⟨gb,0,none⟩) c' bl2 vs2 ?_ ?_ hk2 ?_
    ·rw[rF (hg.block gu hf.row.lt (fun e=>by injection e with e;exact hgub e))];have h7:=lP (i:=6) hf.row (by simp[ab]) (.slice (some ⟨gb,0,none⟩) (n - 1) c');rw[h7];show(X.setCells gu ou (ab y.name y.kind y.at_ y.size y.val y.text (.slice (some ⟨gb,0,none⟩) (n - 1) c'))).heap[gu]? =_;rw[hlen]
    ·intro b hb hbu hbm;exact(Below.heap_setCell _ _ _ _ hbu).trans (hg.block b hb (fun e=>by injection e with e;exact hbm (by rw[e];simp[aB])))
    ·intro b hb;rcases List.mem_append.1 hb with h|h
     ·exact .inl (List.mem_append_left _ h)
     ·exact .inl (List.mem_append_right _ (hm2 b h))
   ·have hne1:gu≠nb+1:=hne gu ou _ hf.row;have hne2:gb≠nb+1:=hne gb 0 _ hkv.own.row.2.2.2.2;exact(Below.heap_setCell _ _ _ _ (fun e=>hne1 (show gu=nb+1 from e.symm))).trans (hg.block _ hnz (fun e=>by injection e with e;exact hne2 e.symm)))
  obtain⟨pn,hpn⟩:∃pn,pn=q.length:=⟨_,rfl⟩;have hp1:1≤pn:=by rw[hpn,hq,Z7];simp
  obtain⟨pv,hpa,hpb,hpc⟩:=hps (pn - 1) (by rw[hpn];unfold bf;rw[List.length_map];omega);subst hpa;have hlast:(bf q).getD (pn - 1) 0=(j:Int):=by rw[hpn,hq];exact lQ q' j
  rw[hlast]at hpc;rw[← hpn]at b0;rw[← hn]at c6;obtain⟨m,hm⟩:∃m,m=pn - 1:=⟨_,rfl⟩;rw[← hm]at hpc;have r2:(pn:Int) - 1=(m:Int):=by omega
  have r1:wrap64 (m:Int)=(m:Int):=IntWalk.wrap64_in _ ⟨by omega,by omega⟩;have r4:(m:Int) < (pn:Int):=by omega
  have r5:m < pn:=by omega
  have r3:IntKind.i64.wrap ((j:Int)+1)=(j:Int)+1:=by rw[IntKind.wrap_i64];omega
  have HHN:=hid hn;have HROW:=hid hrow;have HGUB:=hid hgub;clear hT hs hb hps hpl hd hq hx hf hne hnb hnz hrow hkd h1 hX hbX hy9 hnth hsp hkl hn hkv hgood htd hyt hgub hgbl hguB hpn hlast hpb hm;go_enter Tryz.func44,Tryz.ntmps44;go_wp2_with fail;refine hDL.out.mono ?_;rintro e w5 ⟨rfl,ho,hg,hz⟩;have h5:=HROW.out.of_heap (hg.block gu HROW.out.lt (fun e=>by injection e with e;exact HGUB.out e));have y6:=h5.cell 6 (by simp[ab]);have w6:=h5.frozen 6 (by simp[ab]);simp only[ab,Z0,Z1]at y6;rw[← HHN.out]at y6;have HFN:=hid (HFIN.out w5 ho hg hz);clear ho hg hz h5 c1 c6 b0 hpc z6;go_wp2_with fail;go_ret;exact HFN.out
 ·have q1:((kd:Int)==9)=false:=by rw[Z8];omega
  have q2:((kd:Int)!=9)=true:=by rw[bne,q1];rfl
  have q3:(kd==9)=false:=Z8.2 h1;have q4:(kd !=9)=true:=by rw[bne,q3];rfl
  have HE:Hid (dB q d x 1):=hid ⟨rfl,q',j,y,hq,hf.get,by rw[← hkd];exact h1⟩;clear hT hs hb hps hpl hd hq hx hf hne hnb hnz hrow hkd h1 hX hbX;go_enter Tryz.func44,Tryz.ntmps44;go_wp2_with fail;go_ret;exact⟨HX.out,.inl ⟨1,HE.out,rfl⟩⟩
theorem GD(w:World)(B cap pc:Nat)(tys:List Tm.Ty)(a pa:Option Addr)(vs:List Value)(root s:Tm.Wd)(ps:List Int)(hT:TyF w B tys a cap vs)(hr:root.length≤200000000000000)(hs:s.length≤4000)
  (hps:∀X,Below w.heap.size w X→RdI X pa ps)(hpl:ps.length≤1000)(hpc:ps.length≤pc):
  Calls Tryz.prog 20 #[.slice a tys.length cap,.string (aa root),.string (aa s),.slice pa ps.length pc] w (eI w tys root ps (aw tys root s) dB (eW Fx.dJ)):=by
 obtain⟨n,hn⟩:∃n,n=tys.length:=⟨_,rfl⟩;obtain⟨pn,hpn⟩:∃pn,pn=ps.length:=⟨_,rfl⟩;obtain⟨V1,hV1⟩:∃V1,V1=w.alloc (.cells #[.slice pa ps.length pc] 40):=⟨_,rfl⟩;have hb1:Below w.heap.size w V1:=by rw[hV1];exact(Y4 _ _).alloc (Z5 _) _
 have hbx:ae V1 w.heap.size 0 40 [.slice pa ps.length pc]:=by rw[hV1];exact ae.new w _ _
 have HCH:=hid (yp V1 B cap pc w.heap.size tys a pa vs root s ps dB (eW Fx.dJ) (hT.up hb1) hr hs (fun X hX=>hps X (hb1.trans (hX.mono hb1.size))) hpl hpc (fun X q d x nb gn on g c bl vsx upv gx ox hX hd hq hqn hf hg1 hg2 hnb hnz hit hpar=>by
  obtain⟨q',j,y,gu,ou,g',c',bl',vs',hqj,rfl,hfu⟩:=hpar;have hl:ps.length=q.length:=by rw[hq];unfold bf;rw[List.length_map]
  exact DZ V1 X tys root s q q' j d x y nb gn on w.heap.size gx ox gu ou c' B cap pc a pa vs g' bl' vs' (hT.up hb1) hs hX (by rw[← hl];exact hbx) (by rw[← hq];exact hps X (hb1.trans (hX.mono hb1.size))) (by omega) hd hqj hf.get hfu hg2 hnb hnz))
 have HV1:=hid hV1;have HB1:=hid hb1;rw[← hn,← hpn]at HCH⊢;rw[← hpn]at HV1;clear hT hr hs hps hpl hpc hn hpn hV1 hb1 hbx;go_enter Tryz.func20,Tryz.ntmps20;go_wp2_with fail;rw[← HV1.out];refine HCH.out.mono ?_;intro e w5 hco;have HCO:=hid hco;obtain⟨u,vv,rfl⟩:=hco.two;clear hco;go_wp2_with fail;go_ret2;exact HCO.out.below HB1.out
theorem sw(w:World)(B cap pc tb:Nat)(tys:List Tm.Ty)(a pa:Option Addr)(vs:List Value)(root s:Tm.Wd)(ps:List Int)(ErrC:List Nat→Nd→Nd→Int→Prop)(OkC:List Nat→Nd→Nd→Nd→Prop)(hT:TyF w B tys a cap vs)(hr:root.length≤200000000000000)(hs:s.length≤4000)
  (hps:∀X,Below w.heap.size w X→RdI X pa ps)(hpl:ps.length≤1000)(hpc:ps.length≤pc)
  (hdo:∀(X:World) (q:List Nat) (d x:Nd) (nb gn on:Nat) (g:Option Addr) (c:Nat) (bl:List Nat) (vsx:List Value) (upv:Value) (gx ox:Nat),Below w.heap.size w X→aw tys root s=some d→ps=bf q→q≠[]→Foc X w.heap.size nb d q gn on x g c bl vsx→w.heap.size≤gn→(∀(g' o':Nat) (zs':List Value),ae X g' o' 28 zs'→g'≠nb+1)→w.heap.size≤nb→nb+1 < X.heap.size→Itm w tys root x q gx ox→(∃q' k y gu ou g' c' bl' vs',q=q'++[k]∧upv= .pointer (some ⟨gu,ou,none⟩)∧Foc X w.heap.size nb d q' gu ou y g' c' bl' vs')→
   Calls Tryz.prog 41 #[upv,.pointer (some ⟨gn,on,none⟩),.pointer (some ⟨gx,ox,none⟩),.pointer (some ⟨tb,0,none⟩)] X (jk w X nb tys root (ErrC q d x) (OkC q d x))):
  Calls Tryz.prog 37 #[.slice a tys.length cap,.string (aa root),.string (aa s),.slice pa ps.length pc,.func (.func 41) #[] #[.pointer (some ⟨tb,0,none⟩)]] w (eI w tys root ps (aw tys root s) ErrC OkC):=by
 have hF:∀t∈tys,Tm.bg t∧Tm.Its.sz t.items≤100000:=hT.eE;obtain⟨n,hn⟩:∃n,n=tys.length:=⟨_,rfl⟩;obtain⟨pn,hpn⟩:∃pn,pn=ps.length:=⟨_,rfl⟩;have hRD:=fU tys root s w B cap B a vs hT.own hT.enc hF hT.few hT.chain hr (by omega);have HRT:Hid (∀d,aw tys root s=some d→d.ok∧d.tot≤8000∧(wrS tys.reverse root d.kids).isSome=true∧d.kind=3∧Fx.Tdy d.kids):=hid (fun d hd=>by
  obtain⟨d1,d2,d3⟩:=dL hT hs hd;have hwd:(Fx.wrT tys.reverse root d).isSome=true:=by unfold Fx.wrT;rw[d3];rfl
  obtain⟨k1,k2,k3⟩:=Fx.cC hwd;exact⟨d1,d2,k1,k3,(Fx.rz hd).2⟩)
 have HAT:Hid (∀X d nb,Below w.heap.size w X→aw tys root s=some d→dX X w.heap.size nb d→Calls Tryz.prog 72 #[.agg #[.slice a n cap],.string (aa root),.pointer (some ⟨nb,0,none⟩),.slice pa pn pc] X (ry w X w.heap.size nb tys root d ps)):=hid (fun X d nb hX hd ht=>by
  obtain⟨d1,d2,d3,d4,d5⟩:=HRT.out d hd;rw[hn,hpn];exact Aq w X B w.heap.size nb cap pc tys a pa root d ps hT.fxe hX ht d4 d3 d5 (by omega) (fun Y hY=>hps Y (hX.trans (hY.mono hX.size))) hpl hpc)
 have HDN:Hid (∀X d Bn bl v,Below w.heap.size w X→d.ok→d.tot≤800000→(Fx.wrT tys.reverse root d).isSome=true→NdV X Bn bl d v→Calls Tryz.prog 34 #[.agg #[.slice a n cap],.string (aa root),v] X (mY X (Fx.bH Fx.bE tys.reverse root d))):=hid (fun X d Bn bl v hX d1 d2 d3 hv=>by
  obtain⟨u0,hu0⟩:=Option.isSome_iff_exists.1 d3;rw[hn];exact kI tys root u0 d X B cap Bn a vs v bl (hT.up hX) hr hv d1 d2 hu0)
 have HDO:=hid hdo;obtain⟨o,ho⟩:∃o,o=aw tys root s:=⟨_,rfl⟩;rw[← ho]at hRD HRT HAT HDO⊢;rw[← hn,← hpn]at *
 have HRD:=hid hRD;clear hT hr hs hps hpl hpc hdo hF hRD ho hn hpn;go_enter Tryz.func37,Tryz.ntmps37;go_wp2_with fail;refine HRD.out.mono ?_;unfold gU;rintro e w2 ⟨hb2,hv2⟩;have HB2:=hid hb2;cases o with
 |none=>
  obtain⟨ty,vv,rfl⟩:=hv2;clear hb2;go_wp2_with fail;go_ret2;exact⟨HB2.out.alloc HB2.out.size _,ty,vv,rfl⟩
 |some d=>
  obtain⟨v2,bl2,rfl,hnd2,hnp2⟩:=hv2;obtain⟨g2,cc2,hve⟩:=hnd2.cells;subst hve;obtain⟨V,hV⟩:∃V,V=(w2.alloc (.cells #[.string (aa d.name),.int .i64 (d.kind:Nat),.int .i64 (d.at_:Nat),.int .i64 (d.size:Nat),.int .i64 d.val,.string (aa d.text),.slice g2 d.kids.len cc2] 28)).alloc (.cells #[.slice a n cap] 75):=⟨_,rfl⟩;have hbV:Below w2.heap.size w2 V:=by rw[hV];exact((Y4 _ _).alloc (Z5 _) _).alloc (by simp) _
  have hVs:V.heap.size=w2.heap.size+2:=by rw[hV];simp
  have hq0:ae V w2.heap.size 0 28 [.string (aa d.name),.int .i64 (d.kind:Nat),.int .i64 (d.at_:Nat),.int .i64 (d.size:Nat),.int .i64 d.val,.string (aa d.text),.slice g2 d.kids.len cc2]:=by rw[hV];exact(ae.new w2 _ _).alloc _
  have hq1:ae V (w2.heap.size+1) 0 75 [.slice a n cap]:=by rw[hV];exact ae.iI _ _ (by simp) _ _
  have hndV:=hnd2.an (w':=V) fun b hb=>hbV.block b (hnd2.mem b hb).2
  have htr:dX V w.heap.size w2.heap.size d:=dX.Gx hndV hnp2 hq0 (fun hb=>by have:=(hnd2.mem _ hb).2;omega);have hbVw:Below w.heap.size w V:=hb2.trans (hbV.mono hb2.size);have HAV:=hid (HAT.out V d w2.heap.size hbVw rfl htr);have HQ1:=hid hq1;have j0:=hq1.cell0 0 (by simp);simp only[Z0]at j0;obtain⟨ml,hml⟩:∃ml,ml=d.kids.len:=⟨_,rfl⟩;rw[← hml]at hV⊢;rw[hV]at j0;have HV:=hid hV;have HBV:=hid hbVw;have HVS:=hid hVs;clear hb2 hnd2 hnp2 hV hbV hq0 hq1 hndV htr hbVw hml hVs;go_wp2_with fail;rw[← HV.out];refine HAV.out.mono ?_;unfold ry;rintro e w4 ⟨hb4,⟨rfl,hno⟩|⟨q,x,gn,on,g,c,bl,vsx,upv,xv,hq,rfl,hfoc,hx0,hx1⟩⟩
  ·have HB4:=hid (HBV.out.trans (hb4.mono HBV.out.size));have HNO:=hid hno;clear hb4 hno j0;go_wp2_with fail;go_ret2;exact⟨HB4.out,.inl ⟨fun q hq=> .inr (HNO.out q hq),rfl⟩⟩
  ·have HB4:=hid (HBV.out.trans (hb4.mono HBV.out.size));have hq14:=HQ1.out.below hb4 HQ1.out.lt;have hz4:w2.heap.size+1 < w4.heap.size:=by have:=hb4.size;have:=HVS.out;omega
   by_cases hqn:q=[]
   ·have hxe:=hx0 hqn;subst hxe;have HNO:=hid (show ∀q2,ps=bf q2→q2=[]∨Fx.bX q2 d=none from fun q2 h2=> .inl (by
     subst hqn;rw[hq]at h2;cases q2 with
     |nil=>rfl
     |cons y q2=>simp[bf]at h2))
    clear hb4 hx0 hx1 hqn hq14 hz4 j0 hq hfoc;go_wp2_with fail;go_ret2;exact⟨HB4.out,.inl ⟨HNO.out,rfl⟩⟩
   ·obtain⟨⟨gx,ox,rfl,hitm⟩,hpar⟩:=hx1 hqn;have hgn1:∀(g' o':Nat) (zs':List Value),ae w4 g' o' 28 zs'→g'≠w2.heap.size+1:=fun g' o' zs' h1 e=>by
     rw[e]at h1;have:=Ar h1 hq14;exact absurd this (by decide)
    have hgnB:w.heap.size≤gn:=by
     rcases hfoc.base with h|h
     ·exact h
     ·have:=HB2.out.size;omega
    have HCL:=hid (HDO.out w4 q d x w2.heap.size gn on g c bl vsx upv gx ox HB4.out rfl hq hqn hfoc hgnB hgn1 HB2.out.size hz4 hitm hpar);have HQX:=hid (And.intro hq (And.intro hqn hfoc.get));have HQ14:=hid hq14;clear hb4 hx0 hx1 hq hfoc hitm hpar hgn1 hgnB hq14 hz4 j0;go_wp2_with fail;refine HCL.out.mono ?_;unfold jk;rintro e w5 ⟨hb5,⟨k,hek,rfl⟩|⟨d2,hok2,rfl,ht5,hk5,ho5,ht25,hw5⟩⟩
    ·have HB5:=hid hb5;have HEK:=hid hek;clear hb5 hek hqn;go_wp2_with fail;go_ret2;exact⟨HB5.out,.inr ⟨q,x,HQX.out.1,HQX.out.2.1,HQX.out.2.2,.inl ⟨k,HEK.out,rfl⟩⟩⟩
    ·have HB5:=hid hb5;obtain⟨g5,c5,bl5,vs5,hr5,hkv5,hn5⟩:=ht5;have hq5:=HQ14.out.of_heap hk5;have j5:=hq5.cell0 0 (by simp);simp only[Z0]at j5;have hnd5:=hkv5.nd d2.name d2.kind d2.at_ d2.size d2.val d2.text;have HD5:=hid (HDN.out w5 d2 _ _ _ hb5 ho5 ht25 hw5 hnd5);obtain⟨m5,hm5⟩:∃m5,m5=d2.kids.len:=⟨_,rfl⟩;rw[← hm5]at hr5 HD5;have e5:Value.agg (ab d2.name d2.kind d2.at_ d2.size d2.val d2.text (.slice g5 m5 c5)).toArray= .agg #[.string (aa d2.name),.int .i64 (d2.kind:Nat),.int .i64 (d2.at_:Nat),.int .i64 (d2.size:Nat),.int .i64 d2.val,.string (aa d2.text),.slice g5 m5 c5]:=rfl;rw[e5]at HD5;have hr5b:ae w5 w2.heap.size 0 28 [.string (aa d2.name),.int .i64 (d2.kind:Nat),.int .i64 (d2.at_:Nat),.int .i64 (d2.size:Nat),.int .i64 d2.val,.string (aa d2.text),.slice g5 m5 c5]:=hr5;have c0:=hr5b.cell0 0 (by simp);have c1:=hr5b.cell0 1 (by simp);have c2:=hr5b.cell0 2 (by simp);have c3:=hr5b.cell0 3 (by simp);have c4:=hr5b.cell0 4 (by simp);have cc5:=hr5b.cell0 5 (by simp);have c6:=hr5b.cell0 6 (by simp);simp only[Z0,Z1]at c0 c1 c2 c3 c4 cc5 c6;have HOK:=hid (And.intro hok2 hw5);obtain⟨rr,hrr⟩:∃rr,rr=Fx.bH Fx.bE tys.reverse root d2:=⟨_,rfl⟩;rw[← hrr]at HD5;have HRR:=hid hrr;clear hb5 hok2 hr5 hr5b hkv5 hn5 hq5 hnd5 ho5 ht25 hw5 hk5 e5 hm5 hqn hrr;go_wp2_with fail;refine HD5.out.mono ?_;rintro e w6 ⟨hb6,hv6⟩;have HB6:=hid (HB5.out.trans (hb6.mono HB5.out.size));clear hb6;cases rr with
     |ok u=>
      simp only[]at hv6;subst hv6;go_wp2_with fail;go_ret2;refine⟨HB6.out,.inr ⟨q,x,HQX.out.1,HQX.out.2.1,HQX.out.2.2,.inr ⟨d2,HOK.out.1,HOK.out.2,?_⟩⟩⟩;rw[← HRR.out];rfl
     |bad k=>
      simp only[]at hv6;subst hv6;go_wp2_with fail;go_ret2;refine⟨HB6.out,.inr ⟨q,x,HQX.out.1,HQX.out.2.1,HQX.out.2.2,.inr ⟨d2,HOK.out.1,HOK.out.2,?_⟩⟩⟩;rw[← HRR.out];rfl
theorem yt(w:World)(B g n cap i vb:Nat)(vs news:List Value)(h:ak w B 28 7 (some ⟨g,0,none⟩) n cap vs)(hB:B≤w.heap.size)(hi:i≤n)(hn:n≤10000000)(hv:w.heap[vb]? =some (.cells news.toArray 28 (0,0)))(hvg:vb≠g)(hnl:news.length=7)(hn1:∀u∈news,u.oneCell'=true)(h1:∀u∈vs,u.oneCell'=true):
  Calls Tryz.prog 42 #[.slice (some ⟨g,0,none⟩) n cap,.int .i64 i,.slice (some ⟨vb,0,none⟩) 1 1] w (ie w B g n i vs news):=by
 rcases Nat.lt_or_ge i n with h2|h2
 ·rcases Nat.lt_or_ge cap (n+1)with h3|h3
  ·exact vr w B g n cap i vb vs news h hB h2 h3 hn hv hnl hn1 h1
  ·exact su w B g n cap i vb vs news h h2 h3 hn hv hvg hnl hn1 h1
 ·obtain rfl:i=n:=by omega
  refine yn w B g i cap vb vs news h hB hn ⟨_,(0,0),hv,fun j hj=>by simp,fun j hj _=>by simp⟩ (by rw[hnl]) hn1
theorem GF(k:Nat)(X:Nds)(z:Nd)(h:Fx.nth k X=some z):z.tot≤X.tot:=Fx.rE k X z h
theorem yu{P:Program}{ops:Array Oper}{act:Act}{w:World}{K:Act→World→Prop}{Q:Exit→Act→World→Prop}{E:Prop}{d:Option Nat}(f:FuncId){xs:Array Operand}{ts:Array TypeId}{ty:TypeId}{pos:String}{af:Array Edge}{gd:Option (Tmp×Bool)}
  (h:if Region.wanted ⟨d,.call {callee:= .value (.func f),args:=xs,argTypes:=ts},ty,pos,af,gd⟩ (yielded ops act.tmps)=true then Oper.wp P ⟨d,.call {callee:= .value (.func f),args:=xs,argTypes:=ts},ty,pos,af,gd⟩ act w K Q else E):
  if Region.wanted ⟨d,.call {callee:= .value (.func f),args:=xs,argTypes:=ts},ty,pos,af,gd⟩ (yielded ops act.tmps)=true then Oper.wp P ⟨d,.call {callee:= .value (.func f),args:=xs,argTypes:=ts},ty,pos,af,gd⟩ act w K Q else E:=h
theorem rG{P:Program}{ops:Array Oper}{o:Oper}{a:Act}{w:World}{K:Act→World→Prop}{Q:Exit→Act→World→Prop}{E:Prop}(hg:o.guard=none)(f:FuncId)(args:Array Value)(R:Ending→World→Prop)
  (hrun:(execOp a.eval o).run P w= .ok (.enter f args) w)(hc:Calls P f args w R)(hK:∀e w',R e w'→∃v,e= .returned v∧K (a.put o.dst v) w'):
  if Region.wanted o (yielded ops a.tmps)=true then Oper.wp P o a w K Q else E:=by
 have hw:Region.wanted o (yielded ops a.tmps)=true:=by simp[Region.wanted,hg]
 rw[if_pos hw];unfold Oper.wp;rw[hrun];refine hc.mono ?_;intro e w' h;obtain⟨v,rfl,hk⟩:=hK e w' h;exact hk
theorem yv(w X:World)(tys:List Tm.Ty)(root s:Tm.Wd)(q q':List Nat)(j:Nat)(d x y:Nd)(nb gn on tb gx ox gu ou c' B cap pc:Nat)(a pa:Option Addr)(vs:List Value)(g':Option Addr)(bl':List Nat)(vs':List Value)(hT:TyF w B tys a cap vs)(hs:s.length≤4000)(hX:Below w.heap.size w X)(hb:ae w tb 0 40 [.slice pa q.length pc])
  (hps:RdI X pa (bf q))(hpl:q.length≤1000)(hd:aw tys root s=some d)(hq:q=q'++[j])(c:Nat)(g:Option Addr)(bl:List Nat)(vsx:List Value)(hfi:Foc X w.heap.size nb d q gn on x g c bl vsx)(hgnB:w.heap.size≤gn)(hf:Foc X w.heap.size nb d q' gu ou y g' c' bl' vs')(hne:∀(g' o':Nat) (zs':List Value),ae X g' o' 28 zs'→g'≠nb+1)(hnb:w.heap.size≤nb)(hnz:nb+1 < X.heap.size):
  Calls Tryz.prog 41 #[.pointer (some ⟨gu,ou,none⟩),.pointer (some ⟨gn,on,none⟩),.pointer (some ⟨gx,ox,none⟩),.pointer (some ⟨tb,0,none⟩)] X (jk w X nb tys root (dB q d x) (eW Fx.dK q d x)):=by
 have hrow:=hf.row;have c1:=hrow.cell 1 (by simp[ab]);have c6:=hrow.cell 6 (by simp[ab]);have z6:=hrow.frozen 6 (by simp[ab]);have hbX:=hb.below hX hb.lt;have b0:=hbX.cell0 0 (by simp);simp only[ab,Z0,Z1]at c1 c6 b0;obtain⟨kd,hkd⟩:∃kd,kd=y.kind:=⟨_,rfl⟩;rw[← hkd]at c1;have HX:=hid hX
 by_cases h1:kd=9
 ·have q1:((kd:Int)==9)=true:=by rw[beq_iff_eq];omega
  have q2:((kd:Int)!=9)=false:=by rw[bne,q1];rfl
  have q3:(kd==9)=true:=beq_iff_eq.2 h1;have q4:(kd !=9)=false:=by rw[bne,q3];rfl
  have hy9:y.kind=9:=by rw[← hkd];exact h1
  have hnth:Fx.nth j y.kids=some x:=by
   rw[← Fx.fW j q' d y hf.get,← hq];exact hfi.get
  obtain⟨k1,r,hsp,hkl⟩:=tR j y.kids x hnth;obtain⟨n,hn⟩:∃n,n=y.kids.len:=⟨_,rfl⟩;have hjn:j < n:=by
   rw[hn,hsp,Nds.bZ,hkl];show j < j+(r.len+1);omega
  obtain⟨gb,rfl⟩:∃gb,g'=some ⟨gb,0,none⟩:=by
   cases g' with
   |none=>have:=hf.kv.own.aS.1;omega
   |some x=>exact⟨x.block,by rw[hf.kv.own.row.1]⟩
  have hkv:=hf.kv;have hgood:=tS (G:=Fx.dK j) hT hs hd hf.get hy9 (Fx.Gz j) (Fx.BK j) (fun f X h=>Fx.xG j X h);have htd:=(dL hT hs hd).2.1;have hyt:=Fx.jT q' d y hf.get;have hnl:n≤10000:=by
   have h8:=fR y.kids;have h9:y.tot=y.text.length+8+y.kids.tot:=rfl;omega
  have hgub:gu≠gb:=fun e=>hf.off (by rw[e];simp[aB])
  have hgbl:w.heap.size≤gb∧gb < X.heap.size:=hkv.own.lt;have hguB:w.heap.size≤gu:=by
   rcases hf.base with h|h
   ·exact h
   ·omega
  have hxn:NdV X w.heap.size (aB g++bl) x (.agg (ab x.name x.kind x.at_ x.size x.val x.text (.slice g x.kids.len c)).toArray):=hfi.kv.nd _ _ _ _ _ _;have hxt:=GF j y.kids x hnth;have hyy:y.tot=y.text.length+8+y.kids.tot:=rfl;have HCP:Hid (Calls Tryz.prog 43 #[.agg (ab x.name x.kind x.at_ x.size x.val x.text (.slice g x.kids.len c)).toArray] X.drew fun e w'=>Below X.heap.size X w'∧∃b2 v,e= .returned v∧NdV w' X.heap.size b2 x v∧b2.Nodup):=hid ((qT x (by omega) X.drew w.heap.size _ _ (hxn.an fun b hb=>rfl)).mono fun e w' h=>⟨⟨h.1.os,h.1.tape,h.1.output,h.1.size,h.1.block⟩,h.2⟩);have HIN:Hid (∀(w5:World) (news:List Value),Below X.heap.size X w5→news.length=7→(∀u∈news,u.oneCell'=true)→Calls Tryz.prog 42 #[.slice (some ⟨gb,0,none⟩) n c',.int .i64 ((j:Int)+1),.slice (some ⟨w5.heap.size,0,none⟩) 1 1] (w5.alloc (.cells news.toArray 28)) (ie (w5.alloc (.cells news.toArray 28)) w.heap.size gb n (j+1) vs' news)):=hid (fun w5 news hW hn7 hn1=>by
   have hb6:Below X.heap.size X (w5.alloc (.cells news.toArray 28)):=hW.alloc hW.size _;have h9:=yt (w5.alloc (.cells news.toArray 28)) w.heap.size gb n c' (j+1) w5.heap.size vs' news (by rw[hn];exact hkv.own.below hb6 (Z5 _)) (Nat.le_trans hX.size hb6.size) (by omega) (by omega) (heap_alloc_new w5 _) (by have:=hW.size;omega) hn7 hn1 (mJ _ _ _ hkv.enc);exact h9)
  have HFIN:Hid (∀(w5 w7:World) (b5:List Nat) (news:List Value) (g7 c7:Nat),Below X.heap.size X w5→NdV w5 X.heap.size b5 x (.agg news.toArray)→b5.Nodup→ak w7 w.heap.size 28 7 (some ⟨g7,0,none⟩) (n+1) c7 (vs'.take ((j+1) * 7)++news++vs'.drop ((j+1) * 7))→(w5.alloc (.cells news.toArray 28)).grownBy w7 (some gb)→(g7=gb∨(w5.alloc (.cells news.toArray 28)).heap.size≤g7)→jk w X nb tys root (dB q d x) (eW Fx.dK q d x) (.returned .nilIface) (w7.setCell ⟨gu,ou+6,none⟩ (.slice (some ⟨g7,0,none⟩) (n+1) c7))):=hid (fun w5 w7 b5 news g7 c7 h5 hnd hb5 ho hg hg7=>by
   have h6:Below X.heap.size X (w5.alloc (.cells news.toArray 28)):=h5.alloc h5.size _;have hgX:∀k,k < X.heap.size→k≠gb→w7.heap[k]? =X.heap[k]? :=fun k hk hkg=>(hg.block k (Nat.lt_of_lt_of_le hk h6.size) (fun e=>by injection e with e;exact hkg e)).trans (h6.block k hk)
   have hz7:X.heap.size≤w7.heap.size:=Nat.le_trans h6.size hg.size;have hB7:Below w.heap.size w w7:=hX.trans ⟨hg.os.trans h6.os,hg.tape.trans h6.tape,hg.output.trans h6.output,hz7,fun k hk=>hgX k (by have:=hX.size;omega) (by omega)⟩;have e8:Fx.dK j y.kids=k1.app (x.put (x.put r)):=by rw[hsp,← hkl,Fx.yo]
   have hlen:n+1=(Fx.dK j y.kids).len:=by
    rw[e8,hn,hsp,Nds.bZ,Nds.bZ];show k1.len+(r.len+1)+1=k1.len+(r.len+1+1);omega
   have hsa:(w5.alloc (.cells news.toArray 28)).heap.size=w5.heap.size+1:=World.size_alloc ..
   refine⟨hB7.setCell (p:=⟨gu,ou+6,none⟩) hguB _,.inr ⟨_,⟨q',j,y,hq,hf.get,hy9,hnth,rfl⟩,rfl,?_,?_,hgood.2.1,hgood.2.2.1,hgood.2.2.2⟩⟩
   ·rw[← hgood.1];have hbl:∀b∈bl',b≠gb:=fun b hb e=>by
     have h3:(gb::bl').Nodup:=hkv.nodup;exact(List.nodup_cons.1 h3).1 (by rw[← e];exact hb)
    have hblu:∀b∈bl',b≠gu:=fun b hb e=>hf.off (List.mem_append_right _ (by rw[← e];exact hb))
    have hgu7:g7≠gu:=by
     have:=hf.row.lt;rcases hg7 with rfl|h
     ·exact fun e=>hgub e.symm
     ·have:=h6.size;omega
    have ho8:ak (w7.setCell ⟨gu,ou+6,none⟩ (.slice (some ⟨g7,0,none⟩) (n+1) c7)) w.heap.size 28 7 (some ⟨g7,0,none⟩) (n+1) c7 (vs'.take ((j+1) * 7)++news++vs'.drop ((j+1) * 7)):=ho.far (p:=⟨gu,ou+6,none⟩) (fun z hz=>by cases hz;exact hgu7) _;have hkv2:=hkv;rw[hsp]at hkv2;obtain⟨bl2,vs2,hk2,hm2⟩:=aM.dup (w':=w7.setCell ⟨gu,ou+6,none⟩ (.slice (some ⟨g7,0,none⟩) (n+1) c7)) (g':=g7) (cap':=c7) hkv2 hnd hb5 hX.size (by
     rw[hkl];have e9:(k1.app (x.put (x.put r))).len=n+1:=by rw[hlen,e8]
     rw[e9];exact ho8) (by rcases hg7 with h|h;exact .inl h;exact .inr (by omega)) h5.size (fun b hb=>(Below.heap_setCell _ _ _ _ (hblu b hb)).trans (hgX b (hkv.mem b (List.mem_append_right _ hb)).2 (hbl b hb))) (fun b hb=>by
      have hm:=hnd.mem b hb;have hrl:=hf.row.lt;refine(Below.heap_setCell _ _ _ _ (show b≠gu by omega)).trans ((hg.block b (by omega) (fun e=>by injection e with e;omega)).trans ?_);exact heap_alloc_old w5 _ hm.2)
    rw[← e8]at hk2;refine hf.put _ {y with kids:=Fx.dK j y.kids} (some ⟨g7,0,none⟩) c7 bl2 vs2 ?_ ?_ hk2 ?_
    ·rw[rF (hgX gu hf.row.lt hgub)];have h7:=lP (i:=6) hf.row (by simp[ab]) (.slice (some ⟨g7,0,none⟩) (n+1) c7);rw[h7];show(X.setCells gu ou (ab y.name y.kind y.at_ y.size y.val y.text (.slice (some ⟨g7,0,none⟩) (n+1) c7))).heap[gu]? =_;rw[hlen]
    ·intro b hb hbu hbm;exact(Below.heap_setCell _ _ _ _ hbu).trans (hgX b hb (fun e=>hbm (by rw[e];simp[aB])))
    ·intro b hb;rcases List.mem_append.1 hb with h|h
     ·have hb7:b=g7:=by simpa[aB]using h
      rcases hg7 with h8|h8
      ·exact .inl (List.mem_append_left _ (by rw[hb7,h8];simp[aB]))
      ·exact .inr (by have:=h5.size;omega)
     ·rcases hm2 b h with h8|h8
      ·exact .inl (List.mem_append_right _ h8)
      ·exact .inr h8
   ·have hne1:gu≠nb+1:=hne gu ou _ hf.row;have hne2:gb≠nb+1:=hne gb 0 _ hkv.own.row.2.2.2.2;exact(Below.heap_setCell _ _ _ _ (fun e=>hne1 (show gu=nb+1 from e.symm))).trans (hgX _ hnz (fun e=>hne2 e.symm)))
  have HRU:=hid hf.row;have HRI:=hid hfi.row;obtain⟨pn,hpn⟩:∃pn,pn=q.length:=⟨_,rfl⟩;have hp1:1≤pn:=by rw[hpn,hq,Z7];simp
  obtain⟨pv,hpa,hpb,hpc⟩:=hps (pn - 1) (by rw[hpn];unfold bf;rw[List.length_map];omega);subst hpa;have hlast:(bf q).getD (pn - 1) 0=(j:Int):=by rw[hpn,hq];exact lQ q' j
  rw[hlast]at hpc;rw[← hpn]at b0;rw[← hn]at c6;obtain⟨m,hm⟩:∃m,m=pn - 1:=⟨_,rfl⟩;rw[← hm]at hpc;have r2:(pn:Int) - 1=(m:Int):=by omega
  have r1:wrap64 (m:Int)=(m:Int):=IntWalk.wrap64_in _ ⟨by omega,by omega⟩;have r4:(m:Int) < (pn:Int):=by omega
  have r5:m < pn:=by omega
  have r3:IntKind.i64.wrap ((j:Int)+1)=(j:Int)+1:=by rw[IntKind.wrap_i64];omega
  have HHN:=hid hn;have HROW:=hid hrow;have HGUB:=hid hgub;clear hT hs hb hps hpl hd hq hfi hgnB hf hne hnb hnz hrow hkd h1 hX hbX hy9 hnth hsp hkl hn hkv hgood htd hyt hgub hgbl hguB hpn hlast hpb hm;go_enter Tryz.func41,Tryz.ntmps41;go_wp2_with fail;have d0:=HRI.out.cell 0 (by simp[ab]);have d1:=HRI.out.cell 1 (by simp[ab]);have d2:=HRI.out.cell 2 (by simp[ab]);have d3:=HRI.out.cell 3 (by simp[ab]);have d4:=HRI.out.cell 4 (by simp[ab]);have d5:=HRI.out.cell 5 (by simp[ab]);have d6:=HRI.out.cell 6 (by simp[ab]);simp only[ab,Z0,Z1,Y2]at d0 d1 d2 d3 d4 d5 d6;obtain⟨xm,hxm⟩:∃xm,xm=x.kids.len:=⟨_,rfl⟩;rw[← hxm]at d6;have HXM:=hid hxm;clear hxm c1 b0 hpc;go_region_law (first
   |((with_reducible refine yu 43 ?_)
     refine rG (by rfl) 43 #[.agg (ab x.name x.kind x.at_ x.size x.val x.text (.slice g xm c)).toArray] _ (by kernel_rfl) (by rw[HXM.out];exact HCP.out) ?_;rintro e w5 ⟨hb5,b5,v5,rfl,hnd5,hbn5⟩;obtain⟨gc,cc,hve⟩:=hnd5.cells;subst hve;have hu5:=HRU.out.below hb5 HRU.out.lt;have y6:=hu5.cell 6 (by simp[ab]);have yz6:=hu5.frozen 6 (by simp[ab]);have hu6:=hu5.alloc (.cells #[.string (aa x.name),.int .i64 (x.kind:Nat),.int .i64 (x.at_:Nat),.int .i64 (x.size:Nat),.int .i64 x.val,.string (aa x.text),.slice gc x.kids.len cc] 28);have x6:=hu6.cell 6 (by simp[ab]);simp only[ab,Z0,Z1]at y6 x6;rw[← HHN.out]at y6 x6;have hins:=HIN.out w5 (ab x.name x.kind x.at_ x.size x.val x.text (.slice gc x.kids.len cc)) hb5 rfl (by simp[ab,Value.oneCell']);rw[← HXM.out]at hins x6 hnd5 hu6⊢;have HU6:=hid hu6;have HINS:=hid hins;have HND5:=hid hnd5;have HBN5:=hid hbn5;have HB5:=hid hb5;clear hins hnd5 hbn5 hb5 hu5 hu6;refine⟨_,rfl,?_⟩)
   |((with_reducible refine yu 42 ?_)
     refine rG (by rfl) 42 _ _ (by kernel_rfl) HINS.out ?_;unfold ie;rintro e w7 ⟨g7,c7,rfl,ho7,hg7,hgg7⟩;have HFN:=hid (HFIN.out _ _ _ _ _ _ HB5.out HND5.out HBN5.out ho7 hg7 hgg7);have hu7:=HU6.out.of_heap (hg7.block gu HU6.out.lt (fun e=>by injection e with e;exact HGUB.out e));have s6:=hu7.cell 6 (by simp[ab]);have sz6:=hu7.frozen 6 (by simp[ab]);simp only[ab,Z0,Z1]at s6;clear ho7 hg7 hgg7 hu7;refine⟨_,rfl,?_⟩))
  all_goals
   go_wp2_with fail;go_ret;exact HFN.out
 ·have q1:((kd:Int)==9)=false:=by rw[Z8];omega
  have q2:((kd:Int)!=9)=true:=by rw[bne,q1];rfl
  have q3:(kd==9)=false:=Z8.2 h1;have q4:(kd !=9)=true:=by rw[bne,q3];rfl
  have HE:Hid (dB q d x 1):=hid ⟨rfl,q',j,y,hq,hf.get,by rw[← hkd];exact h1⟩;clear hT hs hb hps hpl hd hq hfi hgnB hf hne hnb hnz hrow hkd h1 hX hbX;go_enter Tryz.func41,Tryz.ntmps41;go_wp2_with fail;go_ret;exact⟨HX.out,.inl ⟨1,HE.out,rfl⟩⟩
theorem At(w:World)(B cap pc:Nat)(tys:List Tm.Ty)(a pa:Option Addr)(vs:List Value)(root s:Tm.Wd)(ps:List Int)(hT:TyF w B tys a cap vs)(hr:root.length≤200000000000000)(hs:s.length≤4000)
  (hps:∀X,Below w.heap.size w X→RdI X pa ps)(hpl:ps.length≤1000)(hpc:ps.length≤pc):
  Calls Tryz.prog 18 #[.slice a tys.length cap,.string (aa root),.string (aa s),.slice pa ps.length pc] w (eI w tys root ps (aw tys root s) dB (eW Fx.dK)):=by
 obtain⟨n,hn⟩:∃n,n=tys.length:=⟨_,rfl⟩;obtain⟨pn,hpn⟩:∃pn,pn=ps.length:=⟨_,rfl⟩;obtain⟨V1,hV1⟩:∃V1,V1=w.alloc (.cells #[.slice pa ps.length pc] 40):=⟨_,rfl⟩;have hb1:Below w.heap.size w V1:=by rw[hV1];exact(Y4 _ _).alloc (Z5 _) _
 have hbx:ae V1 w.heap.size 0 40 [.slice pa ps.length pc]:=by rw[hV1];exact ae.new w _ _
 have HCH:=hid (sw V1 B cap pc w.heap.size tys a pa vs root s ps dB (eW Fx.dK) (hT.up hb1) hr hs (fun X hX=>hps X (hb1.trans (hX.mono hb1.size))) hpl hpc (fun X q d x nb gn on g c bl vsx upv gx ox hX hd hq hqn hf hg1 hg2 hnb hnz hit hpar=>by
  obtain⟨q',j,y,gu,ou,g',c',bl',vs',hqj,rfl,hfu⟩:=hpar;have hl:ps.length=q.length:=by rw[hq];unfold bf;rw[List.length_map]
  exact yv V1 X tys root s q q' j d x y nb gn on w.heap.size gx ox gu ou c' B cap pc a pa vs g' bl' vs' (hT.up hb1) hs hX (by rw[← hl];exact hbx) (by rw[← hq];exact hps X (hb1.trans (hX.mono hb1.size))) (by omega) hd hqj c g bl vsx hf hg1 hfu hg2 hnb hnz))
 have HV1:=hid hV1;have HB1:=hid hb1;rw[← hn,← hpn]at HCH⊢;rw[← hpn]at HV1;clear hT hr hs hps hpl hpc hn hpn hV1 hb1 hbx;go_enter Tryz.func18,Tryz.ntmps18;go_wp2_with fail;rw[← HV1.out];refine HCH.out.mono ?_;intro e w5 hco;have HCO:=hid hco;obtain⟨u,vv,rfl⟩:=hco.two;clear hco;go_wp2_with fail;go_ret2;exact HCO.out.below HB1.out
def nj(w:World)(e:Ending)(w':World):Prop:=Below w.heap.size w w'∧((∃a n c,e= .returned (.tuple #[.slice a n c,.bool false]))∨
 ∃s2 tys a cap vs,List.length s2≤3000∧qD w' w.heap.size s2 tys a cap vs∧Tm.chk [] tys=none∧e= .returned (.tuple #[.slice a (List.length tys) cap,.bool true]))
theorem Au(s:List UInt8)(hne:s≠[])(w:World)(hB:ll w):Calls Tryz.prog 8 #[.string (aa s)] w (nj w):=by
 have q0:(s==[])=false:=Z8.2 hne;have q1:s.isEmpty=false:=by cases s;exact absurd rfl hne;rfl
 have HLG:=hid (fun W=>vR s W);have HB:=hid hB;clear hB hne;go_enter Tryz.func8,Tryz.ntmps8;go_wp2_with fail;refine(HLG.out _).mono ?_;rintro e w1 ⟨rfl,rfl⟩
 by_cases h9:900 < s.length
 ·have d9:decide (900 < s.length)=true:=Z9 h9;go_wp2_with fail;go_ret2;exact⟨Y4 _ _,.inl ⟨_,_,_,rfl⟩⟩
 ·have d9:decide (900 < s.length)=false:=Y9 h9;have hs3:s.length≤3000:=by omega
  have HS3:=hid hs3;have HPS:=hid (lD s w hs3 HB.out);clear h9 hs3 HLG;go_wp2_with fail;refine HPS.out.mono ?_;rintro e w2 ⟨hb2,⟨tys,a,cap,vs,hm,rfl⟩|⟨hno,g,rfl⟩⟩
  ·have HSS:=True.intro;have HM:=hid hm;have HB2:=hid hb2;have HCK:=hid (lC (hm.up (Y4 w2.heap.size w2).drew) HS3.out);obtain⟨n,hn⟩:∃n,n=tys.length:=⟨_,rfl⟩;rw[← hn]at HCK⊢;have HN:=hid hn;obtain⟨o,ho⟩:∃o,o=Tm.chk [] tys:=⟨_,rfl⟩;rw[← ho]at HCK;unfold jD at HCK;have HO:=hid ho;clear hm hb2 hn ho HPS;go_wp2_with fail;cases o with
   |none=>
    go_region_held3 (fun _=>True) (trivial)
     (first
      |(go_at_call 26;(refine HCK.out.mono ?_);(rintro e w8 ⟨hb8,rfl⟩)))
    all_goals
     have HB8:=hid (show Below w2.heap.size w2 w8 from Below.trans (Y4 _ _).drew hb8);clear hb8;go_wp2_with fail;go_ret2;refine⟨HB2.out.trans (HB8.out.mono HB2.out.size),.inr ⟨s,tys,a,cap,vs,HS3.out,HM.out.up HB8.out,HO.out.symm,?_⟩⟩;rw[← HN.out];rfl
   |some k=>
    go_region_held3 (fun _=>True) (trivial)
     (first
      |(go_at_call 26;(refine HCK.out.mono ?_);(rintro e w8 ⟨hb8,g8,p8,rfl,_⟩)))
    all_goals
     have HB8:=hid (show Below w2.heap.size w2 w8 from Below.trans (Y4 _ _).drew hb8);clear hb8;go_wp2_with fail;go_ret2;exact⟨HB2.out.trans (HB8.out.mono HB2.out.size),.inl ⟨_,_,_,rfl⟩⟩
  ·have HB2:=hid hb2;clear hno hb2 HPS;go_wp2_with fail;go_quiet (fail);go_wp2_with fail;go_ret2;exact⟨fy HB2.out _,.inl ⟨_,_,_,rfl⟩⟩
theorem Av(w:World)(hB:ll w):Calls Tryz.prog 8 #[.string (aa [])] w (nj w):=by
 have hbl:(Tm.cY Tm.ca).length≤3000:=by rw[Tm.po];omega
 have HS3:=hid hbl;have hlg:=fun W=>vR (Tm.cY Tm.ca) W
 rw[show decide (900 < (Tm.cY Tm.ca).length)=false by rw[Tm.po];rfl]at hlg;have hps:=lD (Tm.cY Tm.ca) w hbl hB;rw[Tm.nR]at hlg hps;have HLG:=hid hlg;have HPS:=hid hps;clear hlg hps hB hbl;go_enter Tryz.func8,Tryz.ntmps8;go_wp2_with fail;refine(HLG.out _).mono ?_;rintro e w1 ⟨rfl,rfl⟩;clear HLG;go_wp2_with fail;refine HPS.out.mono ?_;rintro e w2 ⟨hb2,⟨tys,a,cap,vs,hm,rfl⟩|⟨hno,g,rfl⟩⟩
 ·rw[← Tm.nR]at hm;have HM:=hid hm;have HB2:=hid hb2;have HCK:=hid (lC (hm.up (Y4 w2.heap.size w2).drew) HS3.out);obtain⟨n,hn⟩:∃n,n=tys.length:=⟨_,rfl⟩;rw[← hn]at HCK⊢;have HN:=hid hn;obtain⟨o,ho⟩:∃o,o=Tm.chk [] tys:=⟨_,rfl⟩;rw[← ho]at HCK;unfold jD at HCK;have HO:=hid ho;clear hm hb2 hn ho HPS;go_wp2_with fail;cases o with
  |none=>
   go_region_held3 (fun _=>True) (trivial)
    (first
     |(go_at_call 26;(refine HCK.out.mono ?_);(rintro e w8 ⟨hb8,rfl⟩)))
   all_goals
    have HB8:=hid (show Below w2.heap.size w2 w8 from Below.trans (Y4 _ _).drew hb8);clear hb8;go_wp2_with fail;go_ret2;refine⟨HB2.out.trans (HB8.out.mono HB2.out.size),.inr ⟨Tm.cY Tm.ca,tys,a,cap,vs,HS3.out,HM.out.up HB8.out,HO.out.symm,?_⟩⟩;rw[← HN.out];rfl
  |some k=>
   go_region_held3 (fun _=>True) (trivial)
    (first
     |(go_at_call 26;(refine HCK.out.mono ?_);(rintro e w8 ⟨hb8,g8,p8,rfl,_⟩)))
   all_goals
    have HB8:=hid (show Below w2.heap.size w2 w8 from Below.trans (Y4 _ _).drew hb8);clear hb8;go_wp2_with fail;go_ret2;exact⟨HB2.out.trans (HB8.out.mono HB2.out.size),.inl ⟨_,_,_,rfl⟩⟩
 ·have HB2:=hid hb2;clear hno hb2 HPS;go_wp2_with fail;go_quiet (fail);go_wp2_with fail;go_ret2;exact⟨fy HB2.out _,.inl ⟨_,_,_,rfl⟩⟩
theorem Ea(s:List UInt8)(w:World)(hB:ll w):Calls Tryz.prog 8 #[.string (aa s)] w (nj w):=by
 by_cases h:s=[]
 ·subst h;exact Av w hB
 ·exact Au s h w hB
namespace Ly
def fx:Nd:=⟨eS,3,0,12,0,[],qH⟩
theorem rH{tys:List Tm.Ty}(h:Tm.cy Tm.ca tys):bL (rdS cG tys.reverse) cG (fun _=>none) (cm eS) ⟨0,0⟩=some (fx,⟨12,13⟩):=by
 rw[← Bj cG (lE h)];exact xq
theorem Aw{tys:List Tm.Ty}(h:Tm.cy Tm.ca tys):aw tys eS cG=some fx:=by
 unfold aw;rw[rH h];rfl
theorem yw{tys:List Tm.Ty}(h:Tm.cy Tm.ca tys)(hF:∀t∈tys,Tm.bg t):aX (wrS tys.reverse) (cm eS) fx=some cG:=
 qG (fun t ht=>hF t (List.mem_reverse.1 ht)) (rH h) rfl
end Ly
theorem gH(w:World):Calls Tryz.prog 23 #[] w fun e w'=>e= .returned (.string (aa cG))∧w=w':=by
 go_enter Tryz.func23,Tryz.ntmps23;go_wp2_with fail;go_ret;exact⟨rfl,rfl⟩
namespace Fx
open Tm Ly
theorem rI{l m:Its}(h:eC l m):l.row=m.row:=by
 induction h with
 |nil=>rfl
 |cons hh _ ih=>
  simp only[Its.row,ih,skH];rw[hh.1,hh.2.1,hh.2.2.2,ku hh]
 |when _ _ _ _ ih=>simp only[Its.row,ih]
theorem tT(W:Wri){a b:Hd}(h:jh a b)(d:Nd):aX W a d=aX W b d:=by
 unfold aX;rw[h.1,h.2.1]
theorem rJ(W:Wri){a b:Hd}(h:jh a b)(d:Nd):aY W a d=aY W b d:=by
 unfold aY;rw[ku h,tT W h,h.2.1,show aX W a=aX W b from funext (tT W h)]
theorem tU(W:Wri){l m:Its}(h:eC l m):∀ks:Nds,aF W l ks=aF W m ks:=by
 induction h with
 |nil=>intro ks;rfl
 |cons hh _ ih=>
  intro ks;cases ks with
  |nil=>rfl
  |cons a b c d e f g r=>simp only[aF,rJ W hh,ih]
 |when hc _ _ ih1 ih2=>
  intro ks;cases ks with
  |nil=>rfl
  |cons a b c d e f g r=>simp only[aF,ih1,ih2]
theorem Ax(W:Wri){l m:Its}(h:eC l m):∀ks:Nds,texts W l ks=texts W m ks:=by
 induction h with
 |nil=>intro ks;rfl
 |cons hh _ ih=>
  intro ks;cases ks with
  |nil=>rfl
  |cons a b c d e f g r=>simp only[texts,rJ W hh,ih]
 |when hc hb _ _ ih2=>
  intro ks;cases ks with
  |nil=>rfl
  |cons a b c d e f g r=>simp only[texts,tu,tU W hb,ih2]
theorem BM{l m:List Ty}(h:cy l m):wrS l=wrS m:=by
 induction h with
 |nil=>rfl
 |@cons a b l m hh _ ih=>
  funext nm ks
  show(if a.name=nm then _ else _)=(if b.name=nm then _ else _);rw[hh.1,ih,tU _ hh.2]
theorem Ay(C:Wd→Nat)(W:Wri){l m:Its}(h:eC l m)(ks:Nds){a b:Hd}(hh:jh a b):av C W l ks a=av C W m ks b:=by
 unfold av jL;rw[rI h,Ax W h,hh.2.2.2]
theorem Eb{l m:Its}(h:eC l m):∀i,(eT l i=none∧eT m i=none)∨∃a b,eT l i=some a∧eT m i=some b∧jh a b:=by
 induction h with
 |nil=>intro i;exact .inl ⟨by cases i <;> rfl,by cases i <;> rfl⟩
 |cons hh _ ih=>
  intro i;cases i with
  |zero=>exact .inr ⟨_,_,rfl,rfl,hh⟩
  |succ i=>exact ih i
 |when _ _ _ _ ih=>
  intro i;cases i with
  |zero=>exact .inl ⟨rfl,rfl⟩
  |succ i=>exact ih i
theorem Ec(C:Wd→Nat)(W:Wri){l m:Its}(h:eC l m)(ks:Nds)(i:Nat):gK C W l ks i=gK C W m ks i:=by
 unfold gK;rcases Eb h i with⟨h1,h2⟩|⟨a,b,h1,h2,h3⟩
 ·rw[h1,h2]
 ·rw[h1,h2];simp only[];rw[Ay C W h ks h3,h3.1]
theorem oA(C:Wd→Nat)(W:Wri){l m:Its}(h:eC l m):∀(O:List Nat) (ks:Nds),eG C W l O ks=eG C W m O ks
 |[],ks=>rfl
 |i::O,ks=>by
  unfold eG;rw[Ec C W h,show eG C W l O=eG C W m O from funext (oA C W h O)]
theorem GG(B:Fxr){a b:Hd}(h:jh a b)(ks:Nds):hdF B a ks=hdF B b ks:=by
 unfold hdF;rw[h.1,ku h]
theorem yx(C:Wd→Nat)(W:Wri)(B:Fxr){l m:Its}(h:eC l m):∀ks:Nds,aO C W B l ks=aO C W B m ks:=by
 induction h with
 |nil=>intro ks;cases ks <;> rfl
 |cons hh _ ih=>
  intro ks;cases ks with
  |nil=>rfl
  |cons a b c d e f g r=>simp only[aO,GG B hh,ih]
 |when hc hb _ ih1 ih2=>
  intro ks;cases ks with
  |nil=>rfl
  |cons a b c d e f g r=>
   simp only[aO,ih1,ih2,rI hb];rw[show eG C W _ (ord _)=eG C W _ (ord _)from funext (oA C W hb _)]
theorem GH(C:Wd→Nat){l m:List Ty}(h:cy l m):dn C l=dn C m:=by
 induction h with
 |nil=>rfl
 |@cons a b l m hh hl ih=>
  funext nm ks
  show(if a.name=nm then _ else _)=(if b.name=nm then _ else _);unfold fu;rw[hh.1,ih,BM hl,yx C _ _ hh.2,rI hh.2,show eG C (wrS m) a.items (ord b.items.row)=eG C (wrS m) b.items (ord b.items.row)from funext (oA C _ hh.2 _)]
def u0:Wd:=[0,1,2,2,104,105,0,7,70,221,2,116]
def u1:Wd:=[0,1,2,2,104,105,3,97,98,99,7,84,197,30,137]
def filled:Nd:=cN (fun d=>{d with text:=[97,98,99]}) [2,1,1] fx
def rK(L:List Ty)(d:Nd)(u:Wd):Bool:=match dn bE L eS d.kids with
 |none=>false
 |some p=>match wrT L eS {d with kids:=p},rdT L eS u with
  |some v,some m=>decide (v=u)&&ec {d with kids:=p} m
  |_,_=>false
theorem yy{L:List Ty}{d:Nd}{u:Wd}(h:rK L d u=true)(hl:u.length≤4000):bH bE L eS d= .ok u:=by
 unfold rK at h;cases h1:dn bE L eS d.kids with
 |none=>rw[h1]at h;cases h
 |some p=>
  rw[h1]at h;simp only[]at h;cases h2:wrT L eS {d with kids:=p}with
  |none=>rw[h2]at h;simp at h
  |some v=>
   cases h3:rdT L eS u with
   |none=>rw[h2,h3]at h;simp at h
   |some m=>
    rw[h2,h3]at h;simp only[Bool.and_eq_true,decide_eq_true_eq]at h;obtain⟨rfl,h4⟩:=h;rw[rm h1 h2 (by omega) h3,if_pos h4]
theorem Kx:rK ca.reverse fx u0=true:=by kernel_rfl
theorem Ky:rK ca.reverse filled u1=true:=by kernel_rfl
theorem rL{l m:List Ty}(h:cy l m)(d:Nd)(u:Wd):rK l d u=rK m d u:=by
 unfold rK rdT wrT;rw[GH bE h,BM h,Bj u h]
theorem yz{tys:List Ty}(h:cy ca tys):bH bE tys.reverse eS fx= .ok u0:=yy (by rw[← rL (lE h)];exact Kx) (by decide)
theorem yA{tys:List Ty}(h:cy ca tys):bH bE tys.reverse eS filled= .ok u1:=yy (by rw[← rL (lE h)];exact Ky) (by decide)
theorem Ed:∃x,bX [2,1,1] fx=some x∧x.kind=2:=⟨_,rfl,rfl⟩
end Fx
end
end Go.Proofs.YtlomecfhobehnaaGreatDoor
