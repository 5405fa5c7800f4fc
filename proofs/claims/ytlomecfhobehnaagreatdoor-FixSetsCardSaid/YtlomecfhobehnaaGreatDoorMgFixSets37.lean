import Derived.Test.YtlomecfhobehnaaGreatDoorMgFixSets36
set_option linter.unusedVariables false
set_option linter.unusedSimpArgs false
set_option maxRecDepth 100000
set_option maxHeartbeats 2000000
namespace Go.Proofs.YtlomecfhobehnaaGreatDoor
open Lib (hid)
section
open Go Go.RowKit
open Rd
open Ly
theorem D5(U w:World)(rb cap gi oi gn on B c2:Nat)(tys:List Tm.Ty)(a g2:Option Addr)(hE:FxE U rb tys a cap)(b2:List Nat)(vs2:List Value)(cv:Value)(d:Nd)(W W':Wri)(F:Nds→Option Nds)(h:Tm.Hd)(t:Tm.Ty)(ht:t∈tys)(hk:h.k= .struct t.name)(hmany:Tm.ba h=false)(hC:vY U rb tys a cap W' F t.items)(hU:Below U.heap.size U w)(hrow:ad U gi oi 70 (Tm.ag h cv))
  (hn:ad w gn on 28 (ae d.name d.kind d.at_ d.size d.val d.text (.slice g2 d.kids.len c2)))(hK:aQ w B d.kids g2 c2 b2 vs2)(hB:U.heap.size≤B)(hgn:gn∉aU g2++b2)(hok:d.kids.ok)(htot:d.kids.tot≤800000)(hw:(aH W' t.items d.kids).isSome=true):
  Calls Tryz.prog 97 #[.agg #[.slice a tys.length cap],.pointer (some ⟨gi,oi,none⟩),.pointer (some ⟨gn,on,none⟩)] w (ef w B g2 c2 b2 (F d.kids)):=by
 obtain⟨n,hnn⟩:∃n,n=tys.length:=⟨_,rfl⟩;obtain⟨m,hm⟩:∃m,m=d.kids.len:=⟨_,rfl⟩;obtain⟨mb,hmb⟩:∃mb,mb=t.items.len:=⟨_,rfl⟩;obtain⟨V1,hV1⟩:∃V1,V1=w.alloc (.cells #[.slice a n cap] 75):=⟨_,rfl⟩;have hb1:Below w.heap.size w V1:=by rw[hV1];exact(Y4 _ _).alloc (Z5 _) _
 have hr0:ad V1 w.heap.size 0 75 [.slice a n cap]:=by rw[hV1];exact ad.new w _ _
 have hr1:=(hrow.below hU hrow.lt).below hb1 (Nat.lt_of_lt_of_le hrow.lt hU.size);have hn1:=hn.below hb1 hn.lt;have c0:=hr1.cell 0 (by simp[Tm.aj]);have c7:=hr1.cell 7 (by simp[Tm.aj]);simp only[Tm.ag,hk,hmany,Tm.aI,Z0,Z1,Y2]at c0 c7;rw[hV1]at c0 c7;have hmem:=hK.mem;have hgiB:gi < U.heap.size:=hrow.lt;have hgnw:gn < w.heap.size:=hn.lt;have hSS:∀X,Mut V1 X (aU g2++b2)→X.cell? ⟨w.heap.size,0,none⟩=some (.slice a n cap)∧X.cell? ⟨gi,oi+3,none⟩=some (.string (aa t.name))∧X.cell? ⟨gn,on+6,none⟩=some (.slice g2 m c2):=by
  intro X hX;have k0:=(hr0.of_heap (hX.block w.heap.size hr0.lt (fun hm=>by have:=hmem _ hm;omega))).cell0 0 (by simp);have k1:=(hr1.of_heap (hX.block gi hr1.lt (fun hm=>by have:=hmem _ hm;omega))).cell 3 (by simp[Tm.aj]);have k2:=(hn1.of_heap (hX.block gn hn1.lt hgn)).cell 6 (by simp[ae]);simp only[Tm.ag,hk,Tm.bu,ae,Z0,Z1]at k0 k1 k2;rw[hm];exact⟨k0,k1,k2⟩
 have HSS:=hid hSS;have HIT:Hid (∀X,Below V1.heap.size V1 X→Calls Tryz.prog 71 #[.agg #[.slice a n cap],.string (aa t.name)] X fun e w'=>Below X.heap.size X w'∧∃ga capb bs,e= .returned (.slice ga mb capb)∧an U (rb+1) 70 13 ga mb capb bs∧Tm.bp U rb t.items bs):=hid (fun X hX=>by
  have hwX:=hb1.trans (hX.mono hb1.size);rw[hnn,hmb];exact j8 hE ht X (hU.trans (hwX.mono hU.size)))
 have HBK:Hid (∀X ga capb bs,Below V1.heap.size V1 X→an U (rb+1) 70 13 ga mb capb bs→Tm.bp U rb t.items bs→Calls Tryz.prog 70 #[.agg #[.slice a n cap],.slice ga mb capb,.slice g2 m c2] X (ef X B g2 c2 b2 (F d.kids))):=hid (fun X ga capb bs hX h1 h2=>by
  have hwX:=hb1.trans (hX.mono hb1.size);rw[hmb]at h1⊢;rw[hnn,hm];exact hC X B c2 capb ga g2 bs vs2 b2 d.kids (hU.trans (hwX.mono hU.size)) h1 h2 (hK.al fun b _ hl=>hwX.block b hl) hB hok htot hw)
 have hS1:=hSS V1.drew (Mut.az (Y4 _ _).drew);rw[hV1]at hS1;have HV1:=hid hV1;have HB1:=hid hb1;rw[← hnn];obtain⟨fk,hfk⟩:∃fk,fk=F d.kids:=⟨_,rfl⟩;rw[← hfk]at HBK⊢;obtain⟨tn,htn⟩:∃tn,tn=t.name:=⟨_,rfl⟩;rw[← htn]at HIT hS1 HSS;clear hC hU hrow hn hK hB hgn hok htot hw hb1 hr0 hr1 hn1 hSS hV1 hmem hgiB hgnw hm hmb hnn hfk hk hmany ht hE htn;go_enter Tryz.func97,Tryz.ntmps97;go_wp2_with fail;rw[← HV1.out]at hS1;rw[← HV1.out];go_region_held3 (fun X=>X.cell? ⟨w.heap.size,0,none⟩=some (.slice a n cap)∧X.cell? ⟨gi,oi+3,none⟩=some (.string (aa tn))∧X.cell? ⟨gn,on+6,none⟩=some (.slice g2 m c2))
  (first
   |exact hS1
   |assumption)
  (first
   |(go_at_call 71;(with_reducible refine(HIT.out _ ?_).mono ?_);(next=>exact(Y4 V1.heap.size V1).drew);(rintro e w2 ⟨hb2,ga,capb,bs,rfl,ho2,he2⟩);(have HB2:=hid (Below.trans (Y4 V1.heap.size V1).drew hb2));(have HOE:=hid (And.intro ho2 he2));(have hS2:=HSS.out w2 (Mut.az HB2.out)))
   |(go_at_call 70;(with_reducible refine(HBK.out _ ga capb bs HB2.out HOE.out.1 HOE.out.2).mono ?_);(rintro e w5 ⟨hm5,v,rfl,hv5⟩);(have HM5:=hid (Mut.trans (Mut.az HB2.out) hm5));(have HV5:=hid hv5);(have hS5:=HSS.out w5 HM5.out)))
 all_goals
  go_wp2_with fail;go_ret;exact⟨(Mut.az HB1.out).trans HM5.out,v,rfl,HV5.out⟩
structure EaS(V1 wr:World)(B:Nat)(g2:Option Addr)(c2 m k:Nat)(b2:List Nat)(vs2:List Value)(f:Nds→Option Nds)(kids q r:Nds)(W:Wri)(h:Tm.Hd):Prop where
 mu:Mut V1 wr b2
 own:an wr B 28 7 g2 m c2 vs2
 enc:aW wr B (q.app r) b2 vs2
 D6:q.len=k
 len:q.len+r.len=m
 rest:Fx.wj f q r=Fx.dD f kids
 wrt:(cO (aY W h) r).isSome=true
 ok:r.ok
 tot:r.tot≤800000
theorem D7{g:Nd→Option Tm.Wd}{d:Nd}{r:Nds}(h:(cO g (d.put r)).isSome=true):(g d).isSome=true∧(cO g r).isSome=true:=by
 have h2:((g d).bind fun u=>(cO g r).map (u++ ·)).isSome=true:=h;cases h3:g d with
 |none=>rw[h3]at h2;cases h2
 |some u=>
  cases h4:cO g r with
  |none=>rw[h3,h4]at h2;cases h2
  |some v=>exact⟨rfl,rfl⟩
theorem EaS.step{V1 wr:World}{B c2 m k gb:Nat}{b2:List Nat}{vs2:List Value}{f:Nds→Option Nds}{kids q r:Nds}{W:Wri}{h:Tm.Hd}(hs:EaS V1 wr B (some ⟨gb,0,none⟩) c2 m k b2 vs2 f kids q r W h)(hnd:([gb]++b2).Nodup)(hlen:∀ks p,f ks=some p→p.len=ks.len)(hk:k < m):
  ∃(d:Nd) (r':Nds) (g3:Option Addr) (c3:Nat) (b3:List Nat) (vs3:List Value),r=d.put r'∧aQ wr B d.kids g3 c3 b3 vs3∧(∀x∈aU g3++b3,x∈b2)∧ad wr gb (k * 7) 28 (ae d.name d.kind d.at_ d.size d.val d.text (.slice g3 d.kids.len c3))∧(aY W h d).isSome=true∧d.kids.ok∧d.kids.tot≤800000∧
   (f d.kids=none→Fx.dD f kids=none)∧∀(w5:World) (p:Nds) (vs3':List Value),f d.kids=some p→Mut wr w5 (aU g3++b3)→aQ w5 B p g3 c3 b3 vs3'→EaS V1 w5 B (some ⟨gb,0,none⟩) c2 m (k+1) b2 vs2 f kids (q.app (Nd.put {d with kids:=p} .nil)) r' W h:=by
 obtain⟨e1,e2,e3,rfl,e5,e6,e7,e8,e9⟩:=hs;cases r with
 |nil=>exact absurd hk (by have:Nds.nil.len=0:=rfl;omega)
 |cons nm kd a sz v tx ks r'=>
  have hn2:=List.nodup_append.1 hnd;obtain⟨g3,c3,b3,vs3,i1,i2,i3,i4⟩:=aW.focus q ⟨nm,kd,a,sz,v,tx,ks⟩ r' b2 vs2 e3 hn2.2.1;have hrow:=e2.row.2.2.2.2.part (q.len * 7) 7;rw[Nat.zero_add,i3]at hrow;obtain⟨w1,w2⟩:=D7 (d:=⟨nm,kd,a,sz,v,tx,ks⟩) e7;have ht:=fI ⟨nm,kd,a,sz,v,tx,ks⟩ r';have ht2:(Nds.cons nm kd a sz v tx ks r').tot=(Nd.tot ⟨nm,kd,a,sz,v,tx,ks⟩)+r'.tot:=ht;have ht3:ks.tot≤Nd.tot ⟨nm,kd,a,sz,v,tx,ks⟩:=by unfold Nd.tot;simp only[];omega
  refine⟨⟨nm,kd,a,sz,v,tx,ks⟩,r',g3,c3,b3,vs3,rfl,i1,i2,hrow,w1,e8.2.1,by simp only[];omega,fun hf=> ?_,fun w5 p vs3' hf hm hk5=> ?_⟩
  ·rw[← e6];exact Fx.yW (d:=⟨nm,kd,a,sz,v,tx,ks⟩) hf
  ·have hpl:p.len=ks.len:=hlen _ _ hf;refine⟨e1.trans (hm.mono i2),e2.al fun x hx=>hm.block _ (e2.gI x hx) (fun hb=> ?_),?_,?_,?_,?_,w2,e8.2.2,by omega⟩
   ·cases hx;exact hn2.2.2 gb (by simp) gb (i2 _ hb) rfl
   ·rw[Nds.dF];exact i4 w5 p vs3' hm hpl hk5
   ·rw[Nds.cX];rfl
   ·rw[Nds.cX];have:(Nds.cons nm kd a sz v tx ks r').len=r'.len+1:=rfl;show q.len+1+r'.len=m;omega
   ·rw[← e6];exact(Fx.yX (d:=⟨nm,kd,a,sz,v,tx,ks⟩) hf).symm
theorem yY(U w:World)(rb cap gi oi gn on B c2:Nat)(tys:List Tm.Ty)(a g2:Option Addr)(hE:FxE U rb tys a cap)(b2:List Nat)(vs2:List Value)(cv:Value)(d:Nd)(W W':Wri)(F:Nds→Option Nds)(h:Tm.Hd)(t:Tm.Ty)(ht:t∈tys)(hk:h.k= .struct t.name)(hmany:Tm.ba h=true)(hWW:∀ks,W t.name ks=aH W' t.items ks)(hC:vY U rb tys a cap W' F t.items)(hU:Below U.heap.size U w)(hrow:ad U gi oi 70 (Tm.ag h cv))
  (hlF:∀ks p,F ks=some p→p.len=ks.len)(hn:ad w gn on 28 (ae d.name d.kind d.at_ d.size d.val d.text (.slice g2 d.kids.len c2)))(hK:aQ w B d.kids g2 c2 b2 vs2)(hB:U.heap.size≤B)(hgn:gn∉aU g2++b2)(hok:d.kids.ok)(htot:d.kids.tot≤800000)(hw:(cO (aY W h) d.kids).isSome=true):
  Calls Tryz.prog 97 #[.agg #[.slice a tys.length cap],.pointer (some ⟨gi,oi,none⟩),.pointer (some ⟨gn,on,none⟩)] w (ef w B g2 c2 b2 (Fx.dD F d.kids)):=by
 obtain⟨n,hnn⟩:∃n,n=tys.length:=⟨_,rfl⟩;obtain⟨m,hm⟩:∃m,m=d.kids.len:=⟨_,rfl⟩;obtain⟨mb,hmb⟩:∃mb,mb=t.items.len:=⟨_,rfl⟩;have hm2:m≤100000:=by have:=j6 d.kids;omega
 have hcap:m≤c2:=by rw[hm];exact aT hK.own
 obtain⟨V1,hV1⟩:∃V1,V1=w.alloc (.cells #[.slice a n cap] 75):=⟨_,rfl⟩;have hb1:Below w.heap.size w V1:=by rw[hV1];exact(Y4 _ _).alloc (Z5 _) _
 have hr0:ad V1 w.heap.size 0 75 [.slice a n cap]:=by rw[hV1];exact ad.new w _ _
 have hr1:=(hrow.below hU hrow.lt).below hb1 (Nat.lt_of_lt_of_le hrow.lt hU.size);have hn1:=hn.below hb1 hn.lt;have c0:=hr1.cell 0 (by simp[Tm.aj]);have c7:=hr1.cell 7 (by simp[Tm.aj]);have d6:=hn1.cell 6 (by simp[ae]);simp only[Tm.ag,hk,hmany,Tm.aI,ae,Z0,Z1,Y2]at c0 c7 d6;rw[hV1]at c0 c7 d6;rw[← hm]at d6;have hmem:=hK.mem;have hgiB:gi < U.heap.size:=hrow.lt;have hgnw:gn < w.heap.size:=hn.lt;have hSS:∀X,Mut V1 X b2→X.cell? ⟨w.heap.size,0,none⟩=some (.slice a n cap)∧X.cell? ⟨gi,oi+3,none⟩=some (.string (aa t.name))∧X.cell? ⟨gn,on+6,none⟩=some (.slice g2 m c2):=by
  intro X hX;have hmb:∀x∈b2,x∈aU g2++b2:=fun x hx=>List.mem_append_right _ hx
  have k0:=(hr0.of_heap (hX.block w.heap.size hr0.lt (fun hm=>by have:=hmem _ (hmb _ hm);omega))).cell0 0 (by simp);have k1:=(hr1.of_heap (hX.block gi hr1.lt (fun hm=>by have:=hmem _ (hmb _ hm);omega))).cell 3 (by simp[Tm.aj]);have k2:=(hn1.of_heap (hX.block gn hn1.lt (fun hm=>hgn (hmb _ hm)))).cell 6 (by simp[ae]);simp only[Tm.ag,hk,Tm.bu,ae,Z0,Z1]at k0 k1 k2;rw[hm];exact⟨k0,k1,k2⟩
 have HSS:=hid hSS;have HIT:Hid (∀X,Mut V1 X b2→Calls Tryz.prog 71 #[.agg #[.slice a n cap],.string (aa t.name)] X fun e w'=>Below X.heap.size X w'∧∃ga capb bs,e= .returned (.slice ga mb capb)∧an U (rb+1) 70 13 ga mb capb bs∧Tm.bp U rb t.items bs):=hid (fun X hX=>by
  have hUX:Below U.heap.size U X:=(hX.below (hU.trans (hb1.mono hU.size)) (Nat.le_trans hU.size hb1.size) (fun b hb=>by have:=(hmem b (List.mem_append_right _ hb)).1;omega));rw[hnn,hmb];exact j8 hE ht X hUX)
 have HBK:Hid (∀X ga capb bs (d':Nd) g3 c3 b3 vs3 m3,m3=d'.kids.len→Mut V1 X b2→an U (rb+1) 70 13 ga mb capb bs→Tm.bp U rb t.items bs→aQ X B d'.kids g3 c3 b3 vs3→d'.kids.ok→d'.kids.tot≤800000→(aY W h d').isSome=true→Calls Tryz.prog 70 #[.agg #[.slice a n cap],.slice ga mb capb,.slice g3 m3 c3] X (ef X B g3 c3 b3 (F d'.kids))):=hid (fun X ga capb bs d' g3 c3 b3 vs3 m3 hm3 hX h1 h2 hk3 ho3 ht3 hw3=>by
  have hUX:Below U.heap.size U X:=(hX.below (hU.trans (hb1.mono hU.size)) (Nat.le_trans hU.size hb1.size) (fun b hb=>by have:=(hmem b (List.mem_append_right _ hb)).1;omega));rw[hmb]at h1⊢;rw[hnn,hm3];exact hC X B c3 capb ga g3 bs vs3 b3 d'.kids hUX h1 h2 hk3 hB ho3 ht3 (by rw[← hWW];exact Fx.bt hk hw3))
 have hE0:EaS V1 V1 B g2 c2 m 0 b2 vs2 F d.kids .nil d.kids W h:=by
  have hkv:=hK.al (w':=V1) fun b _ hl=>hb1.block b hl
  refine⟨Mut.refl _ _,by rw[hm];exact hkv.own,hkv.enc,rfl,by rw[hm];show 0+_=_;omega,?_,hw,hok,htot⟩;unfold Fx.wj;cases Fx.dD F d.kids <;> rfl
 have HE0:=hid hE0;have HND:=hid hK.nodup;have HLF:=hid hlF;have HV1:=hid hV1;have HB1:=hid hb1;rw[← hnn];obtain⟨ek,hek⟩:∃ek,ek=Fx.dD F d.kids:=⟨_,rfl⟩;rw[← hek];have HEK:=hid hek;obtain⟨tn,htn⟩:∃tn,tn=t.name:=⟨_,rfl⟩;rw[← htn]at HIT HSS;clear hC hU hrow hn hK hB hgn hok htot hw hb1 hr0 hr1 hn1 hSS hV1 hmem hgiB hgnw hm hmb hnn hek hk hmany ht hE htn hlF hE0 hWW;go_enter Tryz.func97,Tryz.ntmps97;go_wp2_with fail;rw[← HV1.out];go_loopw [61] (fun v61 wr=>∃(k:Nat) (q r:Nds),v61= .int .i64 k∧k≤m∧Hid (EaS V1 wr B g2 c2 m k b2 vs2 F d.kids q r W h)) (fun v61 _=>m - (intOf v61).toNat)
 case atStart=>exact⟨0,.nil,d.kids,rfl,Nat.zero_le _,HE0⟩
 case round=>
  clear c0 c7 d6;obtain⟨k,q,r,rfl,hkm,HEA⟩:=hrel
  by_cases hlt:k < m
  ·have hki:(k:Int) < (m:Int):=by omega
   have q1:decide ((k:Int) < (m:Int))=true:=Z9 hki;have q2:decide (k < m)=true:=Z9 hlt;obtain⟨x,rfl⟩:∃x,g2=some x:=by
    cases g2 with
    |none=>have:=HEA.out.own.aO.1;omega
    |some x=>exact⟨x,rfl⟩
   obtain⟨gb,rfl⟩:∃gb,x=⟨gb,0,none⟩:=⟨x.block,HEA.out.own.row.1⟩;obtain⟨⟨nm,kd,at_,sz,val,tx,ks⟩,r',g3,c3,b3,vs3,hr,hk3,hsub,hrow3,hw3,ho3,ht3,hnone,hstep⟩:=HEA.out.step HND.out HLF.out hlt;simp only[]at hk3 hrow3 ho3 ht3 hnone hstep;obtain⟨m3,hm3⟩:∃m3,m3=ks.len:=⟨_,rfl⟩;rw[← hm3]at hrow3;have hne:gb∉b2:=fun hb=>(List.nodup_append.1 HND.out).2.2 gb (by simp[aU]) gb hb rfl
   have HS3:Hid (∀X,Mut wr X b2→X.cell? ⟨w.heap.size,0,none⟩=some (.slice a n cap)∧X.cell? ⟨gi,oi+3,none⟩=some (.string (aa tn))∧X.cell? ⟨gn,on+6,none⟩=some (.slice (some ⟨gb,0,none⟩) m c2)∧X.cell? ⟨gb,k * 7+6,none⟩=some (.slice g3 m3 c3)):=hid (fun X hX=>by
    obtain⟨x1,x2,x3⟩:=HSS.out X (HEA.out.mu.trans hX);have x4:=(hrow3.of_heap (hX.block gb hrow3.lt hne)).cell 6 (by simp[ae]);simp only[ae,Z0,Z1]at x4;exact⟨x1,x2,x3,x4⟩)
   have HBK3:Hid (∀X ga capb bs,Below wr.heap.size wr X→an U (rb+1) 70 13 ga mb capb bs→Tm.bp U rb t.items bs→Calls Tryz.prog 70 #[.agg #[.slice a n cap],.slice ga mb capb,.slice g3 m3 c3] X (ef X B g3 c3 b3 (F ks))):=hid (fun X ga capb bs hX h1 h2=>HBK.out X ga capb bs ⟨nm,kd,at_,sz,val,tx,ks⟩ g3 c3 b3 vs3 m3 hm3 (HEA.out.mu.trans (Mut.az hX)) h1 h2 (hk3.al fun b _ hl=>hX.block b hl) ho3 ht3 hw3);have HIT3:=hid (fun X (hX:Below wr.heap.size wr X)=>HIT.out X (HEA.out.mu.trans (Mut.az hX)));have HSUB:=hid hsub;have HNONE:=hid hnone;have HSTEP:=hid hstep;obtain⟨fo,hfo⟩:∃fo,fo=F ks:=⟨_,rfl⟩;rw[← hfo]at HBK3 HNONE;have HFO:=hid hfo;have hS1:=HS3.out wr.drew (Mut.az (Y4 wr.heap.size wr).drew);have HLT:=hid hlt;clear hr hk3 hsub hrow3 hw3 ho3 ht3 hnone hstep hm3 hne hfo hlt;go_wp2_with fail;go_region_held3 (fun X=>X.cell? ⟨w.heap.size,0,none⟩=some (.slice a n cap)∧X.cell? ⟨gi,oi+3,none⟩=some (.string (aa tn))∧X.cell? ⟨gn,on+6,none⟩=some (.slice (some ⟨gb,0,none⟩) m c2)∧X.cell? ⟨gb,k * 7+6,none⟩=some (.slice g3 m3 c3))
    (first
     |exact hS1
     |assumption)
    (first
     |(go_at_call 71;(with_reducible refine(HIT3.out _ ?_).mono ?_);(next=>exact(Y4 wr.heap.size wr).drew);(rintro e w2 ⟨hb2,ga,capb,bs,rfl,ho2,he2⟩);(have HB2:=hid (Below.trans (Y4 wr.heap.size wr).drew hb2));(have HOE:=hid (And.intro ho2 he2));(have hS2:=HS3.out w2 (Mut.az HB2.out)))
     |(go_at_call 70;(with_reducible refine(HBK3.out _ ga capb bs HB2.out HOE.out.1 HOE.out.2).mono ?_);(rintro e w5 ⟨hm5,v,rfl,hv5⟩);(have HM5:=hid (Mut.trans (Mut.az HB2.out) hm5));(have HV5:=hid hv5);(have hS5:=HS3.out w5 (HM5.out.mono HSUB.out))))
   all_goals
    have hv5:=HV5.out;unfold FF at hv5;cases fo with
    |none=>
     simp only[]at hv5;subst hv5;go_wp2_with fail;go_ret;refine⟨((Mut.az HB1.out).trans ((HEA.out.mu.trans (HM5.out.mono HSUB.out)).mono fun x hx=>List.mem_append_right _ hx)),_,rfl,?_⟩;rw[HEK.out,HNONE.out (by trivial)];rfl
    |some p=>
     simp only[]at hv5;obtain⟨rfl,vs5,hk5⟩:=hv5;have HNX:=hid (HSTEP.out w5 p vs5 HFO.out.symm HM5.out hk5);clear hk5;go_wp2_with fail;go_roundw
     case rel=>exact⟨k+1,_,r',by first|rfl|rw[ay HLT.out hm2],by have:=HLT.out;omega,HNX⟩
     case measure=>(try rw[ay HLT.out hm2]);simp only[intOf];have:=HLT.out;omega
  ·obtain rfl:k=m:=by omega
   have hd:decide ((k:Int) < (k:Int))=false:=by simp
   have hd2:decide (k < k)=false:=by simp
   have hr0:r= .nil:=by
    have h1:=HEA.out.len;have h2:=HEA.out.D6;cases r with
    |nil=>rfl
    |cons=>exfalso;simp only[Nds.len]at h1;omega
   subst hr0;have HQ:=hid (show ek=some q by
    rw[HEK.out,← HEA.out.rest];show some (q.app .nil)=some q;rw[Nds.eT])
   go_wp2_with fail;go_ret;refine⟨((Mut.az HB1.out).trans (HEA.out.mu.mono fun x hx=>List.mem_append_right _ hx)),_,rfl,?_⟩;rw[HQ.out];refine⟨rfl,vs2,?_,?_,HND.out⟩
   ·rw[HEA.out.D6];exact HEA.out.own
   ·have:=HEA.out.enc;rw[Nds.eT]at this;exact this
end
section
open Go.RowKit
structure gq where
 w:Nat
 p:Nat
 t:Bool
 i:Nat
 o:Nat
structure gq.Ok(m:gq):Prop where
 w:m.w=8∨m.w=16∨m.w=32
 p:m.p < 2 ^ m.w
 odd:m.p % 2=1
 i:m.i < 2 ^ m.w
 o:m.o < 2 ^ m.w
def dI(n:Nat):Nat→Nat
 |0=>0
 |k+1=>dI n k * 2+n / 2 ^ k % 2
def mi(w p r:Nat):Nat:=(r * 2 % 2 ^ w)^^^(p * (r / 2 ^ (w - 1) % 2))
def iX(w p r:Nat):Nat→Nat
 |0=>r
 |k+1=>mi w p (iX w p r k)
def cOf(m:gq)(c:Nat):Nat:=if m.t then dI c 8 else c
def su(m:gq)(r c:Nat):Nat:=iX m.w m.p (r^^^cOf m c * 2 ^ (m.w - 8)) 8
def kD(m:gq)(r:Nat):List UInt8→Nat
 |[]=>r
 |c::l=>kD m (su m r c.toNat) l
def D8(m:gq)(r:Nat):Nat:=(if m.t then dI r m.w else r)^^^m.o
def ofN(m:gq)(l:List UInt8):Nat:=D8 m (kD m m.i l)
theorem ir(n k:Nat):dI n k < 2 ^ k:=by
 induction k with
 |zero=>simp[dI]
 |succ k ih=>have:n / 2 ^ k % 2 < 2:=Nat.mod_lt _ (by decide);rw[dI,Nat.pow_succ];omega
theorem yZ(m:gq)(l:List UInt8)(c:UInt8):∀r,kD m r (l++[c])=su m (kD m r l) c.toNat:=by
 induction l with
 |nil=>intro r;rfl
 |cons x l ih=>intro r;exact ih _
theorem za(m:gq)(r:Nat)(l:List UInt8)(k:Nat)(h:k < l.length):kD m r (l.take (k+1))=su m (kD m r (l.take k)) (l.getD k 0).toNat:=by
 rw[List.take_succ_eq_append_getElem h,yZ,List.getD_eq_getElem?_getD,Y1 h];rfl
theorem qk(w p r:Nat)(hp:p < 2 ^ w):mi w p r < 2 ^ w:=by
 unfold mi;apply Nat.xor_lt_two_pow (Nat.mod_lt _ (Nat.pow_pos (by decide)));have:r / 2 ^ (w - 1) % 2 < 2:=Nat.mod_lt _ (by decide);generalize r / 2 ^ (w - 1) % 2=b at *
 obtain rfl|rfl:b=0∨b=1:=by omega
 ·simpa using Nat.pow_pos (by decide)
 ·simpa using hp
theorem wA(w p r k:Nat)(hp:p < 2 ^ w)(hr:r < 2 ^ w):iX w p r k < 2 ^ w:=by
 cases k with
 |zero=>exact hr
 |succ k=>exact qk _ _ _ hp
theorem GR(m:gq)(c:Nat)(hc:c < 256):cOf m c < 256:=by
 unfold cOf;split
 ·exact ir c 8
 ·exact hc
theorem tM(m:gq)(h:m.Ok)(c:Nat)(hc:c < 256):cOf m c * 2 ^ (m.w - 8) < 2 ^ m.w:=by
 have h1:=GR m c hc;have e:2 ^ m.w=256 * 2 ^ (m.w - 8):=by
  rw[show(256:Nat)=2 ^ 8 from rfl,← Nat.pow_add];congr 1;have:=h.w;omega
 rw[e];exact Nat.mul_lt_mul_of_pos_right h1 (Nat.pow_pos (by decide))
theorem D9(m:gq)(h:m.Ok)(r c:Nat)(hr:r < 2 ^ m.w)(hc:c < 256):su m r c < 2 ^ m.w:=
 wA _ _ _ _ h.p (Nat.xor_lt_two_pow hr (tM m h c hc))
theorem ql(m:gq)(h:m.Ok):∀l r,r < 2 ^ m.w→kD m r l < 2 ^ m.w
 |[],r,hr=>hr
 |c::l,r,hr=>ql m h l _ (D9 m h r _ hr (UInt8.toNat_lt _))
theorem FN(m:gq)(h:m.Ok)(r:Nat)(hr:r < 2 ^ m.w):D8 m r < 2 ^ m.w:=by
 unfold D8;apply Nat.xor_lt_two_pow _ h.o;split
 ·exact ir _ _
 ·exact hr
theorem GS(m:gq)(h:m.Ok):2 ^ m.w≤4294967296:=by
 rcases h.w with e|e|e <;> rw[e] <;> decide
theorem nA(x:Nat)(hx:x < 4294967296):bits .and .u32 (x:Int) 1=((x % 2:Nat):Int):=by
 have:=u32_and_nat x 1 hx (by decide);rw[nat_mask1]at this;exact this
theorem Cf(n t k:Nat)(ht:t < 2 ^ k)(hk:k < 32)(hn:n < 4294967296)(hT:dI n k=t):
  bits .or .u32 (IntKind.u32.wrap ((t:Int) * 2)) (bits .and .u32 ((n / 2 ^ k:Nat):Int) 1)=((dI n (k+1):Nat):Int):=by
 have h1:n / 2 ^ k≤n:=Nat.div_le_self _ _;have h2:2 ^ k≤2 ^ 31:=Nat.pow_le_pow_right (by decide) (by omega);have e:((t:Int) * 2)=((t * 2:Nat):Int):=by simp
 rw[nA _ (by omega),e,IntWalk.u32_in _ ⟨by omega,by omega⟩,u32_or_nat _ _ (by omega) (by omega),nat_join 1 _ _ (by simp) (by omega),dI,hT]
theorem Cg(n k:Nat):((n / 2 ^ k:Nat):Int) / 2=((n / 2 ^ (k+1):Nat):Int):=by
 rw[Nat.pow_succ,← Nat.div_div_eq_div_mul];simp
theorem FO(r c k:Nat)(hr:r < 4294967296)(h:c * 2 ^ k < 4294967296):
  bits .xor .u32 (r:Int) ((c:Int) * 2 ^ k % 4294967296)=((r^^^c * 2 ^ k:Nat):Int):=by
 have e:((c:Int) * 2 ^ k % 4294967296)=((c * 2 ^ k:Nat):Int):=by
  rw[show((c:Int) * 2 ^ k)=((c * 2 ^ k:Nat):Int)from by simp];omega
 rw[e,u32_xor_nat _ _ hr h]
theorem wC(r k:Nat)(hr:r < 4294967296):bits .and .u32 ((r:Int) / 2 ^ k) 1=((r / 2 ^ k % 2:Nat):Int):=by
 have h:r / 2 ^ k≤r:=Nat.div_le_self _ _;rw[show((r:Int) / 2 ^ k)=((r / 2 ^ k:Nat):Int)from by simp];exact nA _ (by omega)
theorem sw(w p r x:Nat)(hw:w=8∨w=16∨w=32)(hp:p < 2 ^ w)(hr:r < 2 ^ w)(hx:r / 2 ^ (w - 1) % 2=x):
  bits .and .u32 (IntKind.u32.wrap ((r:Int) * 2)) ((2 ^ w - 1:Nat):Int)=((r * 2 % 2 ^ w:Nat):Int)∧IntKind.u32.wrap ((p:Int) * (x:Int))=((p * x:Nat):Int)∧
  bits .xor .u32 ((r * 2 % 2 ^ w:Nat):Int) ((p * x:Nat):Int)=((mi w p r:Nat):Int):=by
 have hl:2 ^ w≤4294967296:=by rcases hw with e|e|e <;> rw[e] <;> decide
 have h0:0 < 2 ^ w:=Nat.pow_pos (by decide);have hx2:x < 2:=by rw[← hx];exact Nat.mod_lt _ (by decide)
 have hpx:p * x≤p * 1:=Nat.mul_le_mul_left _ (by omega);have hm:r * 2 % 2 ^ w < 2 ^ w:=Nat.mod_lt _ h0;refine⟨?_,?_,?_⟩
 ·have e:IntKind.u32.wrap ((r:Int) * 2)=((r * 2 % 4294967296:Nat):Int):=by rw[IntKind.wrap_u32'];omega
  rw[e,u32_and_nat _ _ (Nat.mod_lt _ (by decide)) (by omega),Nat.and_two_pow_sub_one_eq_mod]
  congr 1
  rw[show(4294967296:Nat)=2 ^ 32 from rfl,show 2 ^ 32=2 ^ w * 2 ^ (32 - w)from by rw[← Nat.pow_add];congr 1;omega];exact Nat.mod_mul_right_mod _ _ _
 ·rw[← Int.natCast_mul];exact IntWalk.u32_in _ ⟨by omega,by omega⟩
 ·rw[u32_xor_nat _ _ (by omega) (by omega),mi,hx]
theorem qm(n wd:Nat)(w:World)(hn:n < 4294967296)(hw:wd≤32):
  Calls Tryz.prog 153 #[.int .u32 n,.int .i64 wd] w fun e w'=>e= .returned (.int .u32 (dI n wd:Nat))∧w=w':=by
 go_enter Tryz.func153,Tryz.ntmps153;go_wp2_with fail;go_loop [0,5,7] (fun v t i=>∃k:Nat,k≤wd∧i= .int .i64 k∧t= .int .u32 (dI n k:Nat)∧v= .int .u32 (n / 2 ^ k:Nat)) (fun v t i=>wd - (intOf i).toNat)
 case atStart=>exact⟨0,by omega,rfl,rfl,by simp⟩
 case round=>
  obtain⟨k,hk,rfl,rfl,rfl⟩:=hrel;have ht:=ir n k;generalize hT:dI n k=t at *
  have HT:=hid hT;clear hT
  by_cases hlt:k < wd
  ·have hst:=Cf n t k ht (by omega) hn HT.out;have hhf:=Cg n k;have hq:n / 2 ^ k≤n:=Nat.div_le_self _ _;generalize n / 2 ^ k=q at *
   generalize hq2:n / 2 ^ (k+1)=q2 at *
   have HQ2:=hid hq2;clear hq2;have HST:=hid hst;clear hst;go_wp2_with fail;go_round
   case rel=>exact⟨k+1,by omega,by go_num,by rw[← HST.out,IntKind.wrap_u32'],by rw[HQ2.out]⟩
   case measure=>simp[intOf];omega
  ·obtain rfl:k=wd:=by omega
   go_wp2_with fail;go_ret;exact⟨by rw[HT.out];rfl,rfl⟩
theorem wD(wd:Nat)(w:World)(hw:wd=8∨wd=16∨wd=32):
  Calls Tryz.prog 154 #[.int .i64 wd] w fun e w'=>e= .returned (.int .u32 (2 ^ wd - 1:Nat))∧w=w':=by
 rcases hw with rfl|rfl|rfl
 all_goals
  go_enter Tryz.func154,Tryz.ntmps154;go_wp2_with fail;go_ret;exact⟨rfl,rfl⟩
def bh(m:gq):Array Value:= #[.int .i64 (m.w:Nat),.int .u32 (m.p:Nat),.bool m.t,.int .u32 (m.i:Nat),.int .u32 (m.o:Nat)]
def jB(m:gq):Value:= .agg (bh m)
theorem D'(m:gq)(r c:Nat)(w:World)(hm:m.Ok)(hr:r < 2 ^ m.w)(hc:c < 256):
  Calls Tryz.prog 144 #[jB m,.int .u32 r,.int .u8 c] w fun e w'=>e= .returned (.int .u32 (su m r c:Nat))∧Below w.heap.size w w':=by
 rcases m with⟨wd,p,t,ini,o⟩
 obtain⟨hw,hp,hodd,hi,ho⟩:=hm;simp only at hw hp hodd hi ho hr;have hwl:2 ^ wd≤4294967296:=by rcases hw with e|e|e <;> rw[e] <;> decide
 have hk8:=wA wd p;have key:∀(t:Bool) (c':Nat),c' < 256→(t=false→c'=c)→(t=true→dI c 8=c')→
   Calls Tryz.prog 144 #[.agg #[.int .i64 wd,.int .u32 p,.bool t,.int .u32 ini,.int .u32 o],.int .u32 r,.int .u8 c] w fun e w'=>e= .returned (.int .u32 (iX wd p (r^^^c' * 2 ^ (wd - 8)) 8:Nat))∧Below w.heap.size w w':=by
  intro t c' hc' hf ht;have hcs:c' * 2 ^ (wd - 8) < 2 ^ wd:=by
   have e:2 ^ wd=256 * 2 ^ (wd - 8):=by
    rw[show(256:Nat)=2 ^ 8 from rfl,← Nat.pow_add];congr 1;omega
   rw[e];exact Nat.mul_lt_mul_of_pos_right hc' (Nat.pow_pos (by decide))
  have hr0:=FO r c' (wd - 8) (by omega) (by omega);have hR:=Nat.xor_lt_two_pow hr hcs;generalize r^^^c' * 2 ^ (wd - 8)=R at *
  have hwI:(wd:Int) - 8≤24:=by omega
  have hwI2:(0:Int)≤(wd:Int) - 8:=by omega
  cases t
  ·have hcc:=hf rfl;subst hcc;clear hf ht;go_enter Tryz.func144,Tryz.ntmps144;go_wp2_with fail;have hrow:=ad.new w 214 #[.int .i64 wd,.int .u32 p,.bool false,.int .u32 ini,.int .u32 o];have hb:=(Y4 w.heap.size w).alloc (Z5 _) (.cells #[.int .i64 wd,.int .u32 p,.bool false,.int .u32 ini,.int .u32 o] 214);generalize w.alloc (.cells #[.int .i64 wd,.int .u32 p,.bool false,.int .u32 ini,.int .u32 o] 214)=w0 at *
   generalize hB:w.heap.size=B at *
   have HB:=hid hB;clear hB;go_loopw [1,22] (fun v i wr=>∃k:Nat,k≤8∧i= .int .i64 k∧v= .int .u32 (iX wd p R k:Nat)∧ad wr B 0 214 [.int .i64 wd,.int .u32 p,.bool false,.int .u32 ini,.int .u32 o]∧Below B w wr) (fun v i _=>8 - (intOf i).toNat)
   case atStart=>exact⟨0,by omega,rfl,rfl,hrow,hb⟩
   case round=>
    clear hrow hb;obtain⟨k,hk,rfl,rfl,hrow,hb⟩:=hrel;have hkl:=hk8 R k hp hR;generalize hS:iX wd p R k=S at *
    have HS:=hid hS;clear hS
    by_cases hlt:k < 8
    ·have hc0:=hrow.cell0 0 (by simp);have hc1:=hrow.cell0 1 (by simp);simp only[Z0,Z1]at hc0 hc1;have htop:=wC S (wd - 1) (by omega);have htl:S / 2 ^ (wd - 1) % 2 < 2:=Nat.mod_lt _ (by decide);generalize hT:S / 2 ^ (wd - 1) % 2=T at *
     obtain⟨f1,f2,f3⟩:=sw wd p S T hw hp hkl hT;have f4:=f1;rw[IntKind.wrap_u32']at f4;have HT:=hid hT;clear hT;have hstep:iX wd p R (k+1)=mi wd p S:=by rw[iX,HS.out]
     generalize S * 2 % 2 ^ wd=S2 at *
     generalize p * T=pT at *
     have hfl:=qk wd p S hp;generalize mi wd p S=S3 at *
     have HST:=hid hstep;clear hstep;have hmask:=fun w=>wD wd w hw
     generalize 2 ^ wd - 1=M at *
     have HMASK:=hid hmask;clear hmask;have hwI3:(0:Int)≤(wd:Int) - 1:=by omega
     have hwI4:(wd:Int) - 1≤31:=by omega
     go_wp2_with fail;go_quiet ((go_at_call 154;with_reducible exact Calls.quiet_of_same (qG (HMASK.out _))));go_wp2_with fail;go_roundw
     case rel=>exact⟨k+1,by omega,by go_num,by rw[HST.out],hrow.drewN nq,ey hb nq⟩
     case measure=>simp[intOf];omega
    ·obtain rfl:k=8:=by omega
     go_wp2_with fail;go_ret;exact⟨by rw[HS.out];rfl,by rw[HB.out];exact hb⟩
  ·have hcc:=ht rfl;clear hf ht;have HCC:=hid hcc;clear hcc;go_enter Tryz.func144,Tryz.ntmps144;go_wp2_with fail;refine(qm c 8 _ (by omega) (by omega)).mono ?_;rintro e w1 ⟨rfl,rfl⟩;rw[HCC.out];go_wp2_with fail;have hrow:=ad.new w 214 #[.int .i64 wd,.int .u32 p,.bool true,.int .u32 ini,.int .u32 o];have hb:=(Y4 w.heap.size w).alloc (Z5 _) (.cells #[.int .i64 wd,.int .u32 p,.bool true,.int .u32 ini,.int .u32 o] 214);generalize w.alloc (.cells #[.int .i64 wd,.int .u32 p,.bool true,.int .u32 ini,.int .u32 o] 214)=w0 at *
   generalize hB:w.heap.size=B at *
   have HB:=hid hB;clear hB;go_loopw [1,22] (fun v i wr=>∃k:Nat,k≤8∧i= .int .i64 k∧v= .int .u32 (iX wd p R k:Nat)∧ad wr B 0 214 [.int .i64 wd,.int .u32 p,.bool true,.int .u32 ini,.int .u32 o]∧Below B w wr) (fun v i _=>8 - (intOf i).toNat)
   case atStart=>exact⟨0,by omega,rfl,rfl,hrow,hb⟩
   case round=>
    clear hrow hb;obtain⟨k,hk,rfl,rfl,hrow,hb⟩:=hrel;have hkl:=hk8 R k hp hR;generalize hS:iX wd p R k=S at *
    have HS:=hid hS;clear hS
    by_cases hlt:k < 8
    ·have hc0:=hrow.cell0 0 (by simp);have hc1:=hrow.cell0 1 (by simp);simp only[Z0,Z1]at hc0 hc1;have htop:=wC S (wd - 1) (by omega);have htl:S / 2 ^ (wd - 1) % 2 < 2:=Nat.mod_lt _ (by decide);generalize hT:S / 2 ^ (wd - 1) % 2=T at *
     obtain⟨f1,f2,f3⟩:=sw wd p S T hw hp hkl hT;have f4:=f1;rw[IntKind.wrap_u32']at f4;have HT:=hid hT;clear hT;have hstep:iX wd p R (k+1)=mi wd p S:=by rw[iX,HS.out]
     generalize S * 2 % 2 ^ wd=S2 at *
     generalize p * T=pT at *
     have hfl:=qk wd p S hp;generalize mi wd p S=S3 at *
     have HST:=hid hstep;clear hstep;have hmask:=fun w=>wD wd w hw
     generalize 2 ^ wd - 1=M at *
     have HMASK:=hid hmask;clear hmask;have hwI3:(0:Int)≤(wd:Int) - 1:=by omega
     have hwI4:(wd:Int) - 1≤31:=by omega
     go_wp2_with fail;go_quiet ((go_at_call 154;with_reducible exact Calls.quiet_of_same (qG (HMASK.out _))));go_wp2_with fail;go_roundw
     case rel=>exact⟨k+1,by omega,by go_num,by rw[HST.out],hrow.drewN nq,ey hb nq⟩
     case measure=>simp[intOf];omega
    ·obtain rfl:k=8:=by omega
     go_wp2_with fail;go_ret;exact⟨by rw[HS.out];rfl,by rw[HB.out];exact hb⟩
 unfold jB bh su cOf;have hcl:dI c 8 < 256:=ir c 8;cases t
 ·exact key false c hc (fun _=>rfl) (fun h=>by cases h)
 ·exact key true (dI c 8) hcl (fun h=>by cases h) (fun _=>rfl)
theorem Ea(p:Nat)(h:p < 4294967296)(ho:p % 2=1):bits .and .u32 (p:Int) 1=1:=by
 rw[nA p h,ho];rfl
theorem Ch(m:gq)(w:World)(hm:m.Ok):
  Calls Tryz.prog 143 #[jB m] w fun e w'=>e= .returned (.bool true)∧Below w.heap.size w w':=by
 rcases m with⟨wd,p,t,ini,o⟩
 obtain⟨hw,hp,hodd,hi,ho⟩:=hm;simp only at hw hp hodd hi ho;unfold jB bh;rcases hw with rfl|rfl|rfl
 all_goals
  simp only[Nat.reducePow]at hp hi ho;have hod:=Ea p (by omega) hodd;go_enter Tryz.func143,Tryz.ntmps143;go_wp2_with fail;go_ret
  first|exact⟨rfl,(Y4 _ _).alloc (Z5 _) _⟩|exact⟨ja (Z9 (by omega)),(Y4 _ _).alloc (Z5 _) _⟩
theorem FP(m:gq)(r:Nat)(w:World)(hm:m.Ok)(hr:r < 2 ^ m.w):
  Calls Tryz.prog 145 #[jB m,.int .u32 r] w fun e w'=>e= .returned (.int .u32 (D8 m r:Nat))∧Below w.heap.size w w':=by
 have hl:=GS m hm;rcases m with⟨wd,p,t,ini,o⟩
 obtain⟨hw,hp,hodd,hi,ho⟩:=hm;simp only at hw hp hodd hi ho hr hl;unfold jB bh D8;simp only;cases t
 ·have hx:=u32_xor_nat r o (by omega) (by omega);simp only[Bool.false_eq_true,if_false];generalize r^^^o=R at *
  go_enter Tryz.func145,Tryz.ntmps145;go_wp2_with fail;go_ret;exact⟨rfl,(Y4 _ _).alloc (Z5 _) _⟩
 ·have ht:=ir r wd;have hx:=u32_xor_nat (dI r wd) o (by omega) (by omega);have htu:=fun w=>qm r wd w (by omega) (by omega)
  simp only[if_true];generalize dI r wd^^^o=R at *
  generalize dI r wd=T at *
  have HTU:=hid htu;clear htu;go_enter Tryz.func145,Tryz.ntmps145;go_wp2_with fail;refine(HTU.out _).mono ?_;rintro e w1 ⟨rfl,rfl⟩;go_wp2_with fail;go_ret;exact⟨rfl,(Y4 _ _).alloc (Z5 _) _⟩
theorem GU(m:gq)(s:ByteArray)(w:World)(hm:m.Ok)(hs:s.size≤140737488351232):
  Calls Tryz.prog 126 #[jB m,.string s] w fun e w'=>e= .returned (.tuple #[.int .u32 (ofN m s.data.toList:Nat),.nilIface])∧Below w.heap.size w w':=by
 have hlen:s.data.toList.length=s.size:=eV s;generalize hl:s.data.toList=l at *
 have HL:=hid hl;clear hl;unfold jB bh;go_enter Tryz.func126,Tryz.ntmps126;go_wp2_with fail;refine(Ch m _ hm).mono ?_;rintro e w1 ⟨rfl,hb1⟩;have hrow:=(ad.new w 214 (bh m)).below hb1 (by simp[bh]);have hb:=((Y4 w.heap.size w).alloc (Z5 _) (.cells (bh m) 214)).trans (hb1.mono (by simp[bh]));clear hb1;have hc3:=hrow.cell0 3 (by simp[bh]);simp only[bh,Z0,Z1]at hc3;generalize hB:w.heap.size=B at *
 have HB:=hid hB;clear hB;go_wp2_with fail;go_loopw [6,16] (fun v i wr=>∃k:Nat,k≤s.size∧i= .int .i64 k∧v= .int .u32 (kD m m.i (l.take k):Nat)∧ad wr B 0 214 (bh m).toList∧Below B w wr) (fun v i _=>s.size - (intOf i).toNat)
 case atStart=>exact⟨0,by omega,rfl,rfl,hrow,hb⟩
 case round=>
  clear hrow hb hc3;obtain⟨k,hk,rfl,rfl,hrow,hb⟩:=hrel;have hfl:=ql m hm (l.take k) m.i hm.i;have hwl:=GS m hm;have hlB:=hrow.lt;generalize hR:kD m m.i (l.take k)=R at *
  have HR:=hid hR;clear hR
  by_cases hlt:k < s.size
  ·have hc0:=hrow.cell0 0 (by simp[bh]);have hc1:=hrow.cell0 1 (by simp[bh]);have hc2:=hrow.cell0 2 (by simp[bh]);have hc3:=hrow.cell0 3 (by simp[bh]);have hc4:=hrow.cell0 4 (by simp[bh]);simp only[bh,Z0,Z1]at hc0 hc1 hc2 hc3 hc4;have hsn:=za m m.i l k (by omega);rw[HR.out]at hsn;have hb8:(l.getD k 0).toNat < 256:=UInt8.toNat_lt _;have hbe:s[k].toNat=(l.getD k 0).toNat:=by rw[Ga s k hlt,HL.out]
   generalize(l.getD k 0).toNat=c at *
   have HBE:=hid hbe;clear hbe;have HSN:=hid hsn;clear hsn;go_wp2_with fail;go_still_tail 5,(by kernel_rfl);change wpList _ _ _ _ _ wr.drew;go_wp2_with fail;rw[HBE.out];refine(D' m R c _ hm hfl hb8).mono ?_;rintro e w2 ⟨rfl,hb2⟩;go_wp2_with fail;go_roundw
   case rel=>exact⟨k+1,by omega,by go_num,by rw[HSN.out],hrow.drew.below hb2 hlB,hb.drew.trans (hb2.mono (Nat.le_of_lt hlB))⟩
   case measure=>simp[intOf];omega
  ·obtain rfl:k=s.size:=by omega
   have hc0:=hrow.cell0 0 (by simp[bh]);have hc1:=hrow.cell0 1 (by simp[bh]);have hc2:=hrow.cell0 2 (by simp[bh]);have hc3:=hrow.cell0 3 (by simp[bh]);have hc4:=hrow.cell0 4 (by simp[bh]);simp only[bh,Z0,Z1]at hc0 hc1 hc2 hc3 hc4;go_wp2_with fail;refine(FP m R _ hm hfl).mono ?_;rintro e w2 ⟨rfl,hb2⟩;go_wp2_with fail;go_ret2;refine⟨?_,by rw[HB.out];exact hb.trans (hb2.mono (Nat.le_of_lt hlB))⟩;have hR2:R=kD m m.i l:=by rw[← HR.out,← hlen,List.take_length]
   rw[ofN,← hR2];rfl
def zb:gq:=⟨32,79764919,true,4294967295,4294967295⟩
theorem mj:zb.Ok:=⟨.inr (.inr rfl),by decide,by decide,by decide,by decide⟩
theorem FQ(s:ByteArray)(w:World)(hs:s.size≤140737488351232):
  Calls Tryz.prog 101 #[.string s] w fun e w'=>e= .returned (.int .u32 (ofN zb s.data.toList:Nat))∧Below w.heap.size w w':=by
 go_enter Tryz.func101,Tryz.ntmps101;go_wp2_with fail;refine(GU zb s _ mj hs).mono ?_;rintro e w1 ⟨rfl,hb⟩;go_wp2_with fail;go_ret;exact⟨rfl,hb⟩
end
end Go.Proofs.YtlomecfhobehnaaGreatDoor
