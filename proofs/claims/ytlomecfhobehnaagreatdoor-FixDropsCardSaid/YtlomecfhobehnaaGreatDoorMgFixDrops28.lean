import Derived.Test.YtlomecfhobehnaaGreatDoorMgFixDrops27
set_option linter.all false
set_option maxRecDepth 100000
set_option maxHeartbeats 2000000
namespace Go.Proofs.YtlomecfhobehnaaGreatDoor
open Lib (hid)
section
open Go Go.RowKit
open Rd
open Ly
theorem Gh(U w:World)(rb cap gi oi gn on B c2:Nat)(tys:List Tm.Ty)(a g2:Option Addr)(hE:FxE U rb tys a cap)(b2:List Nat)(vs2:List Value)(cv:Value)(d:Nd)(W W':Wri)(F:Nds→Option Nds)(h:Tm.Hd)(t:Tm.Ty)(ht:t∈tys)(hk:h.k= .struct t.name)(hmany:Tm.ba h=false)(hC:xQ U rb tys a cap W' F t.items)(hU:Below U.heap.size U w)(hrow:ae U gi oi 70 (Tm.ag h cv))
  (hn:ae w gn on 28 (ab d.name d.kind d.at_ d.size d.val d.text (.slice g2 d.kids.len c2)))(hK:aM w B d.kids g2 c2 b2 vs2)(hB:U.heap.size≤B)(hgn:gn∉aB g2++b2)(hok:d.kids.ok)(htot:d.kids.tot≤800000)(hw:(aF W' t.items d.kids).isSome=true):
  Calls Tryz.prog 97 #[.agg #[.slice a tys.length cap],.pointer (some ⟨gi,oi,none⟩),.pointer (some ⟨gn,on,none⟩)] w (ep w B g2 c2 b2 (F d.kids)):=by
 obtain⟨n,hnn⟩:∃n,n=tys.length:=⟨_,rfl⟩;obtain⟨m,hm⟩:∃m,m=d.kids.len:=⟨_,rfl⟩;obtain⟨mb,hmb⟩:∃mb,mb=t.items.len:=⟨_,rfl⟩;obtain⟨V1,hV1⟩:∃V1,V1=w.alloc (.cells #[.slice a n cap] 75):=⟨_,rfl⟩;have hb1:Below w.heap.size w V1:=by rw[hV1];exact(Y4 _ _).alloc (Z5 _) _
 have hr0:ae V1 w.heap.size 0 75 [.slice a n cap]:=by rw[hV1];exact ae.new w _ _
 have hr1:=(hrow.below hU hrow.lt).below hb1 (Nat.lt_of_lt_of_le hrow.lt hU.size);have hn1:=hn.below hb1 hn.lt;have c0:=hr1.cell 0 (by simp[Tm.aj]);have c7:=hr1.cell 7 (by simp[Tm.aj]);simp only[Tm.ag,hk,hmany,Tm.aJ,Z0,Z1,Y2]at c0 c7;rw[hV1]at c0 c7;have hmem:=hK.mem;have hgiB:gi < U.heap.size:=hrow.lt;have hgnw:gn < w.heap.size:=hn.lt;have hSS:∀X,Mut V1 X (aB g2++b2)→X.cell? ⟨w.heap.size,0,none⟩=some (.slice a n cap)∧X.cell? ⟨gi,oi+3,none⟩=some (.string (aa t.name))∧X.cell? ⟨gn,on+6,none⟩=some (.slice g2 m c2):=by
  intro X hX;have k0:=(hr0.of_heap (hX.block w.heap.size hr0.lt (fun hm=>by have:=hmem _ hm;omega))).cell0 0 (by simp);have k1:=(hr1.of_heap (hX.block gi hr1.lt (fun hm=>by have:=hmem _ hm;omega))).cell 3 (by simp[Tm.aj]);have k2:=(hn1.of_heap (hX.block gn hn1.lt hgn)).cell 6 (by simp[ab]);simp only[Tm.ag,hk,Tm.bw,ab,Z0,Z1]at k0 k1 k2;rw[hm];exact⟨k0,k1,k2⟩
 have HSS:=hid hSS;have HIT:Hid (∀X,Below V1.heap.size V1 X→Calls Tryz.prog 71 #[.agg #[.slice a n cap],.string (aa t.name)] X fun e w'=>Below X.heap.size X w'∧∃ga capb bs,e= .returned (.slice ga mb capb)∧ak U (rb+1) 70 13 ga mb capb bs∧Tm.bu U rb t.items bs):=hid (fun X hX=>by
  have hwX:=hb1.trans (hX.mono hb1.size);rw[hnn,hmb];exact kG hE ht X (hU.trans (hwX.mono hU.size)))
 have HBK:Hid (∀X ga capb bs,Below V1.heap.size V1 X→ak U (rb+1) 70 13 ga mb capb bs→Tm.bu U rb t.items bs→Calls Tryz.prog 70 #[.agg #[.slice a n cap],.slice ga mb capb,.slice g2 m c2] X (ep X B g2 c2 b2 (F d.kids))):=hid (fun X ga capb bs hX h1 h2=>by
  have hwX:=hb1.trans (hX.mono hb1.size);rw[hmb]at h1⊢;rw[hnn,hm];exact hC X B c2 capb ga g2 bs vs2 b2 d.kids (hU.trans (hwX.mono hU.size)) h1 h2 (hK.an fun b _ hl=>hwX.block b hl) hB hok htot hw)
 have hS1:=hSS V1.drew (Mut.aA (Y4 _ _).drew);rw[hV1]at hS1;have HV1:=hid hV1;have HB1:=hid hb1;rw[← hnn];obtain⟨fk,hfk⟩:∃fk,fk=F d.kids:=⟨_,rfl⟩;rw[← hfk]at HBK⊢;obtain⟨tn,htn⟩:∃tn,tn=t.name:=⟨_,rfl⟩;rw[← htn]at HIT hS1 HSS;clear hC hU hrow hn hK hB hgn hok htot hw hb1 hr0 hr1 hn1 hSS hV1 hmem hgiB hgnw hm hmb hnn hfk hk hmany ht hE htn;go_enter Tryz.func97,Tryz.ntmps97;go_wp2_with fail;rw[← HV1.out]at hS1;rw[← HV1.out];go_region_held3 (fun X=>X.cell? ⟨w.heap.size,0,none⟩=some (.slice a n cap)∧X.cell? ⟨gi,oi+3,none⟩=some (.string (aa tn))∧X.cell? ⟨gn,on+6,none⟩=some (.slice g2 m c2))
  (first
   |exact hS1
   |assumption)
  (first
   |(go_at_call 71;(with_reducible refine(HIT.out _ ?_).mono ?_);(next=>exact(Y4 V1.heap.size V1).drew);(rintro e w2 ⟨hb2,ga,capb,bs,rfl,ho2,he2⟩);(have HB2:=hid (Below.trans (Y4 V1.heap.size V1).drew hb2));(have HOE:=hid (And.intro ho2 he2));(have hS2:=HSS.out w2 (Mut.aA HB2.out)))
   |(go_at_call 70;(with_reducible refine(HBK.out _ ga capb bs HB2.out HOE.out.1 HOE.out.2).mono ?_);(rintro e w5 ⟨hm5,v,rfl,hv5⟩);(have HM5:=hid (Mut.trans (Mut.aA HB2.out) hm5));(have HV5:=hid hv5);(have hS5:=HSS.out w5 HM5.out)))
 all_goals
  go_wp2_with fail;go_ret;exact⟨(Mut.aA HB1.out).trans HM5.out,v,rfl,HV5.out⟩
structure EaS(V1 wr:World)(B:Nat)(g2:Option Addr)(c2 m k:Nat)(b2:List Nat)(vs2:List Value)(f:Nds→Option Nds)(kids q r:Nds)(W:Wri)(h:Tm.Hd):Prop where
 mu:Mut V1 wr b2
 own:ak wr B 28 7 g2 m c2 vs2
 enc:aU wr B (q.app r) b2 vs2
 Gi:q.len=k
 len:q.len+r.len=m
 rest:Fx.xU f q r=Fx.dI f kids
 wrt:(bc (aX W h) r).isSome=true
 ok:r.ok
 tot:r.tot≤800000
theorem Gj{g:Nd→Option Tm.Wd}{d:Nd}{r:Nds}(h:(bc g (d.put r)).isSome=true):(g d).isSome=true∧(bc g r).isSome=true:=by
 have h2:((g d).bind fun u=>(bc g r).map (u++ ·)).isSome=true:=h;cases h3:g d with
 |none=>rw[h3]at h2;cases h2
 |some u=>
  cases h4:bc g r with
  |none=>rw[h3,h4]at h2;cases h2
  |some v=>exact⟨rfl,rfl⟩
theorem EaS.step{V1 wr:World}{B c2 m k gb:Nat}{b2:List Nat}{vs2:List Value}{f:Nds→Option Nds}{kids q r:Nds}{W:Wri}{h:Tm.Hd}(hs:EaS V1 wr B (some ⟨gb,0,none⟩) c2 m k b2 vs2 f kids q r W h)(hnd:([gb]++b2).Nodup)(hlen:∀ks p,f ks=some p→p.len=ks.len)(hk:k < m):
  ∃(d:Nd) (r':Nds) (g3:Option Addr) (c3:Nat) (b3:List Nat) (vs3:List Value),r=d.put r'∧aM wr B d.kids g3 c3 b3 vs3∧(∀x∈aB g3++b3,x∈b2)∧ae wr gb (k * 7) 28 (ab d.name d.kind d.at_ d.size d.val d.text (.slice g3 d.kids.len c3))∧(aX W h d).isSome=true∧d.kids.ok∧d.kids.tot≤800000∧
   (f d.kids=none→Fx.dI f kids=none)∧∀(w5:World) (p:Nds) (vs3':List Value),f d.kids=some p→Mut wr w5 (aB g3++b3)→aM w5 B p g3 c3 b3 vs3'→EaS V1 w5 B (some ⟨gb,0,none⟩) c2 m (k+1) b2 vs2 f kids (q.app (Nd.put {d with kids:=p} .nil)) r' W h:=by
 obtain⟨e1,e2,e3,rfl,e5,e6,e7,e8,e9⟩:=hs;cases r with
 |nil=>exact absurd hk (by have:Nds.nil.len=0:=rfl;omega)
 |cons nm kd a sz v tx ks r'=>
  have hn2:=List.nodup_append.1 hnd;obtain⟨g3,c3,b3,vs3,i1,i2,i3,i4⟩:=aU.focus q ⟨nm,kd,a,sz,v,tx,ks⟩ r' b2 vs2 e3 hn2.2.1;have hrow:=e2.row.2.2.2.2.part (q.len * 7) 7;rw[Nat.zero_add,i3]at hrow;obtain⟨w1,w2⟩:=Gj (d:=⟨nm,kd,a,sz,v,tx,ks⟩) e7;have ht:=fP ⟨nm,kd,a,sz,v,tx,ks⟩ r';have ht2:(Nds.cons nm kd a sz v tx ks r').tot=(Nd.tot ⟨nm,kd,a,sz,v,tx,ks⟩)+r'.tot:=ht;have ht3:ks.tot≤Nd.tot ⟨nm,kd,a,sz,v,tx,ks⟩:=by unfold Nd.tot;simp only[];omega
  refine⟨⟨nm,kd,a,sz,v,tx,ks⟩,r',g3,c3,b3,vs3,rfl,i1,i2,hrow,w1,e8.2.1,by simp only[];omega,fun hf=> ?_,fun w5 p vs3' hf hm hk5=> ?_⟩
  ·rw[← e6];exact Fx.Ab (d:=⟨nm,kd,a,sz,v,tx,ks⟩) hf
  ·have hpl:p.len=ks.len:=hlen _ _ hf;refine⟨e1.trans (hm.mono i2),e2.an fun x hx=>hm.block _ (e2.gY x hx) (fun hb=> ?_),?_,?_,?_,?_,w2,e8.2.2,by omega⟩
   ·cases hx;exact hn2.2.2 gb (by simp) gb (i2 _ hb) rfl
   ·rw[Nds.dM];exact i4 w5 p vs3' hm hpl hk5
   ·rw[Nds.bZ];rfl
   ·rw[Nds.bZ];have:(Nds.cons nm kd a sz v tx ks r').len=r'.len+1:=rfl;show q.len+1+r'.len=m;omega
   ·rw[← e6];exact(Fx.Ac (d:=⟨nm,kd,a,sz,v,tx,ks⟩) hf).symm
theorem Ad(U w:World)(rb cap gi oi gn on B c2:Nat)(tys:List Tm.Ty)(a g2:Option Addr)(hE:FxE U rb tys a cap)(b2:List Nat)(vs2:List Value)(cv:Value)(d:Nd)(W W':Wri)(F:Nds→Option Nds)(h:Tm.Hd)(t:Tm.Ty)(ht:t∈tys)(hk:h.k= .struct t.name)(hmany:Tm.ba h=true)(hWW:∀ks,W t.name ks=aF W' t.items ks)(hC:xQ U rb tys a cap W' F t.items)(hU:Below U.heap.size U w)(hrow:ae U gi oi 70 (Tm.ag h cv))
  (hlF:∀ks p,F ks=some p→p.len=ks.len)(hn:ae w gn on 28 (ab d.name d.kind d.at_ d.size d.val d.text (.slice g2 d.kids.len c2)))(hK:aM w B d.kids g2 c2 b2 vs2)(hB:U.heap.size≤B)(hgn:gn∉aB g2++b2)(hok:d.kids.ok)(htot:d.kids.tot≤800000)(hw:(bc (aX W h) d.kids).isSome=true):
  Calls Tryz.prog 97 #[.agg #[.slice a tys.length cap],.pointer (some ⟨gi,oi,none⟩),.pointer (some ⟨gn,on,none⟩)] w (ep w B g2 c2 b2 (Fx.dI F d.kids)):=by
 obtain⟨n,hnn⟩:∃n,n=tys.length:=⟨_,rfl⟩;obtain⟨m,hm⟩:∃m,m=d.kids.len:=⟨_,rfl⟩;obtain⟨mb,hmb⟩:∃mb,mb=t.items.len:=⟨_,rfl⟩;have hm2:m≤100000:=by have:=fR d.kids;omega
 have hcap:m≤c2:=by rw[hm];exact aW hK.own
 obtain⟨V1,hV1⟩:∃V1,V1=w.alloc (.cells #[.slice a n cap] 75):=⟨_,rfl⟩;have hb1:Below w.heap.size w V1:=by rw[hV1];exact(Y4 _ _).alloc (Z5 _) _
 have hr0:ae V1 w.heap.size 0 75 [.slice a n cap]:=by rw[hV1];exact ae.new w _ _
 have hr1:=(hrow.below hU hrow.lt).below hb1 (Nat.lt_of_lt_of_le hrow.lt hU.size);have hn1:=hn.below hb1 hn.lt;have c0:=hr1.cell 0 (by simp[Tm.aj]);have c7:=hr1.cell 7 (by simp[Tm.aj]);have d6:=hn1.cell 6 (by simp[ab]);simp only[Tm.ag,hk,hmany,Tm.aJ,ab,Z0,Z1,Y2]at c0 c7 d6;rw[hV1]at c0 c7 d6;rw[← hm]at d6;have hmem:=hK.mem;have hgiB:gi < U.heap.size:=hrow.lt;have hgnw:gn < w.heap.size:=hn.lt;have hSS:∀X,Mut V1 X b2→X.cell? ⟨w.heap.size,0,none⟩=some (.slice a n cap)∧X.cell? ⟨gi,oi+3,none⟩=some (.string (aa t.name))∧X.cell? ⟨gn,on+6,none⟩=some (.slice g2 m c2):=by
  intro X hX;have hmb:∀x∈b2,x∈aB g2++b2:=fun x hx=>List.mem_append_right _ hx
  have k0:=(hr0.of_heap (hX.block w.heap.size hr0.lt (fun hm=>by have:=hmem _ (hmb _ hm);omega))).cell0 0 (by simp);have k1:=(hr1.of_heap (hX.block gi hr1.lt (fun hm=>by have:=hmem _ (hmb _ hm);omega))).cell 3 (by simp[Tm.aj]);have k2:=(hn1.of_heap (hX.block gn hn1.lt (fun hm=>hgn (hmb _ hm)))).cell 6 (by simp[ab]);simp only[Tm.ag,hk,Tm.bw,ab,Z0,Z1]at k0 k1 k2;rw[hm];exact⟨k0,k1,k2⟩
 have HSS:=hid hSS;have HIT:Hid (∀X,Mut V1 X b2→Calls Tryz.prog 71 #[.agg #[.slice a n cap],.string (aa t.name)] X fun e w'=>Below X.heap.size X w'∧∃ga capb bs,e= .returned (.slice ga mb capb)∧ak U (rb+1) 70 13 ga mb capb bs∧Tm.bu U rb t.items bs):=hid (fun X hX=>by
  have hUX:Below U.heap.size U X:=(hX.below (hU.trans (hb1.mono hU.size)) (Nat.le_trans hU.size hb1.size) (fun b hb=>by have:=(hmem b (List.mem_append_right _ hb)).1;omega));rw[hnn,hmb];exact kG hE ht X hUX)
 have HBK:Hid (∀X ga capb bs (d':Nd) g3 c3 b3 vs3 m3,m3=d'.kids.len→Mut V1 X b2→ak U (rb+1) 70 13 ga mb capb bs→Tm.bu U rb t.items bs→aM X B d'.kids g3 c3 b3 vs3→d'.kids.ok→d'.kids.tot≤800000→(aX W h d').isSome=true→Calls Tryz.prog 70 #[.agg #[.slice a n cap],.slice ga mb capb,.slice g3 m3 c3] X (ep X B g3 c3 b3 (F d'.kids))):=hid (fun X ga capb bs d' g3 c3 b3 vs3 m3 hm3 hX h1 h2 hk3 ho3 ht3 hw3=>by
  have hUX:Below U.heap.size U X:=(hX.below (hU.trans (hb1.mono hU.size)) (Nat.le_trans hU.size hb1.size) (fun b hb=>by have:=(hmem b (List.mem_append_right _ hb)).1;omega));rw[hmb]at h1⊢;rw[hnn,hm3];exact hC X B c3 capb ga g3 bs vs3 b3 d'.kids hUX h1 h2 hk3 hB ho3 ht3 (by rw[← hWW];exact Fx.bj hk hw3))
 have hE0:EaS V1 V1 B g2 c2 m 0 b2 vs2 F d.kids .nil d.kids W h:=by
  have hkv:=hK.an (w':=V1) fun b _ hl=>hb1.block b hl
  refine⟨Mut.refl _ _,by rw[hm];exact hkv.own,hkv.enc,rfl,by rw[hm];show 0+_=_;omega,?_,hw,hok,htot⟩;unfold Fx.xU;cases Fx.dI F d.kids <;> rfl
 have HE0:=hid hE0;have HND:=hid hK.nodup;have HLF:=hid hlF;have HV1:=hid hV1;have HB1:=hid hb1;rw[← hnn];obtain⟨ek,hek⟩:∃ek,ek=Fx.dI F d.kids:=⟨_,rfl⟩;rw[← hek];have HEK:=hid hek;obtain⟨tn,htn⟩:∃tn,tn=t.name:=⟨_,rfl⟩;rw[← htn]at HIT HSS;clear hC hU hrow hn hK hB hgn hok htot hw hb1 hr0 hr1 hn1 hSS hV1 hmem hgiB hgnw hm hmb hnn hek hk hmany ht hE htn hlF hE0 hWW;go_enter Tryz.func97,Tryz.ntmps97;go_wp2_with fail;rw[← HV1.out];go_loopw [61] (fun v61 wr=>∃(k:Nat) (q r:Nds),v61= .int .i64 k∧k≤m∧Hid (EaS V1 wr B g2 c2 m k b2 vs2 F d.kids q r W h)) (fun v61 _=>m - (intOf v61).toNat)
 case atStart=>exact⟨0,.nil,d.kids,rfl,Nat.zero_le _,HE0⟩
 case round=>
  clear c0 c7 d6;obtain⟨k,q,r,rfl,hkm,HEA⟩:=hrel
  by_cases hlt:k < m
  ·have hki:(k:Int) < (m:Int):=by omega
   have q1:decide ((k:Int) < (m:Int))=true:=Z9 hki;have q2:decide (k < m)=true:=Z9 hlt;obtain⟨x,rfl⟩:∃x,g2=some x:=by
    cases g2 with
    |none=>have:=HEA.out.own.aS.1;omega
    |some x=>exact⟨x,rfl⟩
   obtain⟨gb,rfl⟩:∃gb,x=⟨gb,0,none⟩:=⟨x.block,HEA.out.own.row.1⟩;obtain⟨⟨nm,kd,at_,sz,val,tx,ks⟩,r',g3,c3,b3,vs3,hr,hk3,hsub,hrow3,hw3,ho3,ht3,hnone,hstep⟩:=HEA.out.step HND.out HLF.out hlt;simp only[]at hk3 hrow3 ho3 ht3 hnone hstep;obtain⟨m3,hm3⟩:∃m3,m3=ks.len:=⟨_,rfl⟩;rw[← hm3]at hrow3;have hne:gb∉b2:=fun hb=>(List.nodup_append.1 HND.out).2.2 gb (by simp[aB]) gb hb rfl
   have HS3:Hid (∀X,Mut wr X b2→X.cell? ⟨w.heap.size,0,none⟩=some (.slice a n cap)∧X.cell? ⟨gi,oi+3,none⟩=some (.string (aa tn))∧X.cell? ⟨gn,on+6,none⟩=some (.slice (some ⟨gb,0,none⟩) m c2)∧X.cell? ⟨gb,k * 7+6,none⟩=some (.slice g3 m3 c3)):=hid (fun X hX=>by
    obtain⟨x1,x2,x3⟩:=HSS.out X (HEA.out.mu.trans hX);have x4:=(hrow3.of_heap (hX.block gb hrow3.lt hne)).cell 6 (by simp[ab]);simp only[ab,Z0,Z1]at x4;exact⟨x1,x2,x3,x4⟩)
   have HBK3:Hid (∀X ga capb bs,Below wr.heap.size wr X→ak U (rb+1) 70 13 ga mb capb bs→Tm.bu U rb t.items bs→Calls Tryz.prog 70 #[.agg #[.slice a n cap],.slice ga mb capb,.slice g3 m3 c3] X (ep X B g3 c3 b3 (F ks))):=hid (fun X ga capb bs hX h1 h2=>HBK.out X ga capb bs ⟨nm,kd,at_,sz,val,tx,ks⟩ g3 c3 b3 vs3 m3 hm3 (HEA.out.mu.trans (Mut.aA hX)) h1 h2 (hk3.an fun b _ hl=>hX.block b hl) ho3 ht3 hw3);have HIT3:=hid (fun X (hX:Below wr.heap.size wr X)=>HIT.out X (HEA.out.mu.trans (Mut.aA hX)));have HSUB:=hid hsub;have HNONE:=hid hnone;have HSTEP:=hid hstep;obtain⟨fo,hfo⟩:∃fo,fo=F ks:=⟨_,rfl⟩;rw[← hfo]at HBK3 HNONE;have HFO:=hid hfo;have hS1:=HS3.out wr.drew (Mut.aA (Y4 wr.heap.size wr).drew);have HLT:=hid hlt;clear hr hk3 hsub hrow3 hw3 ho3 ht3 hnone hstep hm3 hne hfo hlt;go_wp2_with fail;go_region_held3 (fun X=>X.cell? ⟨w.heap.size,0,none⟩=some (.slice a n cap)∧X.cell? ⟨gi,oi+3,none⟩=some (.string (aa tn))∧X.cell? ⟨gn,on+6,none⟩=some (.slice (some ⟨gb,0,none⟩) m c2)∧X.cell? ⟨gb,k * 7+6,none⟩=some (.slice g3 m3 c3))
    (first
     |exact hS1
     |assumption)
    (first
     |(go_at_call 71;(with_reducible refine(HIT3.out _ ?_).mono ?_);(next=>exact(Y4 wr.heap.size wr).drew);(rintro e w2 ⟨hb2,ga,capb,bs,rfl,ho2,he2⟩);(have HB2:=hid (Below.trans (Y4 wr.heap.size wr).drew hb2));(have HOE:=hid (And.intro ho2 he2));(have hS2:=HS3.out w2 (Mut.aA HB2.out)))
     |(go_at_call 70;(with_reducible refine(HBK3.out _ ga capb bs HB2.out HOE.out.1 HOE.out.2).mono ?_);(rintro e w5 ⟨hm5,v,rfl,hv5⟩);(have HM5:=hid (Mut.trans (Mut.aA HB2.out) hm5));(have HV5:=hid hv5);(have hS5:=HS3.out w5 (HM5.out.mono HSUB.out))))
   all_goals
    have hv5:=HV5.out;unfold IH at hv5;cases fo with
    |none=>
     simp only[]at hv5;subst hv5;go_wp2_with fail;go_ret;refine⟨((Mut.aA HB1.out).trans ((HEA.out.mu.trans (HM5.out.mono HSUB.out)).mono fun x hx=>List.mem_append_right _ hx)),_,rfl,?_⟩;rw[HEK.out,HNONE.out (by trivial)];rfl
    |some p=>
     simp only[]at hv5;obtain⟨rfl,vs5,hk5⟩:=hv5;have HNX:=hid (HSTEP.out w5 p vs5 HFO.out.symm HM5.out hk5);clear hk5;go_wp2_with fail;go_roundw
     case rel=>exact⟨k+1,_,r',by first|rfl|rw[az HLT.out hm2],by have:=HLT.out;omega,HNX⟩
     case measure=>(try rw[az HLT.out hm2]);simp only[intOf];have:=HLT.out;omega
  ·obtain rfl:k=m:=by omega
   have hd:decide ((k:Int) < (k:Int))=false:=by simp
   have hd2:decide (k < k)=false:=by simp
   have hr0:r= .nil:=by
    have h1:=HEA.out.len;have h2:=HEA.out.Gi;cases r with
    |nil=>rfl
    |cons=>exfalso;simp only[Nds.len]at h1;omega
   subst hr0;have HQ:=hid (show ek=some q by
    rw[HEK.out,← HEA.out.rest];show some (q.app .nil)=some q;rw[Nds.fe])
   go_wp2_with fail;go_ret;refine⟨((Mut.aA HB1.out).trans (HEA.out.mu.mono fun x hx=>List.mem_append_right _ hx)),_,rfl,?_⟩;rw[HQ.out];refine⟨rfl,vs2,?_,?_,HND.out⟩
   ·rw[HEA.out.Gi];exact HEA.out.own
   ·have:=HEA.out.enc;rw[Nds.fe]at this;exact this
end
section
open Go.RowKit
structure gL where
 w:Nat
 p:Nat
 t:Bool
 i:Nat
 o:Nat
structure gL.Ok(m:gL):Prop where
 w:m.w=8∨m.w=16∨m.w=32
 p:m.p < 2 ^ m.w
 odd:m.p % 2=1
 i:m.i < 2 ^ m.w
 o:m.o < 2 ^ m.w
def dP(n:Nat):Nat→Nat
 |0=>0
 |k+1=>dP n k * 2+n / 2 ^ k % 2
def mT(w p r:Nat):Nat:=(r * 2 % 2 ^ w)^^^(p * (r / 2 ^ (w - 1) % 2))
def jj(w p r:Nat):Nat→Nat
 |0=>r
 |k+1=>mT w p (jj w p r k)
def cOf(m:gL)(c:Nat):Nat:=if m.t then dP c 8 else c
def tL(m:gL)(r c:Nat):Nat:=jj m.w m.p (r^^^cOf m c * 2 ^ (m.w - 8)) 8
def ld(m:gL)(r:Nat):List UInt8→Nat
 |[]=>r
 |c::l=>ld m (tL m r c.toNat) l
def Gk(m:gL)(r:Nat):Nat:=(if m.t then dP r m.w else r)^^^m.o
def ofN(m:gL)(l:List UInt8):Nat:=Gk m (ld m m.i l)
theorem iF(n k:Nat):dP n k < 2 ^ k:=by
 induction k with
 |zero=>simp[dP]
 |succ k ih=>have:n / 2 ^ k % 2 < 2:=Nat.mod_lt _ (by decide);rw[dP,Nat.pow_succ];omega
theorem Ae(m:gL)(l:List UInt8)(c:UInt8):∀r,ld m r (l++[c])=tL m (ld m r l) c.toNat:=by
 induction l with
 |nil=>intro r;rfl
 |cons x l ih=>intro r;exact ih _
theorem Af(m:gL)(r:Nat)(l:List UInt8)(k:Nat)(h:k < l.length):ld m r (l.take (k+1))=tL m (ld m r (l.take k)) (l.getD k 0).toNat:=by
 rw[List.take_succ_eq_append_getElem h,Ae,List.getD_eq_getElem?_getD,Y1 h];rfl
theorem qX(w p r:Nat)(hp:p < 2 ^ w):mT w p r < 2 ^ w:=by
 unfold mT;apply Nat.xor_lt_two_pow (Nat.mod_lt _ (Nat.pow_pos (by decide)));have:r / 2 ^ (w - 1) % 2 < 2:=Nat.mod_lt _ (by decide);generalize r / 2 ^ (w - 1) % 2=b at *
 obtain rfl|rfl:b=0∨b=1:=by omega
 ·simpa using Nat.pow_pos (by decide)
 ·simpa using hp
theorem xY(w p r k:Nat)(hp:p < 2 ^ w)(hr:r < 2 ^ w):jj w p r k < 2 ^ w:=by
 cases k with
 |zero=>exact hr
 |succ k=>exact qX _ _ _ hp
theorem JY(m:gL)(c:Nat)(hc:c < 256):cOf m c < 256:=by
 unfold cOf;split
 ·exact iF c 8
 ·exact hc
theorem uZ(m:gL)(h:m.Ok)(c:Nat)(hc:c < 256):cOf m c * 2 ^ (m.w - 8) < 2 ^ m.w:=by
 have h1:=JY m c hc;have e:2 ^ m.w=256 * 2 ^ (m.w - 8):=by
  rw[show(256:Nat)=2 ^ 8 from rfl,← Nat.pow_add];congr 1;have:=h.w;omega
 rw[e];exact Nat.mul_lt_mul_of_pos_right h1 (Nat.pow_pos (by decide))
theorem Gl(m:gL)(h:m.Ok)(r c:Nat)(hr:r < 2 ^ m.w)(hc:c < 256):tL m r c < 2 ^ m.w:=
 xY _ _ _ _ h.p (Nat.xor_lt_two_pow hr (uZ m h c hc))
theorem qY(m:gL)(h:m.Ok):∀l r,r < 2 ^ m.w→ld m r l < 2 ^ m.w
 |[],r,hr=>hr
 |c::l,r,hr=>qY m h l _ (Gl m h r _ hr (UInt8.toNat_lt _))
theorem IQ(m:gL)(h:m.Ok)(r:Nat)(hr:r < 2 ^ m.w):Gk m r < 2 ^ m.w:=by
 unfold Gk;apply Nat.xor_lt_two_pow _ h.o;split
 ·exact iF _ _
 ·exact hr
theorem JZ(m:gL)(h:m.Ok):2 ^ m.w≤4294967296:=by
 rcases h.w with e|e|e <;> rw[e] <;> decide
theorem om(x:Nat)(hx:x < 4294967296):bits .and .u32 (x:Int) 1=((x % 2:Nat):Int):=by
 have:=u32_and_nat x 1 hx (by decide);rw[nat_mask1]at this;exact this
theorem DO(n t k:Nat)(ht:t < 2 ^ k)(hk:k < 32)(hn:n < 4294967296)(hT:dP n k=t):
  bits .or .u32 (IntKind.u32.wrap ((t:Int) * 2)) (bits .and .u32 ((n / 2 ^ k:Nat):Int) 1)=((dP n (k+1):Nat):Int):=by
 have h1:n / 2 ^ k≤n:=Nat.div_le_self _ _;have h2:2 ^ k≤2 ^ 31:=Nat.pow_le_pow_right (by decide) (by omega);have e:((t:Int) * 2)=((t * 2:Nat):Int):=by simp
 rw[om _ (by omega),e,IntWalk.u32_in _ ⟨by omega,by omega⟩,u32_or_nat _ _ (by omega) (by omega),nat_join 1 _ _ (by simp) (by omega),dP,hT]
theorem DP(n k:Nat):((n / 2 ^ k:Nat):Int) / 2=((n / 2 ^ (k+1):Nat):Int):=by
 rw[Nat.pow_succ,← Nat.div_div_eq_div_mul];simp
theorem IS(r c k:Nat)(hr:r < 4294967296)(h:c * 2 ^ k < 4294967296):
  bits .xor .u32 (r:Int) ((c:Int) * 2 ^ k % 4294967296)=((r^^^c * 2 ^ k:Nat):Int):=by
 have e:((c:Int) * 2 ^ k % 4294967296)=((c * 2 ^ k:Nat):Int):=by
  rw[show((c:Int) * 2 ^ k)=((c * 2 ^ k:Nat):Int)from by simp];omega
 rw[e,u32_xor_nat _ _ hr h]
theorem xZ(r k:Nat)(hr:r < 4294967296):bits .and .u32 ((r:Int) / 2 ^ k) 1=((r / 2 ^ k % 2:Nat):Int):=by
 have h:r / 2 ^ k≤r:=Nat.div_le_self _ _;rw[show((r:Int) / 2 ^ k)=((r / 2 ^ k:Nat):Int)from by simp];exact om _ (by omega)
theorem tM(w p r x:Nat)(hw:w=8∨w=16∨w=32)(hp:p < 2 ^ w)(hr:r < 2 ^ w)(hx:r / 2 ^ (w - 1) % 2=x):
  bits .and .u32 (IntKind.u32.wrap ((r:Int) * 2)) ((2 ^ w - 1:Nat):Int)=((r * 2 % 2 ^ w:Nat):Int)∧IntKind.u32.wrap ((p:Int) * (x:Int))=((p * x:Nat):Int)∧
  bits .xor .u32 ((r * 2 % 2 ^ w:Nat):Int) ((p * x:Nat):Int)=((mT w p r:Nat):Int):=by
 have hl:2 ^ w≤4294967296:=by rcases hw with e|e|e <;> rw[e] <;> decide
 have h0:0 < 2 ^ w:=Nat.pow_pos (by decide);have hx2:x < 2:=by rw[← hx];exact Nat.mod_lt _ (by decide)
 have hpx:p * x≤p * 1:=Nat.mul_le_mul_left _ (by omega);have hm:r * 2 % 2 ^ w < 2 ^ w:=Nat.mod_lt _ h0;refine⟨?_,?_,?_⟩
 ·have e:IntKind.u32.wrap ((r:Int) * 2)=((r * 2 % 4294967296:Nat):Int):=by rw[IntKind.wrap_u32'];omega
  rw[e,u32_and_nat _ _ (Nat.mod_lt _ (by decide)) (by omega),Nat.and_two_pow_sub_one_eq_mod]
  congr 1
  rw[show(4294967296:Nat)=2 ^ 32 from rfl,show 2 ^ 32=2 ^ w * 2 ^ (32 - w)from by rw[← Nat.pow_add];congr 1;omega];exact Nat.mod_mul_right_mod _ _ _
 ·rw[← Int.natCast_mul];exact IntWalk.u32_in _ ⟨by omega,by omega⟩
 ·rw[u32_xor_nat _ _ (by omega) (by omega),mT,hx]
theorem qZ(n wd:Nat)(w:World)(hn:n < 4294967296)(hw:wd≤32):
  Calls Tryz.prog 153 #[.int .u32 n,.int .i64 wd] w fun e w'=>e= .returned (.int .u32 (dP n wd:Nat))∧w=w':=by
 go_enter Tryz.func153,Tryz.ntmps153;go_wp2_with fail;go_loop [0,5,7] (fun v t i=>∃k:Nat,k≤wd∧i= .int .i64 k∧t= .int .u32 (dP n k:Nat)∧v= .int .u32 (n / 2 ^ k:Nat)) (fun v t i=>wd - (intOf i).toNat)
 case atStart=>exact⟨0,by omega,rfl,rfl,by simp⟩
 case round=>
  obtain⟨k,hk,rfl,rfl,rfl⟩:=hrel;have ht:=iF n k;generalize hT:dP n k=t at *
  have HT:=hid hT;clear hT
  by_cases hlt:k < wd
  ·have hst:=DO n t k ht (by omega) hn HT.out;have hhf:=DP n k;have hq:n / 2 ^ k≤n:=Nat.div_le_self _ _;generalize n / 2 ^ k=q at *
   generalize hq2:n / 2 ^ (k+1)=q2 at *
   have HQ2:=hid hq2;clear hq2;have HST:=hid hst;clear hst;go_wp2_with fail;go_round
   case rel=>exact⟨k+1,by omega,by go_num,by rw[← HST.out,IntKind.wrap_u32'],by rw[HQ2.out]⟩
   case measure=>simp[intOf];omega
  ·obtain rfl:k=wd:=by omega
   go_wp2_with fail;go_ret;exact⟨by rw[HT.out];rfl,rfl⟩
theorem yc(wd:Nat)(w:World)(hw:wd=8∨wd=16∨wd=32):
  Calls Tryz.prog 154 #[.int .i64 wd] w fun e w'=>e= .returned (.int .u32 (2 ^ wd - 1:Nat))∧w=w':=by
 rcases hw with rfl|rfl|rfl
 all_goals
  go_enter Tryz.func154,Tryz.ntmps154;go_wp2_with fail;go_ret;exact⟨rfl,rfl⟩
def bn(m:gL):Array Value:= #[.int .i64 (m.w:Nat),.int .u32 (m.p:Nat),.bool m.t,.int .u32 (m.i:Nat),.int .u32 (m.o:Nat)]
def jR(m:gL):Value:= .agg (bn m)
theorem Gm(m:gL)(r c:Nat)(w:World)(hm:m.Ok)(hr:r < 2 ^ m.w)(hc:c < 256):
  Calls Tryz.prog 144 #[jR m,.int .u32 r,.int .u8 c] w fun e w'=>e= .returned (.int .u32 (tL m r c:Nat))∧Below w.heap.size w w':=by
 rcases m with⟨wd,p,t,ini,o⟩
 obtain⟨hw,hp,hodd,hi,ho⟩:=hm;simp only at hw hp hodd hi ho hr;have hwl:2 ^ wd≤4294967296:=by rcases hw with e|e|e <;> rw[e] <;> decide
 have hk8:=xY wd p;have key:∀(t:Bool) (c':Nat),c' < 256→(t=false→c'=c)→(t=true→dP c 8=c')→
   Calls Tryz.prog 144 #[.agg #[.int .i64 wd,.int .u32 p,.bool t,.int .u32 ini,.int .u32 o],.int .u32 r,.int .u8 c] w fun e w'=>e= .returned (.int .u32 (jj wd p (r^^^c' * 2 ^ (wd - 8)) 8:Nat))∧Below w.heap.size w w':=by
  intro t c' hc' hf ht;have hcs:c' * 2 ^ (wd - 8) < 2 ^ wd:=by
   have e:2 ^ wd=256 * 2 ^ (wd - 8):=by
    rw[show(256:Nat)=2 ^ 8 from rfl,← Nat.pow_add];congr 1;omega
   rw[e];exact Nat.mul_lt_mul_of_pos_right hc' (Nat.pow_pos (by decide))
  have hr0:=IS r c' (wd - 8) (by omega) (by omega);have hR:=Nat.xor_lt_two_pow hr hcs;generalize r^^^c' * 2 ^ (wd - 8)=R at *
  have hwI:(wd:Int) - 8≤24:=by omega
  have hwI2:(0:Int)≤(wd:Int) - 8:=by omega
  cases t
  ·have hcc:=hf rfl;subst hcc;clear hf ht;go_enter Tryz.func144,Tryz.ntmps144;go_wp2_with fail;have hrow:=ae.new w 214 #[.int .i64 wd,.int .u32 p,.bool false,.int .u32 ini,.int .u32 o];have hb:=(Y4 w.heap.size w).alloc (Z5 _) (.cells #[.int .i64 wd,.int .u32 p,.bool false,.int .u32 ini,.int .u32 o] 214);generalize w.alloc (.cells #[.int .i64 wd,.int .u32 p,.bool false,.int .u32 ini,.int .u32 o] 214)=w0 at *
   generalize hB:w.heap.size=B at *
   have HB:=hid hB;clear hB;go_loopw [1,22] (fun v i wr=>∃k:Nat,k≤8∧i= .int .i64 k∧v= .int .u32 (jj wd p R k:Nat)∧ae wr B 0 214 [.int .i64 wd,.int .u32 p,.bool false,.int .u32 ini,.int .u32 o]∧Below B w wr) (fun v i _=>8 - (intOf i).toNat)
   case atStart=>exact⟨0,by omega,rfl,rfl,hrow,hb⟩
   case round=>
    clear hrow hb;obtain⟨k,hk,rfl,rfl,hrow,hb⟩:=hrel;have hkl:=hk8 R k hp hR;generalize hS:jj wd p R k=S at *
    have HS:=hid hS;clear hS
    by_cases hlt:k < 8
    ·have hc0:=hrow.cell0 0 (by simp);have hc1:=hrow.cell0 1 (by simp);simp only[Z0,Z1]at hc0 hc1;have htop:=xZ S (wd - 1) (by omega);have htl:S / 2 ^ (wd - 1) % 2 < 2:=Nat.mod_lt _ (by decide);generalize hT:S / 2 ^ (wd - 1) % 2=T at *
     obtain⟨f1,f2,f3⟩:=tM wd p S T hw hp hkl hT;have f4:=f1;rw[IntKind.wrap_u32']at f4;have HT:=hid hT;clear hT;have hstep:jj wd p R (k+1)=mT wd p S:=by rw[jj,HS.out]
     generalize S * 2 % 2 ^ wd=S2 at *
     generalize p * T=pT at *
     have hfl:=qX wd p S hp;generalize mT wd p S=S3 at *
     have HST:=hid hstep;clear hstep;have hmask:=fun w=>yc wd w hw
     generalize 2 ^ wd - 1=M at *
     have HMASK:=hid hmask;clear hmask;have hwI3:(0:Int)≤(wd:Int) - 1:=by omega
     have hwI4:(wd:Int) - 1≤31:=by omega
     go_wp2_with fail;go_quiet ((go_at_call 154;with_reducible exact Calls.quiet_of_same (tX (HMASK.out _))));go_wp2_with fail;go_roundw
     case rel=>exact⟨k+1,by omega,by go_num,by rw[HST.out],hrow.drewN nq,fy hb nq⟩
     case measure=>simp[intOf];omega
    ·obtain rfl:k=8:=by omega
     go_wp2_with fail;go_ret;exact⟨by rw[HS.out];rfl,by rw[HB.out];exact hb⟩
  ·have hcc:=ht rfl;clear hf ht;have HCC:=hid hcc;clear hcc;go_enter Tryz.func144,Tryz.ntmps144;go_wp2_with fail;refine(qZ c 8 _ (by omega) (by omega)).mono ?_;rintro e w1 ⟨rfl,rfl⟩;rw[HCC.out];go_wp2_with fail;have hrow:=ae.new w 214 #[.int .i64 wd,.int .u32 p,.bool true,.int .u32 ini,.int .u32 o];have hb:=(Y4 w.heap.size w).alloc (Z5 _) (.cells #[.int .i64 wd,.int .u32 p,.bool true,.int .u32 ini,.int .u32 o] 214);generalize w.alloc (.cells #[.int .i64 wd,.int .u32 p,.bool true,.int .u32 ini,.int .u32 o] 214)=w0 at *
   generalize hB:w.heap.size=B at *
   have HB:=hid hB;clear hB;go_loopw [1,22] (fun v i wr=>∃k:Nat,k≤8∧i= .int .i64 k∧v= .int .u32 (jj wd p R k:Nat)∧ae wr B 0 214 [.int .i64 wd,.int .u32 p,.bool true,.int .u32 ini,.int .u32 o]∧Below B w wr) (fun v i _=>8 - (intOf i).toNat)
   case atStart=>exact⟨0,by omega,rfl,rfl,hrow,hb⟩
   case round=>
    clear hrow hb;obtain⟨k,hk,rfl,rfl,hrow,hb⟩:=hrel;have hkl:=hk8 R k hp hR;generalize hS:jj wd p R k=S at *
    have HS:=hid hS;clear hS
    by_cases hlt:k < 8
    ·have hc0:=hrow.cell0 0 (by simp);have hc1:=hrow.cell0 1 (by simp);simp only[Z0,Z1]at hc0 hc1;have htop:=xZ S (wd - 1) (by omega);have htl:S / 2 ^ (wd - 1) % 2 < 2:=Nat.mod_lt _ (by decide);generalize hT:S / 2 ^ (wd - 1) % 2=T at *
     obtain⟨f1,f2,f3⟩:=tM wd p S T hw hp hkl hT;have f4:=f1;rw[IntKind.wrap_u32']at f4;have HT:=hid hT;clear hT;have hstep:jj wd p R (k+1)=mT wd p S:=by rw[jj,HS.out]
     generalize S * 2 % 2 ^ wd=S2 at *
     generalize p * T=pT at *
     have hfl:=qX wd p S hp;generalize mT wd p S=S3 at *
     have HST:=hid hstep;clear hstep;have hmask:=fun w=>yc wd w hw
     generalize 2 ^ wd - 1=M at *
     have HMASK:=hid hmask;clear hmask;have hwI3:(0:Int)≤(wd:Int) - 1:=by omega
     have hwI4:(wd:Int) - 1≤31:=by omega
     go_wp2_with fail;go_quiet ((go_at_call 154;with_reducible exact Calls.quiet_of_same (tX (HMASK.out _))));go_wp2_with fail;go_roundw
     case rel=>exact⟨k+1,by omega,by go_num,by rw[HST.out],hrow.drewN nq,fy hb nq⟩
     case measure=>simp[intOf];omega
    ·obtain rfl:k=8:=by omega
     go_wp2_with fail;go_ret;exact⟨by rw[HS.out];rfl,by rw[HB.out];exact hb⟩
 unfold jR bn tL cOf;have hcl:dP c 8 < 256:=iF c 8;cases t
 ·exact key false c hc (fun _=>rfl) (fun h=>by cases h)
 ·exact key true (dP c 8) hcl (fun h=>by cases h) (fun _=>rfl)
theorem Gn(p:Nat)(h:p < 4294967296)(ho:p % 2=1):bits .and .u32 (p:Int) 1=1:=by
 rw[om p h,ho];rfl
theorem DQ(m:gL)(w:World)(hm:m.Ok):
  Calls Tryz.prog 143 #[jR m] w fun e w'=>e= .returned (.bool true)∧Below w.heap.size w w':=by
 rcases m with⟨wd,p,t,ini,o⟩
 obtain⟨hw,hp,hodd,hi,ho⟩:=hm;simp only at hw hp hodd hi ho;unfold jR bn;rcases hw with rfl|rfl|rfl
 all_goals
  simp only[Nat.reducePow]at hp hi ho;have hod:=Gn p (by omega) hodd;go_enter Tryz.func143,Tryz.ntmps143;go_wp2_with fail;go_ret
  first|exact⟨rfl,(Y4 _ _).alloc (Z5 _) _⟩|exact⟨jo (Z9 (by omega)),(Y4 _ _).alloc (Z5 _) _⟩
theorem IT(m:gL)(r:Nat)(w:World)(hm:m.Ok)(hr:r < 2 ^ m.w):
  Calls Tryz.prog 145 #[jR m,.int .u32 r] w fun e w'=>e= .returned (.int .u32 (Gk m r:Nat))∧Below w.heap.size w w':=by
 have hl:=JZ m hm;rcases m with⟨wd,p,t,ini,o⟩
 obtain⟨hw,hp,hodd,hi,ho⟩:=hm;simp only at hw hp hodd hi ho hr hl;unfold jR bn Gk;simp only;cases t
 ·have hx:=u32_xor_nat r o (by omega) (by omega);simp only[Bool.false_eq_true,if_false];generalize r^^^o=R at *
  go_enter Tryz.func145,Tryz.ntmps145;go_wp2_with fail;go_ret;exact⟨rfl,(Y4 _ _).alloc (Z5 _) _⟩
 ·have ht:=iF r wd;have hx:=u32_xor_nat (dP r wd) o (by omega) (by omega);have htu:=fun w=>qZ r wd w (by omega) (by omega)
  simp only[if_true];generalize dP r wd^^^o=R at *
  generalize dP r wd=T at *
  have HTU:=hid htu;clear htu;go_enter Tryz.func145,Tryz.ntmps145;go_wp2_with fail;refine(HTU.out _).mono ?_;rintro e w1 ⟨rfl,rfl⟩;go_wp2_with fail;go_ret;exact⟨rfl,(Y4 _ _).alloc (Z5 _) _⟩
theorem Ka(m:gL)(s:ByteArray)(w:World)(hm:m.Ok)(hs:s.size≤140737488351232):
  Calls Tryz.prog 126 #[jR m,.string s] w fun e w'=>e= .returned (.tuple #[.int .u32 (ofN m s.data.toList:Nat),.nilIface])∧Below w.heap.size w w':=by
 have hlen:s.data.toList.length=s.size:=gO s;generalize hl:s.data.toList=l at *
 have HL:=hid hl;clear hl;unfold jR bn;go_enter Tryz.func126,Tryz.ntmps126;go_wp2_with fail;refine(DQ m _ hm).mono ?_;rintro e w1 ⟨rfl,hb1⟩;have hrow:=(ae.new w 214 (bn m)).below hb1 (by simp[bn]);have hb:=((Y4 w.heap.size w).alloc (Z5 _) (.cells (bn m) 214)).trans (hb1.mono (by simp[bn]));clear hb1;have hc3:=hrow.cell0 3 (by simp[bn]);simp only[bn,Z0,Z1]at hc3;generalize hB:w.heap.size=B at *
 have HB:=hid hB;clear hB;go_wp2_with fail;go_loopw [6,16] (fun v i wr=>∃k:Nat,k≤s.size∧i= .int .i64 k∧v= .int .u32 (ld m m.i (l.take k):Nat)∧ae wr B 0 214 (bn m).toList∧Below B w wr) (fun v i _=>s.size - (intOf i).toNat)
 case atStart=>exact⟨0,by omega,rfl,rfl,hrow,hb⟩
 case round=>
  clear hrow hb hc3;obtain⟨k,hk,rfl,rfl,hrow,hb⟩:=hrel;have hfl:=qY m hm (l.take k) m.i hm.i;have hwl:=JZ m hm;have hlB:=hrow.lt;generalize hR:ld m m.i (l.take k)=R at *
  have HR:=hid hR;clear hR
  by_cases hlt:k < s.size
  ·have hc0:=hrow.cell0 0 (by simp[bn]);have hc1:=hrow.cell0 1 (by simp[bn]);have hc2:=hrow.cell0 2 (by simp[bn]);have hc3:=hrow.cell0 3 (by simp[bn]);have hc4:=hrow.cell0 4 (by simp[bn]);simp only[bn,Z0,Z1]at hc0 hc1 hc2 hc3 hc4;have hsn:=Af m m.i l k (by omega);rw[HR.out]at hsn;have hb8:(l.getD k 0).toNat < 256:=UInt8.toNat_lt _;have hbe:s[k].toNat=(l.getD k 0).toNat:=by rw[Ji s k hlt,HL.out]
   generalize(l.getD k 0).toNat=c at *
   have HBE:=hid hbe;clear hbe;have HSN:=hid hsn;clear hsn;go_wp2_with fail;go_still_tail 5,(by kernel_rfl);change wpList _ _ _ _ _ wr.drew;go_wp2_with fail;rw[HBE.out];refine(Gm m R c _ hm hfl hb8).mono ?_;rintro e w2 ⟨rfl,hb2⟩;go_wp2_with fail;go_roundw
   case rel=>exact⟨k+1,by omega,by go_num,by rw[HSN.out],hrow.drew.below hb2 hlB,hb.drew.trans (hb2.mono (Nat.le_of_lt hlB))⟩
   case measure=>simp[intOf];omega
  ·obtain rfl:k=s.size:=by omega
   have hc0:=hrow.cell0 0 (by simp[bn]);have hc1:=hrow.cell0 1 (by simp[bn]);have hc2:=hrow.cell0 2 (by simp[bn]);have hc3:=hrow.cell0 3 (by simp[bn]);have hc4:=hrow.cell0 4 (by simp[bn]);simp only[bn,Z0,Z1]at hc0 hc1 hc2 hc3 hc4;go_wp2_with fail;refine(IT m R _ hm hfl).mono ?_;rintro e w2 ⟨rfl,hb2⟩;go_wp2_with fail;go_ret2;refine⟨?_,by rw[HB.out];exact hb.trans (hb2.mono (Nat.le_of_lt hlB))⟩;have hR2:R=ld m m.i l:=by rw[← HR.out,← hlen,List.take_length]
   rw[ofN,← hR2];rfl
def Ag:gL:=⟨32,79764919,true,4294967295,4294967295⟩
theorem mV:Ag.Ok:=⟨.inr (.inr rfl),by decide,by decide,by decide,by decide⟩
theorem IU(s:ByteArray)(w:World)(hs:s.size≤140737488351232):
  Calls Tryz.prog 101 #[.string s] w fun e w'=>e= .returned (.int .u32 (ofN Ag s.data.toList:Nat))∧Below w.heap.size w w':=by
 go_enter Tryz.func101,Tryz.ntmps101;go_wp2_with fail;refine(Ka Ag s _ mV hs).mono ?_;rintro e w1 ⟨rfl,hb⟩;go_wp2_with fail;go_ret;exact⟨rfl,hb⟩
end
section
open Go Go.RowKit
open Rd
open Ly
namespace Fx
open Tm Ly
theorem oq:∀(i:Nat) (v:Int) (l:Nds),(dR i v l).tot=l.tot
 |_,_,.nil=>by cases ‹Nat› <;> rfl
 |0,v,.cons ..=>rfl
 |n+1,v,.cons a b c d e f g r=>by simp only[dR,Nds.tot,oq n v r]
theorem vc:∀(i:Nat) (v:Int) (l:Nds),Ex.InR v→l.ok→(dR i v l).ok
 |_,_,.nil,_,h=>by cases ‹Nat› <;> exact h
 |0,v,.cons ..,hv,h=>⟨hv,h.2⟩
 |n+1,v,.cons a b c d e f g r,hv,h=>⟨h.1,h.2.1,vc n v r hv h.2.2⟩
theorem ot:∀(L M:List (Option Wd)) (u:Wd),dH (L++M)=some u→∃u1 u2,dH L=some u1∧dH M=some u2∧u=u1++u2
 |[],M,u,h=>⟨[],u,rfl,h,rfl⟩
 |x::L,M,u,h=>by
  have h2:x.bind (fun t=>(dH (L++M)).map (t++ ·))=some u:=h;cases x with
  |none=>cases h2
  |some t=>
   simp only[Option.bind_some]at h2;cases h3:dH (L++M)with
   |none=>rw[h3]at h2;cases h2
   |some v=>
    rw[h3]at h2;simp only[Option.map_some,Option.some.injEq]at h2;obtain⟨u1,u2,e1,e2,rfl⟩:=ot L M v h3;refine⟨t++u1,u2,?_,e2,by rw[← h2,List.append_assoc]⟩;show(some t).bind (fun t=>(dH L).map (t++ ·))=_;rw[e1];rfl
theorem DR{L:List (Option Wd)}{u:Wd}(h:dH L=some u)(a c:Nat):∃v,dH ((L.drop a).take c)=some v∧v.length≤u.length:=by
 rw[← List.take_append_drop a L]at h;obtain⟨u1,u2,e1,e2,rfl⟩:=ot _ _ _ h;rw[← List.take_append_drop c (L.drop a)]at e2;obtain⟨v1,v2,f1,f2,rfl⟩:=ot _ _ _ e2;exact⟨v1,f1,by simp;omega⟩
theorem oQ{W:Wri}(hWl:fs W){l:Its}{ks:Nds}(h:(aF W l ks).isSome=true)(a b:Nat):∃u,jL W l ks a b=some u∧u.length≤ks.tot:=by
 obtain⟨t,ht⟩:=Option.isSome_iff_exists.1 h;have hle:=kx hWl l ks t ht;rw[eV]at ht;split at ht
 ·obtain⟨v,h1,h2⟩:=DR ht a (b+1 - a);exact⟨v,h1,by omega⟩
 ·cases ht
theorem kH{n:Nat}(h:n≤4294967296):Ex.InR (n:Int):=⟨by omega,by omega⟩
theorem re{C:Wd→Nat}(hC:∀u,C u < 4294967296){W:Wri}(hWl:fs W){l:Its}{ks:Nds}(h:(aF W l ks).isSome=true)(ht:ks.tot≤800000)(hd:Hd):Ex.InR (av C W l ks hd):=by
 unfold av;cases hd.ay with
 |none=>exact(show Ex.InR 0 from⟨by decide,by decide⟩)
 |size f=>
  obtain⟨u,h1,h2⟩:=oQ hWl h (aV l.row f).toNat (aV l.row f).toNat;simp only[h1,Option.getD_some];exact kH (by omega)
 |count f=>
  simp only[];cases hn:nth (aV l.row f).toNat ks with
  |none=>exact⟨by decide,by decide⟩
  |some d=>
   have h2:d.kids.len * 8≤ks.tot:=by
    clear h;generalize(aV l.row f).toNat=k at hn
    induction k generalizing ks with
    |zero=>
     cases ks with
     |nil=>cases hn
     |cons a b c d' e f g r=>
      cases hn;have:=fR g;simp only[Nds.tot];omega
    |succ k ih=>
     cases ks with
     |nil=>cases hn
     |cons a b c d' e f g r=>
      simp only[Nds.tot]at ht⊢;have:=ih (ks:=r) (by omega) hn;omega
   simp only[Option.map_some,Option.getD_some];exact kH (by omega)
 |check f g=>
  simp only[];split
  ·exact⟨by decide,by decide⟩
  ·exact kH (Nat.le_of_lt (hC _))
def OkF(W:Wri)(B:Fxr):Prop:=∀nm ks p,B nm ks=some p→(W nm ks).isSome=true→ks.ok→ks.tot≤800000→p.ok∧p.tot=ks.tot
theorem vd{C:Wd→Nat}(hC:∀u,C u < 4294967296){W:Wri}(hWl:fs W){l:Its}(hf:bG l):∀(O:List Nat) (ks p:Nds),(∀i∈O,i∈ord l.row)→eG C W l O ks=some p→(aF W l ks).isSome=true→ks.ok→ks.tot≤800000→p.ok∧p.tot=ks.tot
 |[],ks,p,_,h,_,ho,_=>by cases h;exact⟨ho,rfl⟩
 |i::O,ks,p,hO,h,hw,ho,ht=>by
  unfold eG at h;obtain⟨q,h1,h2⟩:=Option.bind_eq_some_iff.1 h;have hwq:=mG hf (hO i (by simp)) h1 hw;have hq:q.ok∧q.tot=ks.tot:=by
   unfold gK at h1;split at h1
   ·cases h1;exact⟨ho,rfl⟩
   ·split at h1
    ·cases h1;exact⟨vc _ _ _ (re hC hWl hw ht _) ho,oq _ _ _⟩
    ·cases h1
  have:=vd hC hWl hf O q p (fun i hi=>hO i (by simp[hi])) h2 hwq hq.1 (by omega);exact⟨this.1,by omega⟩
theorem yd{f:Nds→Option Nds}{P:Nds→Prop}(hf:∀ks p,f ks=some p→P ks→ks.ok→ks.tot≤800000→p.ok∧p.tot=ks.tot):∀(ks p:Nds),dI f ks=some p→DC P ks→ks.ok→ks.tot≤800000→p.ok∧p.tot=ks.tot
 | .nil,p,h,_,ho,_=>by cases h;exact⟨ho,rfl⟩
 | .cons a b c d e t g r,p,h,hP,ho,ht=>by
  unfold dI at h;obtain⟨g',h1,h2⟩:=Option.bind_eq_some_iff.1 h;obtain⟨q,h3,rfl⟩:=Option.map_eq_some_iff.1 h2;simp only[Nds.tot]at ht;have e1:=hf _ _ h1 hP.1 ho.2.1 (by omega);have e2:=yd hf r q h3 hP.2 ho.2.2 (by omega);refine⟨⟨ho.1,e1.1,e2.1⟩,?_⟩;simp only[Nds.tot];omega
theorem Kb{W:Wri}{B:Fxr}(hO:OkF W B){h:Hd}{d:Nd}{p:Nds}(hh:hdF B h d.kids=some p)(hw:(aY W h d).isSome=true)(ho:d.kids.ok)(ht:d.kids.tot≤800000):p.ok∧p.tot=d.kids.tot:=by
 unfold hdF at hh;cases hk:h.k with
 |scalar w=>rw[hk]at hh;cases hh;exact⟨ho,rfl⟩
 |bytes=>rw[hk]at hh;cases hh;exact⟨ho,rfl⟩
 |struct t=>
  rw[hk]at hh;simp only[]at hh;unfold aY at hw
  by_cases hm:cP h=true
  ·rw[if_pos hm]at hh hw;split at hw
   ·cases hw
   ·exact yd (P:=fun X=>(W t X).isSome=true) (fun ks p h1 h2 h3 h4=>hO t ks p h1 h2 h3 h4) _ _ hh (jO (fun d h=>bj hk h) _ hw) ho ht
  ·rw[if_neg hm]at hh hw;exact hO t _ _ hh (bj hk hw) ho ht
theorem iG{C:Wd→Nat}(hC:∀u,C u < 4294967296){W:Wri}(hWl:fs W){B:Fxr}(hK:kY W B)(hO:OkF W B):∀(l:Its),bG l→∀(ks p:Nds),aO C W B l ks=some p→(aF W l ks).isSome=true→ks.ok→ks.tot≤800000→p.ok∧p.tot=ks.tot
 | .nil,_,ks,p,h,_,ho,_=>by unfold aO at h;cases h;exact⟨ho,rfl⟩
 | .cons h l,_,.nil,p,hh,_,ho,_=>by unfold aO at hh;cases hh;exact⟨ho,rfl⟩
 | .when ..,_,.nil,p,h,_,ho,_=>by unfold aO at h;cases h;exact⟨ho,rfl⟩
 | .cons h l,hf,.cons a b c d e f g r,p,hh,hw,ho,ht=>by
  unfold aO at hh;obtain⟨g',h1,h2⟩:=Option.bind_eq_some_iff.1 hh;obtain⟨q,h3,rfl⟩:=Option.map_eq_some_iff.1 h2;simp only[Nds.tot]at ht;have hw2:=bR hw;have e1:=Kb hO (d:=⟨a,b,c,d,e,f,g⟩) h1 hw2.1 ho.2.1 (by simp only[];omega);have e2:=iG hC hWl hK hO l hf.2 r q h3 hw2.2 ho.2.2 (by omega);simp only[]at e1;refine⟨⟨ho.1,e1.1,e2.1⟩,?_⟩;simp only[Nds.tot];omega
 | .when p0 q0 body l,hf,.cons a b c d e f g r,p,hh,hw,ho,ht=>by
  unfold aO at hh;obtain⟨g',h1,h2⟩:=Option.bind_eq_some_iff.1 hh;obtain⟨q,h3,rfl⟩:=Option.map_eq_some_iff.1 h2;simp only[Nds.tot]at ht;have hw2:=bI hw;have e1:g'.ok∧g'.tot=g.tot:=by
   by_cases he:e=0
   ·rw[if_pos he]at h1;cases h1;exact⟨ho.2.1,rfl⟩
   ·rw[if_neg he]at h1;obtain⟨z,z1,z2⟩:=Option.bind_eq_some_iff.1 h1;have w1:=hw2.1 he;have f1:=iG hC hWl hK hO body hf.2.1 g z z1 w1 ho.2.1 (by omega);have f2:=vd hC hWl hf.2.1 _ z g' (fun i hi=>hi) z2 (dj hK body hf.2.1 g z z1 w1) f1.1 (by omega);exact⟨f2.1,by omega⟩
  have e2:=iG hC hWl hK hO l hf.2.2 r q h3 hw2.2.2 ho.2.2 (by omega);refine⟨⟨ho.1,e1.1,e2.1⟩,?_⟩;simp only[Nds.tot];omega
theorem IV{C:Wd→Nat}(hC:∀u,C u < 4294967296){W:Wri}(hWl:fs W){B:Fxr}(hK:kY W B)(hO:OkF W B){l:Its}(hf:bG l){ks p:Nds}(h:fu C W B l ks=some p)(hw:(aF W l ks).isSome=true)(ho:ks.ok)(ht:ks.tot≤800000):p.ok∧p.tot=ks.tot:=by
 unfold fu at h;obtain⟨z,z1,z2⟩:=Option.bind_eq_some_iff.1 h;have f1:=iG hC hWl hK hO l hf ks z z1 hw ho ht;have f2:=vd hC hWl hf _ z p (fun i hi=>hi) z2 (dj hK l hf ks z z1 hw) f1.1 (by omega);exact⟨f2.1,by omega⟩
theorem mW{C:Wd→Nat}(hC:∀u,C u < 4294967296):∀(L:List Ty),(∀t∈L,bg t)→OkF (wrS L) (dn C L)
 |[],_,nm,ks,p,h,hw,_,_=>by cases hw
 |t::r,hF,nm,ks,p,h,hw,ho,ht=>by
  unfold dn at h;unfold wrS at hw;have hr:∀t∈r,bg t:=fun t ht=>hF t (by simp[ht])
  by_cases hn:t.name=nm
  ·rw[if_pos hn]at h hw;exact IV hC (nU r) (fQ r hr) (mW hC r hr) (hF t (by simp)).2 h hw ho ht
  ·rw[if_neg hn]at h hw;exact mW hC r hr nm ks p h hw ho ht
theorem ye:∀(i:Nat) (ks:Nds) (d:Nd) (r:Nds),ks.drop i=d.put r→nth i ks=some d
 |0,.nil,d,r,h=>by cases h
 |0,.cons a b c e f g k r',d,r,h=>by
  have h2:Nds.cons a b c e f g k r'=Nds.cons d.name d.kind d.at_ d.size d.val d.text d.kids r:=h;injection h2 with e1 e2 e3 e4 e5 e6 e7 e8
  subst e1 e2 e3 e4 e5 e6 e7;rfl
 |i+1,.nil,d,r,h=>by cases h
 |i+1,.cons a b c e f g k r',d,r,h=>ye i r' d r h
theorem ow:∀(l:Its) (i:Nat) (h:Hd),eT l i=some h→∃r,l.drop i= .cons h r
 | .nil,i,h,hh=>by cases i <;> cases hh
 | .cons h0 l,0,h,hh=>by cases hh;exact⟨l,rfl⟩
 | .when _ _ _ l,0,h,hh=>by cases hh
 | .cons h0 l,i+1,h,hh=>ow l i h hh
 | .when _ _ _ l,i+1,h,hh=>ow l i h hh
theorem BB:∀(k:Nat) (ks:Nds) (d:Nd),nth k ks=some d→d.kids.len * 8≤ks.tot
 |k,.nil,d,h=>by cases k <;> cases h
 |0,.cons a b c e f g x r,d,h=>by
  cases h;have:=fR x;simp only[Nds.tot];omega
 |k+1,.cons a b c e f g x r,d,h=>by
  have:=BB k r d h;simp only[Nds.tot];omega
def bE(u:Wd):Nat:=ofN Ag u
theorem jb(u:Wd):bE u < 4294967296:=Nat.lt_of_lt_of_le (IQ Ag mV _ (qY Ag mV _ _ mV.i)) (JZ Ag mV)
end Fx
end
end Go.Proofs.YtlomecfhobehnaaGreatDoor
