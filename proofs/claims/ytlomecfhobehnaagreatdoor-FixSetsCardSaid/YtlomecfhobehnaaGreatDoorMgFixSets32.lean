import Derived.Test.YtlomecfhobehnaaGreatDoorMgFixSets31
set_option linter.unusedVariables false
set_option linter.unusedSimpArgs false
set_option maxRecDepth 100000
set_option maxHeartbeats 1000000
namespace Go.Proofs.YtlomecfhobehnaaGreatDoor
open Lib (hid)
section
open Go Go.RowKit
open Rd
open Ly
theorem ju(A:List Tm.Ty)(W:Wri)(hWl:fi W)(ts:List Tm.Wd)(hS:∀nm∈ts,tB A W nm):∀(n:Nat) (l:Tm.Its),l.sz < n→Tm.bB l→kx ts l→l.sz≤100000→kA A W l
 |0,l,h,_,_,_=>absurd h (Nat.not_lt_zero _)
 |n+1,l,h,hF,hR,hz=>by
  refine tC A W hWl l hF (Nat.le_trans (Tm.kS l) hz) (fun i a c b r hd=> ?_) (fun i hh r t hd hk=> ?_)
  ·have h1:=Tm.df i l hF;have h2:=dG i l hR;have h3:=Tm.gE i l;rw[hd]at h1 h2 h3;have h4:b.sz+1≤(Tm.Its.when a c b r).sz:=by simp only[Tm.Its.sz];omega
   exact ju A W hWl ts hS n b (by omega) h1.2.1 h2.1 (by omega)
  ·have h2:=dG i l hR;rw[hd]at h2;exact hS t (h2.1 t hk)
theorem pX(A:List Tm.Ty)(hA:∀t∈A,Tm.aZ t∧Tm.Its.sz t.items≤100000):∀(r:List Tm.Ty),(∀t∈r,t∈A)→fW r→∀nm∈names r,tB A (wrS r) nm
 |[],_,_,nm,h=>by cases h
 |t::r,hm,hc,nm,h=>by
  obtain⟨c1,c2,c3⟩:=hc;have ih:=pX A hA r (fun t' ht'=>hm t' (List.mem_cons_of_mem _ ht')) c3;have htA:=hm t (by simp);obtain⟨f1,f2⟩:=hA t htA
  by_cases hn:t.name=nm
  ·refine⟨t,htA,hn,by have:=jR f1.1.2;omega,wrS r,fun ks=> ?_,ju A (wrS r) (mZ r) (names r) ih _ t.items (Nat.lt_succ_self _) f1.2 c2 f2⟩;show(if t.name=t.name then _ else _)=_;rw[if_pos rfl]
  ·have hr:nm∈names r:=by
    rcases List.mem_cons.1 h with h|h
    ·exact absurd h.symm hn
    ·exact h
   obtain⟨t2,g1,g2,g3,W',g4,g5⟩:=ih nm hr;refine⟨t2,g1,g2,g3,W',fun ks=> ?_,g5⟩;show(if t.name=t2.name then _ else _)=_;rw[if_neg (by rw[g2];exact hn)];exact g4 ks
theorem vJ:∀{l:List Tm.Ty} {nm:Tm.Wd} (_:nm∉names l) (ks:Nds),wrS l nm ks=none
 |[],_,_,_=>rfl
 |t::r,nm,h,ks=>by
  show(if t.name=nm then _ else _)=_;rw[if_neg (fun e=>h (by rw[← e];simp[names]))];exact vJ (fun h2=>h (by simp only[names,List.map_cons,List.mem_cons];exact .inr h2)) ks
theorem nf{l:List Tm.Ty}{root:Tm.Wd}{d:Nd}{u:Tm.Wd}(h:aY (wrS l) (cf root) d=some u):root∈names l:=by
 by_cases hm:root∈names l
 ·exact hm
 ·obtain⟨_,_,h3⟩:=ik h;rw[show(cf root).k= .struct root from rfl]at h3;have h4:wrS l root d.kids=some u:=h3;rw[vJ hm]at h4;cases h4
structure WcS(U W:World)(rb fb B:Nat)(A:List Tm.Ty)(root:Tm.Wd)(d:Nd)(gk:Option Addr)(gcap:Nat)(vs:List Value)(b1:List Nat)(c0 c1 cn cs:Nat):Prop where
 bel:Below U.heap.size U W
 form:bR U W rb fb A
 r0:ad W c0 0 59 [.map (some fb)]
 r1:ad W c1 0 9 [.string (aa root)]
 r2:ad W cn 0 28 (ae d.name d.kind d.at_ d.size d.val d.text (.slice gk d.kids.len gcap))
 r3:ad W cs 0 9 [.string {data:= #[]}]
 own:an W B 28 7 gk d.kids.len gcap vs
 enc:aW W B d.kids b1 vs
theorem WcS.up{U W W':World}{rb fb B:Nat}{A:List Tm.Ty}{root:Tm.Wd}{d:Nd}{gk:Option Addr}{gcap:Nat}{vs:List Value}{b1:List Nat}{c0 c1 cn cs:Nat}(h:WcS U W rb fb B A root d gk gcap vs b1 c0 c1 cn cs)(hb:Below W.heap.size W W'):WcS U W' rb fb B A root d gk gcap vs b1 c0 c1 cn cs:=
 ⟨h.bel.trans (hb.mono h.bel.size),h.form.al (hb.block _ h.form.lt),h.r0.below hb h.r0.lt,h.r1.below hb h.r1.lt,h.r2.below hb h.r2.lt,h.r3.below hb h.r3.lt,h.own.below hb (Z5 _),h.enc.al _ _ _ (fun b hbl=>hb.block b (h.enc.mem _ _ _ b hbl).2)⟩
theorem yJ(U W:World)(rb fb B:Nat)(A:List Tm.Ty)(root u:Tm.Wd)(d:Nd)(gk:Option Addr)(gcap:Nat)(vs:List Value)(b1:List Nat)(c0 c1 cn cs:Nat)(h:WcS U W rb fb B A root d gk gcap vs b1 c0 c1 cn cs)(hsub:tB A (wrS A.reverse) root)(ho:aY (wrS A.reverse) (cf root) d=some u)(hok:d.ok)(htot:d.tot≤1000000):
  Calls Tryz.prog 32 #[.pointer (some ⟨c0,0,none⟩),.pointer (some ⟨c1,0,none⟩),.pointer (some ⟨cn,0,none⟩),.pointer (some ⟨cs,0,none⟩)] W fun e w1=>e= .returned (.tuple #[])∧∃w0,Below W.heap.size W w0∧w1=w0.setCell ⟨cs,0,none⟩ (.string (aa u)):=by
 obtain⟨t,ht,hnm,htl,W',hW,hI⟩:=hsub;subst hnm;have k0:=h.r0.cell0 0 (by simp);have k1:=h.r1.cell0 0 (by simp);simp only[Z0]at k0 k1;obtain⟨V,hV⟩:∃V,V=W.alloc (.cells #[.int .i64 3,.int .i64 0,.string (aa t.name),.string (aa t.name),.int .i64 0,.int .i64 0,.bool false,.bool false,.pointer none,.int .i64 0,.string {data:= #[]},.string {data:= #[]},.slice none 0 0] 70):=⟨_,rfl⟩;have hrow:ad V W.heap.size 0 70 (Tm.ag (cf t.name) (.pointer none)):=by rw[hV];exact ad.new W _ _
 have hbV:Below W.heap.size W V:=by rw[hV];exact(Y4 _ _).alloc (Z5 _) _
 have hV2:=h.up hbV;have hC:=nT A (wrS A.reverse) W' t ht hW hI htl (.pointer none) cn 0 W.heap.size 0 (cf t.name) d u U V rb fb B gcap gk vs b1 hV2.bel hV2.form rfl ho hrow hV2.r2 hok.2 (by unfold Nd.tot at htot;omega) hV2.own hV2.enc;have HC:=hid hC;have HV:=hid hV;have HBV:=hid hbV;have HR3:=hid hV2.r3;clear h hC hrow hV hbV hV2 hW hI ho hok htot;go_enter Tryz.func32,Tryz.ntmps32;go_wp2_with fail;rw[← HV.out];refine HC.out.mono ?_;rintro e w2 ⟨hb2,rfl⟩;have hr3:=HR3.out.below hb2 HR3.out.lt;have y0:=hr3.cell0 0 (by simp);have z0:=hr3.frozen0 0 (by simp);simp only[Z0]at y0;have HB2:=hid (HBV.out.trans (hb2.mono HBV.out.size));clear hb2 hr3 k0 k1;go_wp2_with fail;refine bodyPost_end (results_none rfl _ _ _) rfl ?_;exact⟨rfl,w2,HB2.out,rfl⟩
theorem iN(tys:List Tm.Ty)(root u:Tm.Wd)(d:Nd)(w:World)(rb cap B Bn:Nat)(a:Option Addr)(vs:List Value)(v:Value)(bl:List Nat)(ho:an w B 97 3 a tys.length cap vs)(he:Tm.cF w rb tys vs)(hF:∀t∈tys,Tm.aZ t∧Tm.Its.sz t.items≤100000)(hn:tys.length≤100)(hch:fW tys.reverse)
  (hr:root.length≤200000000000000)(hd:NdV w Bn bl d v)(hok:d.ok)(htot:d.tot≤1000000)(hw:aY (wrS tys.reverse) (cf root) d=some u):
  Calls Tryz.prog 10 #[.slice a tys.length cap,.string (aa root),v] w fun e w'=>Below w.heap.size w w'∧e= .returned (.tuple #[.string (aa u),.nilIface]):=by
 have hnd:(tys.map (·.name)).Nodup:=by
  have:=gF hch;rw[List.map_reverse]at this;exact(List.pairwise_reverse.1 this).imp (fun h=>Ne.symm h)
 have hfo:=fun W (hW:Below w.heap.size w W)=>kX tys w W hW rb cap B a vs ho he (fun t ht=>(hF t ht).1) hn hnd
 have hroot:root∈names tys:=(mX tys root).1 (nf hw);have hsub:=pX tys hF tys.reverse (fun t ht=>List.mem_reverse.1 ht) hch root (nf hw);obtain⟨n,hn'⟩:∃n,n=tys.length:=⟨_,rfl⟩;rw[← hn']at hfo⊢;obtain⟨gk,gcap,ks,b1,hv,hbl,hkO,hkE⟩:=hd;have hv2:v= .agg #[.string (aa d.name),.int .i64 (d.kind:Nat),.int .i64 (d.at_:Nat),.int .i64 (d.size:Nat),.int .i64 d.val,.string (aa d.text),.slice gk d.kids.len gcap]:=hv;subst hv2;obtain⟨W2,hW2⟩:∃W2,W2=(w.alloc (.cells #[.string (aa root)] 9)).alloc (.cells #[.string (aa d.name),.int .i64 (d.kind:Nat),.int .i64 (d.at_:Nat),.int .i64 (d.size:Nat),.int .i64 d.val,.string (aa d.text),.slice gk d.kids.len gcap] 28):=⟨_,rfl⟩;have hb2:Below w.heap.size w W2:=by rw[hW2];exact((Y4 _ _).alloc (Z5 _) _).alloc (by simp) _
 have h20:ad W2 w.heap.size 0 9 [.string (aa root)]:=by rw[hW2];exact(ad.new w _ _).alloc _
 have h21:ad W2 (w.heap.size+1) 0 28 (ae d.name d.kind d.at_ d.size d.val d.text (.slice gk d.kids.len gcap)):=by rw[hW2];exact ad.ix _ _ (by simp) _ _
 have HFO:=hid (hfo W2 hb2);have HW2:=hid hW2;have H2:=hid (And.intro hb2 (And.intro h20 h21));have HKK:=hid (And.intro hkO hkE);have HROOT:=hid hroot;have HSUB:=hid hsub;have HOK:=hid (And.intro hok htot);have HWW:=hid hw;clear hfo ho he hn' hW2 hb2 h20 h21 hkO hkE hroot hsub hok htot hw hbl hnd hv;go_enter Tryz.func10,Tryz.ntmps10;go_wp2_with fail;rw[← HW2.out];refine HFO.out.mono ?_;rintro e w4 ⟨rfl,hb4,hf4⟩;have hb24:Below w.heap.size w w4:=H2.out.1.trans (hb4.mono H2.out.1.size);obtain⟨lv,hlk⟩:=hf4.look_ok hr;have q1:decide (root∈names tys)=true:=Z9 HROOT.out;rw[q1]at hlk;obtain⟨V,hV⟩:∃V,V=w4.alloc (.cells #[.map (some W2.heap.size)] 59):=⟨_,rfl⟩;have hbV:Below w4.heap.size w4 V:=by rw[hV];exact(Y4 _ _).alloc (Z5 _) _
 have hl0:=hlk V (hbV.block _ hf4.lt);have hr0:ad V w4.heap.size 0 59 [.map (some W2.heap.size)]:=by rw[hV];exact ad.new w4 _ _
 have hr1:ad V w.heap.size 0 9 [.string (aa root)]:=(H2.out.2.1.below hb4 H2.out.2.1.lt).below hbV (Nat.lt_of_lt_of_le H2.out.2.1.lt hb4.size);have hr2:ad V (w.heap.size+1) 0 28 _:=(H2.out.2.2.below hb4 H2.out.2.2.lt).below hbV (Nat.lt_of_lt_of_le H2.out.2.2.lt hb4.size);have hfV:=hf4.al (hbV.block _ hf4.lt);have hbwV:Below w.heap.size w V:=hb24.trans (hbV.mono hb24.size);have c0:=hr0.cell0 0 (by simp);have c1:=hr1.cell0 0 (by simp);simp only[Z0]at c0 c1;rw[hV]at c0 c1 hl0;have HR:=hid (And.intro hr0 (And.intro hr1 (And.intro hr2 (And.intro hfV hbwV))));have HV:=hid hV;clear hb4 hf4 hb24 hlk hbV hr0 hr1 hr2 hfV hbwV hV;go_wp2_with fail;rw[← HV.out];obtain⟨hr0,hr1,hr2,hfV,hbwV⟩:=HR.out;have hVs:V.heap.size=w4.heap.size+1:=by rw[HV.out];simp
 obtain⟨V1,hV1⟩:∃V1,V1=V.alloc (.cells #[.string {data:= #[]}] 9):=⟨_,rfl⟩;rw[← hV1];have hbV1:Below V.heap.size V V1:=by rw[hV1];exact(Y4 _ _).alloc (Z5 _) _
 have hcs:ad V1 (w4.heap.size+1) 0 9 [.string {data:= #[]}]:=by rw[hV1];exact ad.ix _ _ hVs.symm _ _
 have hb1:Below w.heap.size w V1:=hbwV.trans (hbV1.mono hbwV.size);have hWC:WcS w V1 rb W2.heap.size Bn tys root d gk gcap ks b1 w4.heap.size w.heap.size (w.heap.size+1) (w4.heap.size+1):=⟨hb1,hfV.al (hbV1.block _ hfV.lt),hr0.below hbV1 hr0.lt,hr1.below hbV1 hr1.lt,hr2.below hbV1 hr2.lt,hcs,HKK.out.1.below hb1 (Z5 _),HKK.out.2.al _ _ _ (fun b hb=>hb1.block b (HKK.out.2.mem _ _ _ b hb).2)⟩;have hWC2:=hWC.up ((Y4 V1.heap.size V1).alloc (Z5 _) (.cells #[.nilIface] 30));have hcall:=yJ w _ rb W2.heap.size Bn tys root u d gk gcap ks b1 _ _ _ _ hWC2 HSUB.out HWW.out HOK.out.1 HOK.out.2;have hcsl:=hcs.lt;have hCL:Calls Tryz.prog 32 #[.pointer (some ⟨w4.heap.size,0,none⟩),.pointer (some ⟨w.heap.size,0,none⟩),.pointer (some ⟨w.heap.size+1,0,none⟩),.pointer (some ⟨w4.heap.size+1,0,none⟩)] (V1.alloc (.cells #[.nilIface] 30))
   (du V1 (fun w1=>∃w0,Below (V1.alloc (.cells #[.nilIface] 30)).heap.size (V1.alloc (.cells #[.nilIface] 30)) w0∧w1=w0.setCell ⟨w4.heap.size+1,0,none⟩ (.string (aa u))) (fun _=>False)):=by
  refine hcall.mono ?_;rintro e w1 ⟨he,w0,hb0,rfl⟩;exact⟨(Below.heap_setCell w0 ⟨w4.heap.size+1,0,none⟩ _ V1.heap.size (show V1.heap.size≠w4.heap.size+1 by omega)).trans (hb0.block _ (by simp)),.inl ⟨he,w0,hb0,rfl⟩⟩
 have HCA:=hid (tw _ _ _ _ V1 _ _ hCL);have HB1:=hid hb1;have HCS:=hid hcs;have HSZ:=hid (show w.heap.size≤w4.heap.size from by have:=hr0.lt;have h2:=hbwV.size;have h3:=hr1.lt;have h4:=hr2.lt;omega);clear hr0 hr1 hr2 hfV hbwV hV1 hbV1 hcs hb1 hWC hWC2 hcall hcsl hCL c0 c1 hl0 q1 hVs;refine HCA.out.mono ?_;unfold fL;rintro e w' (⟨rfl,w1,⟨w0,hb0,rfl⟩,rfl⟩|⟨t,v,rfl,w1,o,hfalse,rfl⟩)
 ·have hrc:ad (w0.setCell ⟨w4.heap.size+1,0,none⟩ (.string (aa u))) (w4.heap.size+1) 0 9 [.string (aa u)]:=((HCS.out.alloc _).below hb0 (by have:=HCS.out.lt;simp;omega)).aw 0 (by simp) _;have hne:w4.heap.size+1≠V1.heap.size:=by have:=HCS.out.lt;omega
  have hrd:=hrc.far (p:=⟨V1.heap.size,0,none⟩) hne .nilIface;have cc:=hrd.cell0 0 (by simp);simp only[Z0]at cc;have hbf:Below w.heap.size w ((w0.setCell ⟨w4.heap.size+1,0,none⟩ (.string (aa u))).setCell ⟨V1.heap.size,0,none⟩ .nilIface):=by
   have e1:Below w.heap.size w w0:=(HB1.out.alloc HB1.out.size _).trans (hb0.mono (by have:=HB1.out.size;simp;omega));exact(e1.setCell (p:=⟨w4.heap.size+1,0,none⟩) (show w.heap.size≤w4.heap.size+1 by have:=HSZ.out;omega) _).setCell (p:=⟨V1.heap.size,0,none⟩) HB1.out.size _
  have HBF:=hid hbf;clear hb0 hrc hrd hbf hne;go_wp2_with fail;go_ret2;exact⟨HBF.out,rfl⟩
 ·exact hfalse.elim
theorem vK(c0 c1 c2 c3:Value)(w:World)(R B:World→Prop)(hf:Calls Tryz.prog 142 #[c0,c1,c2,c3] (w.alloc (.cells #[.nilIface] 30)) (du w R B)):
  Calls Tryz.prog 28 #[.func (.func 142) #[] #[c0,c1,c2,c3]] w (fL w R B):=by
 have HF:=hid hf;clear hf
 go_enter_defers Tryz.func28,Tryz.ntmps28
 go_wp2_with fail;refine HF.out.mono ?_;unfold du;rintro e w1 ⟨hk,h⟩;have hrow:ad (w.alloc (.cells #[.nilIface] 30)) w.heap.size 0 30 [.nilIface]:=ad.new w 30 #[.nilIface];have hrow1:=hrow.of_heap hk;have hc1:=hrow1.cell0 0 (by simp);have hf1:=hrow1.frozen0 0 (by simp);simp only[Z0]at hc1;have hl1:=hrow1.lt;clear hrow hrow1 hk;rcases h with⟨rfl,hR⟩|⟨⟨t,v,he⟩,hB⟩
 ·have HR:=hid hR;have hc4:(w1.setCell ⟨w.heap.size,0,none⟩ .nilIface).cell? ⟨w.heap.size,0,none⟩=some .nilIface:=World.cell?_setCell_same' _ _ _ (by rw[hc1];rfl);clear hR;go_wp2_with fail;refine leaves_cons (f:=59) (args:= #[.pointer (some ⟨w.heap.size,0,none⟩)]) (by simp) (by simp[go_sem]) ?_;refine(js w.heap.size _).mono ?_;rintro e u' w5 ⟨rfl,rfl,rfl⟩;simp[Leaves,settle,results,Tryz.results28,go_sem,hc4];exact .inl ⟨rfl,_,HR.out,rfl⟩
 ·unfold bA at he;subst he;have HB:=hid hB;clear hB;go_wp2_with fail;refine leaves_cons (f:=59) (args:= #[.pointer (some ⟨w.heap.size,0,none⟩)]) (by simp) (by simp[go_sem]) ?_;refine(gN w.heap.size .nilIface t v [] _ hc1 hf1 hl1).mono ?_;rintro e u' w5 ⟨rfl,rfl,o,rfl⟩;have hc5:(w1.setCell ⟨w.heap.size,0,none⟩ (.iface t v)).cell? ⟨w.heap.size,0,none⟩=some (.iface t v):=World.cell?_setCell_same' _ _ _ (by rw[hc1];rfl);have hb6:=(Y4 (w1.setCell ⟨w.heap.size,0,none⟩ (.iface t v)).heap.size (w1.setCell ⟨w.heap.size,0,none⟩ (.iface t v))).alloc (Z5 _) o;have hc6:((w1.setCell ⟨w.heap.size,0,none⟩ (.iface t v)).alloc o).cell? ⟨w.heap.size,0,none⟩=some (.iface t v):=(hb6.cell (p:=⟨w.heap.size,0,none⟩) (by simpa using hl1)).trans hc5;simp[Leaves,settle,results,Tryz.results28,go_sem,hc6];exact .inr ⟨t,v,rfl,_,o,HB.out,rfl⟩
structure PcS(w W:World)(a:Option Addr)(n cap:Nat)(px pn:Addr)(c0 c1 c2 c3:Nat):Prop where
 bel:Below w.heap.size w W
 r0:ad W c0 0 23 [.slice a n cap]
 r1:ad W c1 0 67 [.pointer (some px)]
 r2:ad W c2 0 73 [.pointer (some pn)]
 r3:ad W c3 0 9 [.string {data:= #[]}]
 n0:c0 < c3
 n1:c1 < c3
 n2:c2 < c3
theorem PcS.up{w W W':World}{a:Option Addr}{n cap:Nat}{px pn:Addr}{c0 c1 c2 c3:Nat}(h:PcS w W a n cap px pn c0 c1 c2 c3)(hb:Below W.heap.size W W'):PcS w W' a n cap px pn c0 c1 c2 c3:=
 ⟨h.bel.trans (hb.mono h.bel.size),h.r0.below hb h.r0.lt,h.r1.below hb h.r1.lt,h.r2.below hb h.r2.lt,h.r3.below hb h.r3.lt,h.n0,h.n1,h.n2⟩
theorem BV(tys:List Tm.Ty)(u:Tm.Wd)(U w W:World)(rb cap B:Nat)(a:Option Addr)(vs:List Value)(hU:Below U.heap.size U w)(ho:an U B 97 3 a tys.length cap vs)(he:Tm.cF U rb tys vs)(hF:∀t∈tys,Tm.aZ t)(hn:tys.length≤100)(hnd:(tys.map (·.name)).Nodup)
  (px pn:Addr)(hp:∀W fb,Below w.heap.size w W→bR U W rb fb tys→Calls Tryz.prog 96 #[.map (some fb),.pointer (some px),.pointer (some pn)] W (dh W u))(c0 c1 c2 c3:Nat)(h:PcS w W a tys.length cap px pn c0 c1 c2 c3):
  Calls Tryz.prog 142 #[.pointer (some ⟨c0,0,none⟩),.pointer (some ⟨c1,0,none⟩),.pointer (some ⟨c2,0,none⟩),.pointer (some ⟨c3,0,none⟩)] W fun e w1=>e= .returned (.tuple #[])∧∃w0,Below W.heap.size W w0∧w1=w0.setCell ⟨c3,0,none⟩ (.string (aa u)):=by
 have HFO:=hid (fun V (hV:Below w.heap.size w V)=>kX tys U V (hU.trans (hV.mono hU.size)) rb cap B a vs ho he hF hn hnd);have HP:=hid hp;obtain⟨n,hn'⟩:∃n,n=tys.length:=⟨_,rfl⟩;rw[← hn']at HFO h;have hSS:∀V,Below W.heap.size W V→V.cell? ⟨c0,0,none⟩=some (.slice a n cap)∧V.cell? ⟨c1,0,none⟩=some (.pointer (some px))∧V.cell? ⟨c2,0,none⟩=some (.pointer (some pn)):=by
  intro V hb;have h2:=h.up hb;have k0:=h2.r0.cell0 0 (by simp);have k1:=h2.r1.cell0 0 (by simp);have k2:=h2.r2.cell0 0 (by simp);simp only[Z0]at k0 k1 k2;exact⟨k0,k1,k2⟩
 have HPC:=hid (fun V (hV:Below W.heap.size W V)=>h.up hV);have hST:∀V v,Below W.heap.size W V→(V.setCell ⟨c3,0,none⟩ v).cell? ⟨c0,0,none⟩=some (.slice a n cap)∧(V.setCell ⟨c3,0,none⟩ v).cell? ⟨c1,0,none⟩=some (.pointer (some px))∧(V.setCell ⟨c3,0,none⟩ v).cell? ⟨c2,0,none⟩=some (.pointer (some pn)):=by
  intro V v hb;have h2:=h.up hb;have k0:=(h2.r0.far (p:=⟨c3,0,none⟩) (Nat.ne_of_lt h.n0) v).cell0 0 (by simp);have k1:=(h2.r1.far (p:=⟨c3,0,none⟩) (Nat.ne_of_lt h.n1) v).cell0 0 (by simp);have k2:=(h2.r2.far (p:=⟨c3,0,none⟩) (Nat.ne_of_lt h.n2) v).cell0 0 (by simp);simp only[Z0]at k0 k1 k2;exact⟨k0,k1,k2⟩
 have HST:=hid hST;have hS1:=hSS W.drew (Y4 _ _).drew;have HSS:=hid hSS;clear hU ho he hF hn hnd hp h hn' hSS hST;go_enter Tryz.func142,Tryz.ntmps142;go_wp2_with fail;go_region_held3 (fun V=>V.cell? ⟨c0,0,none⟩=some (.slice a n cap)∧V.cell? ⟨c1,0,none⟩=some (.pointer (some px))∧V.cell? ⟨c2,0,none⟩=some (.pointer (some pn)))
  (first
   |exact hS1
   |assumption)
  (first
   |(go_at_call 27;(with_reducible refine(HFO.out _ ?_).mono ?_);(next=>exact(HPC.out _ (Y4 W.heap.size W).drew).bel);(rintro e w2 ⟨rfl,hb2,hf2⟩);(have HB2:=hid (Below.trans (Y4 W.heap.size W).drew hb2));(have hS2:=HSS.out w2 HB2.out))
   |(go_at_call 96;(with_reducible refine(HP.out _ _ ?_ ?_).mono ?_);(next=>exact(HPC.out _ HB2.out).bel);(next=>exact hf2);(rintro e w3 ⟨hb3,rfl⟩);(have HB3:=hid (HB2.out.trans (hb3.mono HB2.out.size)));(have hS3:=HSS.out w3 HB3.out);(have hS4:=HST.out w3 (.string (aa u)) HB3.out);(have y0:=(HPC.out _ HB3.out).r3.cell0 0 (by simp));(have z0:=(HPC.out _ HB3.out).r3.frozen0 0 (by simp));(simp only[Z0]at y0)))
 all_goals
  go_wp2_with fail;refine bodyPost_end (results_none rfl _ _ _) rfl ?_;exact⟨rfl,w3,HB3.out,rfl⟩
theorem DL(tys:List Tm.Ty)(u:Tm.Wd)(U w:World)(rb cap B:Nat)(a:Option Addr)(vs:List Value)(hU:Below U.heap.size U w)(ho:an U B 97 3 a tys.length cap vs)(he:Tm.cF U rb tys vs)(hF:∀t∈tys,Tm.aZ t)(hn:tys.length≤100)(hnd:(tys.map (·.name)).Nodup)
  (px pn:Addr)(hp:∀W fb,Below w.heap.size w W→bR U W rb fb tys→Calls Tryz.prog 96 #[.map (some fb),.pointer (some px),.pointer (some pn)] W (dh W u)):
  Calls Tryz.prog 125 #[.slice a tys.length cap,.pointer (some px),.pointer (some pn)] w fun e w'=>Below w.heap.size w w'∧e= .returned (.tuple #[.string (aa u),.nilIface]):=by
 obtain⟨V1,hV1⟩:∃V1,V1=((((w.alloc (.cells #[.slice a tys.length cap] 23)).alloc (.cells #[.pointer (some px)] 67)).alloc (.cells #[.pointer (some pn)] 73)).alloc (.cells #[.string {data:= #[]}] 9)):=⟨_,rfl⟩;have hb1:Below w.heap.size w V1:=by rw[hV1];exact((((Y4 _ _).alloc (Z5 _) _).alloc (by simp) _).alloc (by simp;omega) _).alloc (by simp;omega) _
 have hPC:PcS w V1 a tys.length cap px pn w.heap.size (w.heap.size+1) (w.heap.size+2) (w.heap.size+3):=by
  refine⟨hb1,?_,?_,?_,?_,by omega,by omega,by omega⟩ <;> rw[hV1]
  ·exact(((ad.new w _ _).alloc _).alloc _).alloc _
  ·exact((ad.ix _ _ (by simp) _ _).alloc _).alloc _
  ·exact(ad.ix _ _ (by simp) _ _).alloc _
  ·exact ad.ix _ _ (by simp) _ _
 have hPC2:=hPC.up ((Y4 V1.heap.size V1).alloc (Z5 _) (.cells #[.nilIface] 30));have hcall:=BV tys u U w _ rb cap B a vs hU ho he hF hn hnd px pn hp _ _ _ _ hPC2;have hs1:V1.heap.size=w.heap.size+4:=by rw[hV1];simp
 have hCL:Calls Tryz.prog 142 #[.pointer (some ⟨w.heap.size,0,none⟩),.pointer (some ⟨w.heap.size+1,0,none⟩),.pointer (some ⟨w.heap.size+2,0,none⟩),.pointer (some ⟨w.heap.size+3,0,none⟩)] (V1.alloc (.cells #[.nilIface] 30))
   (du V1 (fun w1=>∃w0,Below (V1.alloc (.cells #[.nilIface] 30)).heap.size (V1.alloc (.cells #[.nilIface] 30)) w0∧w1=w0.setCell ⟨w.heap.size+3,0,none⟩ (.string (aa u))) (fun _=>False)):=by
  refine hcall.mono ?_;rintro e w1 ⟨he,w0,hb0,rfl⟩;exact⟨(Below.heap_setCell w0 ⟨w.heap.size+3,0,none⟩ _ V1.heap.size (show V1.heap.size≠w.heap.size+3 by omega)).trans (hb0.block _ (by simp)),.inl ⟨he,w0,hb0,rfl⟩⟩
 have HCA:=hid (vK _ _ _ _ V1 _ _ hCL);have HB1:=hid hb1;have HCS:=hid hPC.r3;have HS1:=hid hs1;have HV1:=hid hV1;obtain⟨n,hn'⟩:∃n,n=tys.length:=⟨_,rfl⟩;rw[← hn']at HV1⊢;clear hn' hU ho he hF hn hnd hp hV1 hb1 hPC hPC2 hcall hs1 hCL;go_enter Tryz.func125,Tryz.ntmps125;go_wp2_with fail;rw[← HV1.out];refine HCA.out.mono ?_;unfold fL;rintro e w' (⟨rfl,w1,⟨w0,hb0,rfl⟩,rfl⟩|⟨t,v,rfl,w1,o,hfalse,rfl⟩)
 ·have hrc:ad (w0.setCell ⟨w.heap.size+3,0,none⟩ (.string (aa u))) (w.heap.size+3) 0 9 [.string (aa u)]:=((HCS.out.alloc _).below hb0 (by have:=HCS.out.lt;simp;omega)).aw 0 (by simp) _;have hne:w.heap.size+3≠V1.heap.size:=by have:=HS1.out;omega
  have hrd:=hrc.far (p:=⟨V1.heap.size,0,none⟩) hne .nilIface;have cc:=hrd.cell0 0 (by simp);simp only[Z0]at cc;have hbf:Below w.heap.size w ((w0.setCell ⟨w.heap.size+3,0,none⟩ (.string (aa u))).setCell ⟨V1.heap.size,0,none⟩ .nilIface):=by
   have e1:Below w.heap.size w w0:=(HB1.out.alloc HB1.out.size _).trans (hb0.mono (by have:=HB1.out.size;simp;omega));exact(e1.setCell (p:=⟨w.heap.size+3,0,none⟩) (show w.heap.size≤w.heap.size+3 by omega) _).setCell (p:=⟨V1.heap.size,0,none⟩) HB1.out.size _
  have HBF:=hid hbf;clear hb0 hrc hrd hbf hne;go_wp2_with fail;go_ret2;exact⟨HBF.out,rfl⟩
 ·exact hfalse.elim
end
section
open Go.RowKit
open Rd
theorem yK(s:Tm.Sk)(k0 k1 k4 k5:Nat)(s3:ByteArray)(b6:Bool)(p8 a12:Option Addr)(n12 c12 sb:Nat)(nm:Tm.Wd)(w:World)(hk:k0=4↔s.wh=true)(hk4:k0≤4)(hb:ad w sb 0 9 [.string (aa nm)]):
  Calls Tryz.prog 124 #[.agg (aP s k0 k1 k4 k5 s3 b6 p8 a12 n12 c12).toArray,.pointer (some ⟨sb,0,none⟩)] w fun e w'=>e= .returned (.bool (Tm.called nm s))∧Below w.heap.size w w':=by
 have hrow:=ad.new w 70 (aP s k0 k1 k4 k5 s3 b6 p8 a12 n12 c12).toArray;have hbb:=(Y4 w.heap.size w).alloc (Z5 _) (.cells (aP s k0 k1 k4 k5 s3 b6 p8 a12 n12 c12).toArray 70);have hb2:=hb.below hbb hb.lt;have c0:=hrow.cell0 0 (by simp);have c2:=hrow.cell0 2 (by simp);have d0:=hb2.cell0 0 (by simp);simp only[aP,Z0,Z1]at c0 c2 d0;have HB:=hid hbb;have HK:=hid hk;clear hrow hbb hb2 hb hk;unfold Tm.called
 by_cases h4:k0=4
 ·have hw:=HK.out.1 h4;have q1:((k0:Int)==4)=true:=by rw[beq_iff_eq];omega
  have q2:((k0:Int)!=4)=false:=by rw[bne,q1];rfl
  have q3:(k0==4)=true:=by rw[beq_iff_eq];exact h4
  have q4:(k0 !=4)=false:=by rw[bne,q3];rfl
  have HW:=hid hw;clear h4 hw;go_enter Tryz.func124,Tryz.ntmps124;go_wp2_with fail;go_ret;refine⟨?_,HB.out⟩;rw[HW.out];rfl
 ·have hw:s.wh=false:=by
   cases h:s.wh with
   |false=>rfl
   |true=>exact absurd (HK.out.2 h) h4
  have q1:((k0:Int)==4)=false:=by rw[Z8];omega
  have q2:((k0:Int)!=4)=true:=by rw[bne,q1];rfl
  have q3:(k0==4)=false:=by rw[Z8];exact h4
  have q4:(k0 !=4)=true:=by rw[bne,q3];rfl
  have HW:=hid hw;clear h4 hw;go_enter Tryz.func124,Tryz.ntmps124;go_wp2_with fail;go_ret;refine⟨?_,HB.out⟩;rw[HW.out];rfl
theorem Fq(V:World)(rb cap sb n:Nat)(l:Tm.Its)(ga:Option Addr)(bs:List Value)(nm:Tm.Wd)(w:World)(hn:n=Tm.Its.len l)(hn2:n≤100000)(h:ItV V w rb l ga cap bs)(hb:ad w sb 0 9 [.string (aa nm)]):
  Calls Tryz.prog 120 #[.slice ga n cap,.func (.func 124) #[] #[.pointer (some ⟨sb,0,none⟩)]] w fun e w'=>e= .returned (.int .i64 (Tm.aV l.row nm))∧Below w.heap.size w w':=by
 have hcap:n≤cap:=by rw[hn];exact aT h.own
 have HH:=hid h;have HBX:=hid hb;have HN:=hid hn;clear h hb hn;go_enter Tryz.func120,Tryz.ntmps120;go_wp2_with fail;go_loopw [8] (fun v8 wr=>∃k:Nat,v8= .int .i64 k∧k≤n∧Hid ((l.row.take k).findIdx? (Tm.called nm)=none)∧Hid (Below w.heap.size w wr)) (fun v8 _=>n - (intOf v8).toNat)
 case atStart=>exact⟨0,rfl,Nat.zero_le _,hid (by simp),hid (Y4 _ _)⟩
 case round=>
  obtain⟨k,rfl,hk,HQ,HB⟩:=hrel
  by_cases hlt:k < n
  ·have hki:(k:Int) < (n:Int):=by omega
   have q1:decide ((k:Int) < (n:Int))=true:=Z9 hki;have q2:decide (k < n)=true:=Z9 hlt;obtain⟨x,rfl⟩:∃x,ga=some x:=by
    cases ga with
    |none=>have:=HH.out.own.aO.1;rw[← HN.out]at this;omega
    |some x=>exact⟨x,rfl⟩
   obtain⟨gb,rfl⟩:∃gb,x=⟨gb,0,none⟩:=⟨x.block,HH.out.own.row.1⟩;obtain⟨s,k0,k1,k4,k5,s3,b6,p8,a12,n12,c12,hs,hrow,hk0,hk4,hw4⟩:=(HH.out.up HB.out).cells k (by rw[← HN.out];exact hlt);have HF:=hid (yK s k0 k1 k4 k5 s3 b6 p8 a12 n12 c12 sb nm wr hk0 hk4 (HBX.out.below HB.out HBX.out.lt));have HS:=hid hs;have c0:=hrow.cell 0 (by simp);have c1:=hrow.cell 1 (by simp);have c2:=hrow.cell 2 (by simp);have c3:=hrow.cell 3 (by simp);have c4:=hrow.cell 4 (by simp);have c5:=hrow.cell 5 (by simp);have c6:=hrow.cell 6 (by simp);have c7:=hrow.cell 7 (by simp);have c8:=hrow.cell 8 (by simp);have c9:=hrow.cell 9 (by simp);have c10:=hrow.cell 10 (by simp);have c11:=hrow.cell 11 (by simp);have c12:=hrow.cell 12 (by simp);simp only[aP,Z0,Z1,Y2]at c0 c1 c2 c3 c4 c5 c6 c7 c8 c9 c10 c11 c12;clear hrow hs hk0 hk4 hw4;go_wp2_with fail;refine HF.out.mono ?_;rintro e w2 ⟨rfl,hb2⟩;have HB2:=hid (HB.out.trans (hb2.mono HB.out.size));cases hc:Tm.called nm s with
   |true=>
    have HC:=hid hc;clear hc hb2;go_wp2_with fail;go_ret;refine⟨?_,HB2.out⟩;unfold Tm.aV;rw[Tm.pJ HQ.out HS.out HC.out];rfl
   |false=>
    have HC:=hid hc;clear hc hb2;go_wp2_with fail;go_roundw
    case rel=>exact⟨k+1,by go_num,by omega,hid (Tm.lP HQ.out HS.out HC.out),HB2⟩
    case measure=>simp[intOf];omega
  ·obtain rfl:k=n:=by omega
   have hd:decide ((k:Int) < (k:Int))=false:=by simp
   have hd2:decide (k < k)=false:=by simp
   go_wp2_with fail;go_ret;refine⟨?_,HB.out⟩;have:=HQ.out;rw[HN.out,← Tm.cP,List.take_length]at this;unfold Tm.aV;rw[this];rfl
theorem BW(V:World)(rb cap n:Nat)(l:Tm.Its)(ga:Option Addr)(bs:List Value)(nm:Tm.Wd)(w:World)(hn:n=Tm.Its.len l)(hn2:n≤100000)(h:ItV V w rb l ga cap bs):
  Calls Tryz.prog 99 #[.slice ga n cap,.string (aa nm)] w fun e w'=>e= .returned (.int .i64 (Tm.aV l.row nm))∧Below w.heap.size w w':=by
 have hbb:=(Y4 w.heap.size w).alloc (Z5 _) (.cells #[.string (aa nm)] 9);have HI:=hid (Fq V rb cap w.heap.size n l ga bs nm _ hn hn2 (h.up hbb) (ad.new w 9 #[.string (aa nm)]));have HB:=hid hbb;clear h hbb hn;go_enter Tryz.func99,Tryz.ntmps99;go_wp2_with fail;refine HI.out.mono ?_;rintro e w2 ⟨rfl,hb2⟩;have HB2:=hid (HB.out.trans (hb2.mono (by simp)));clear hb2;go_wp2_with fail;go_ret;exact⟨rfl,HB2.out⟩
end
section
open Go Go.RowKit
open Rd
open Ly
def Fs(U:World)(rb:Nat)(tys:List Tm.Ty)(nm:Tm.Wd)(e:Ending):Prop:=∃t∈tys,∃ga capb bs,t.name=nm∧e= .returned (.slice ga (Tm.Its.len t.items) capb)∧an U (rb+1) 70 13 ga (Tm.Its.len t.items) capb bs∧Tm.bp U rb t.items bs
theorem BX{tys:List Tm.Ty}{nm:Tm.Wd}(hm:nm∈names tys):∃t∈tys,t.name=nm:=List.mem_map.1 hm
theorem yL(tys:List Tm.Ty)(U w:World)(nm:Tm.Wd)(hU:Below U.heap.size U w)(rb cap B:Nat)(a:Option Addr)(vs:List Value)(ho:an U B 97 3 a tys.length cap vs)(he:Tm.cF U rb tys vs)(hn:tys.length≤100)(hm:nm∈names tys):
  Calls Tryz.prog 71 #[.agg #[.slice a tys.length cap],.string (aa nm)] w fun e w'=>Below w.heap.size w w'∧Fs U rb tys nm e:=by
 have hcap:tys.length≤cap:=aT ho;have HM:=hid (BX hm);obtain⟨n,hn'⟩:∃n,n=tys.length:=⟨_,rfl⟩;rw[← hn']at hcap hn⊢;have HO:=hid ho;have HE:=hid he;have HN:=hid hn';clear ho he hn' hm;go_enter Tryz.func71,Tryz.ntmps71;go_wp2_with fail;go_loopw [10] (fun v10 wr=>∃(i:Nat),v10= .int .i64 (i:Nat)∧i≤n∧Hid (Below w.heap.size w wr)∧Hid (∀t∈tys.take i,t.name≠nm)) (fun v10 _=>n - (intOf v10).toNat)
 case atStart=>exact⟨0,rfl,Nat.zero_le _,hid ((Y4 _ _).alloc (Z5 _) _),hid (by simp)⟩
 case round=>
  obtain⟨i,rfl,hi,HB,HQ⟩:=hrel
  by_cases hin:i < n
  ·have q1:decide ((i:Int) < (n:Int))=true:=Z9 (by omega);have q2:decide (i < n)=true:=Z9 hin;have hii:(i:Int) < (n:Int):=by omega
   have HLT:=hid hin;obtain⟨x,rfl⟩:∃x,a=some x:=by
    cases a with
    |none=>have:=HO.out.aO.1;rw[← HN.out]at this;omega
    |some x=>exact⟨x,rfl⟩
   obtain⟨gb,rfl⟩:∃gb,x=⟨gb,0,none⟩:=⟨x.block,HO.out.row.1⟩;obtain⟨t,r,hdr⟩:=Tm.ie tys i (by rw[← HN.out];exact hin);obtain⟨ga,capb,bs,g1,g2,g3,g4⟩:=Tm.cF.ty HO.out HE.out hdr;have hmem:t∈tys:=by
    have:t∈tys.drop i:=by rw[hdr];simp
    exact List.mem_of_mem_drop this
   have hti:tys.take (i+1)=tys.take i++[t]:=by
    rw[List.take_add,hdr];rfl
   have hrow:=(g3.below hU g3.lt).below HB.out (Nat.lt_of_lt_of_le g3.lt hU.size);have c0:=hrow.cell 0 (by simp);have c1:=hrow.cell 1 (by simp);have c2:=hrow.cell 2 (by simp);simp only[Z0,Z1,Y2]at c0 c1 c2;have HIT:=hid (And.intro g1 g2);have HTI:=hid hti;have HMEM:=hid hmem;clear g1 g2 g3 g4 hrow hdr hmem hti hin hi
   by_cases hnn:t.name=nm
   ·have e1:(t.name==nm)=true:=beq_iff_eq.2 hnn;have e2:decide (t.name=nm)=true:=Z9 hnn;have HNN:=hid hnn;clear hnn;go_wp2_with fail;go_ret;exact⟨HB.out.alloc HB.out.size _,t,HMEM.out,ga,capb,bs,HNN.out,rfl,HIT.out⟩
   ·have e1:(t.name==nm)=false:=Z8.2 hnn;have e2:decide (t.name=nm)=false:=Y9 hnn;have HNN:=hid hnn;clear hnn;go_wp2_with fail;go_roundw
    case rel=>exact⟨i+1,rfl,by have:=HLT.out;omega,hid (HB.out.alloc HB.out.size _),hid (fun t' ht'=>by
     rw[HTI.out]at ht';rcases List.mem_append.1 ht' with h|h
     ·exact HQ.out t' h
     ·have:t'=t:=by simpa using h
      rw[this];exact HNN.out)⟩
    case measure=>simp only[intOf];have:=HLT.out;omega
  ·exfalso;obtain⟨t,h1,h2⟩:=HM.out;have:i=tys.length:=by rw[← HN.out];omega
   rw[this,List.take_length]at HQ;exact HQ.out t h1 h2
end
section
namespace Fx
open Ly Tm
def vL(r:Rl):Bool:=match r with
 | .size _=>true
 | .count _=>true
 |_=>false
def kh(R:List Sk)(i:Nat):Bool:=match R[i]? with
 |some s=>vL s.ax
 |none=>false
def ready(R:List Sk)(out:List Nat)(i:Nat):Bool:=match R[i]? with
 |some s=> !s.wh&&aJ s.ax&& !out.contains i&&(List.range R.length).all fun k=> !(eC R i k&&bK R k&& !out.contains k)
 |none=>false
def next(R:List Sk)(out:List Nat):Option Nat:=(List.range R.length).find? (ready R out)
def lX(R:List Sk):Nat→List Nat→List Nat
 |0,out=>out
 |n+1,out=>match next R out with
  |none=>out
  |some k=>lX R n (out++[k])
def BY(R:List Sk):List Nat:=(List.range R.length).filter (kh R)
def ord(R:List Sk):List Nat:=lX R (R.length+1) (BY R)
def GI(R:List Sk)(out:List Nat):Prop:=∀pre i post,out=pre++i::post→bK R i=true→∀k,k < R.length→eC R i k=true→(bK R k=true∨kh R k=true)→k∈pre
theorem yM{R:List Sk}{out:List Nat}{i:Nat}(h:ready R out i=true):bK R i=true∧i∉out∧i < R.length∧∀k,k < R.length→eC R i k=true→bK R k=true→k∈out:=by
 unfold ready at h;cases hs:R[i]? with
 |none=>rw[hs]at h;cases h
 |some s=>
  rw[hs]at h;simp only[Bool.and_eq_true,Bool.not_eq_true',List.contains_eq_mem,decide_eq_false_iff_not]at h;obtain⟨⟨⟨h1,h2⟩,h3⟩,h4⟩:=h;refine⟨by unfold bK;rw[hs];exact h2,h3,(List.getElem?_eq_some_iff.1 hs).1,fun k hk ho hc=> ?_⟩;have h5:=List.all_eq_true.1 h4 k (List.mem_range.2 hk);rw[ho,hc]at h5;simpa using h5
theorem ng{R:List Sk}{out:List Nat}{k:Nat}(h:next R out=some k):ready R out k=true:=List.find?_some h
theorem tD{R:List Sk}{i:Nat}(h:kh R i=true):bK R i=false:=by
 unfold kh at h;unfold bK;cases hs:R[i]? with
 |none=>rfl
 |some s=>
  rw[hs]at h;simp only[]at h⊢;cases hr:s.ax <;> rw[hr]at h <;> simp[vL,aJ]at h⊢
structure Good(R:List Sk)(out:List Nat):Prop where
 lt:∀i∈out,i < R.length
 nodup:out.Nodup
 cl:GI R out
 ax:∀i∈out,kh R i=true∨bK R i=true
 sc:∀i,i < R.length→kh R i=true→i∈out
theorem DM(R:List Sk):Good R (BY R):=by
 refine⟨fun i hi=>List.mem_range.1 (List.mem_filter.1 hi).1,List.Pairwise.filter _ List.nodup_range,fun pre i post he hc=> ?_,fun i hi=> .inl (List.mem_filter.1 hi).2,fun i hi hs=>List.mem_filter.2 ⟨List.mem_range.2 hi,hs⟩⟩;have hm:i∈BY R:=by rw[he];simp
 have:=tD (List.mem_filter.1 hm).2;rw[hc]at this;cases this
theorem yN{α:Type}{out pre post:List α}{k i:α}(he:out++[k]=pre++i::post):(i=k∧pre=out∧post=[])∨∃post',out=pre++i::post':=by
 rcases List.eq_nil_or_concat post with rfl|⟨l,x,rfl⟩
 ·left;have:=List.append_inj' he (by simp);exact⟨by simpa using this.2.symm,this.1.symm,rfl⟩
 ·right;refine⟨l,?_⟩;have h2:out++[k]=(pre++i::l)++[x]:=by rw[he];simp
  exact(List.append_inj' h2 (by simp)).1
theorem nh{R:List Sk}{out:List Nat}(h:Good R out){k:Nat}(hk:ready R out k=true):Good R (out++[k]):=by
 obtain⟨h1,h2,h3,h4⟩:=yM hk;refine⟨fun i hi=> ?_,?_,fun pre i post he hc j hjl hj hm=> ?_,fun i hi=> ?_,fun i hi hs=>List.mem_append_left _ (h.sc i hi hs)⟩
 ·rcases List.mem_append.1 hi with h5|h5
  ·exact h.lt i h5
  ·have:i=k:=by simpa using h5
   rw[this];exact h3
 ·rw[List.nodup_append];refine⟨h.nodup,by simp,fun a ha b hb e=> ?_⟩;have:b=k:=by simpa using hb
  subst this;subst e;exact h2 ha
 ·rcases yN he with⟨rfl,rfl,_⟩|⟨post',h5⟩
  ·rcases hm with hm|hm
   ·exact h4 j hjl hj hm
   ·exact h.sc j hjl hm
  ·exact h.cl pre i post' h5 hc j hjl hj hm
 ·rcases List.mem_append.1 hi with h5|h5
  ·exact h.ax i h5
  ·have:i=k:=by simpa using h5
   rw[this];exact .inr h1
theorem F7(R:List Sk):∀(n:Nat) (out:List Nat),Good R out→Good R (lX R n out)
 |0,out,h=>h
 |n+1,out,h=>by
  unfold lX;cases hn:next R out with
  |none=>exact h
  |some k=>exact F7 R n _ (nh h (ng hn))
theorem Ft(R:List Sk):Good R (ord R):=F7 R _ _ (DM R)
theorem vM(R:List Sk):∀(n:Nat) (out:List Nat),Good R out→R.length < n+out.length→next R (lX R n out)=none
 |0,out,h,hl=>by
  have h1:out.length≤R.length:=by
   have h2:=List.Nodup.length_le_of_subset h.nodup (l₂:=List.range R.length) (fun i hi=>List.mem_range.2 (h.lt i hi));simpa using h2
  omega
 |n+1,out,h,hl=>by
  unfold lX;cases hn:next R out with
  |none=>exact hn
  |some k=>exact vM R n _ (nh h (ng hn)) (by simp;omega)
theorem Fu(R:List Sk):next R (ord R)=none:=vM R _ _ (DM R) (by omega)
def nth:Nat→Nds→Option Nd
 |_,.nil=>none
 |0,.cons a b c d e f g _=>some ⟨a,b,c,d,e,f,g⟩
 |n+1,.cons _ _ _ _ _ _ _ r=>nth n r
def dK:Nat→Int→Nds→Nds
 |_,_,.nil=> .nil
 |0,v,.cons a b c d _ f g r=> .cons a b c d v f g r
 |n+1,v,.cons a b c d e f g r=> .cons a b c d e f g (dK n v r)
theorem lY:∀(i:Nat) (v:Int) (l:Nds),(dK i v l).len=l.len
 |_,_,.nil=>by cases ‹Nat› <;> rfl
 |0,v,.cons _ _ _ _ _ _ _ r=>rfl
 |n+1,v,.cons _ _ _ _ _ _ _ r=>by simp only[dK,Nds.len,lY n v r]
def sh(W:Wri)(body:Its)(e:Int)(k:Nds):Option Wd:=if e=0 then(match k with| .nil=>some []| .cons _ _ _ _ _ _ _ _=>none)else aH W body k
def texts(W:Wri):Its→Nds→List (Option Wd)
 | .cons h l,.cons a b c d e f g r=>bc W h ⟨a,b,c,d,e,f,g⟩::texts W l r
 | .when _ _ body l,.cons a b _ _ e _ g r=>(if a≠[]∨b≠4 then none else sh W body e g)::texts W l r
 |_,_=>[]
def dC:List (Option Wd)→Option Wd
 |[]=>some []
 |x::r=>x.bind fun u=>(dC r).map (u++ ·)
def jv(W:Wri)(l:Its)(ks:Nds)(a b:Nat):Option Wd:=dC (((texts W l ks).drop a).take (b+1 - a))
end Fx
namespace Fx
open Ly Tm
def strip:Nds→Nds
 | .nil=> .nil
 | .cons a b _ _ e f g r=> .cons a b 0 0 e f (strip g) (strip r)
theorem dN:∀l:Nds,strip (strip l)=strip l
 | .nil=>rfl
 | .cons a b c d e f g r=>by simp only[strip,dN g,dN r]
theorem il:∀l:Nds,(strip l).len=l.len
 | .nil=>rfl
 | .cons a b c d e f g r=>by simp only[strip,Nds.len,il r]
theorem kY:∀(i:Nat) (v:Int) (l:Nds),strip (dK i v l)=dK i v (strip l)
 |_,_,.nil=>by cases ‹Nat› <;> rfl
 |0,v,.cons ..=>rfl
 |n+1,v,.cons a b c d e f g r=>by simp only[dK,strip,kY n v r]
def Nd.strip(d:Nd):Nd:=⟨d.name,d.kind,0,0,d.val,d.text,Fx.strip d.kids⟩
theorem si:∀(i:Nat) (l:Nds),nth i (strip l)=(nth i l).map Nd.strip
 |_,.nil=>by cases ‹Nat› <;> rfl
 |0,.cons ..=>rfl
 |n+1,.cons a b c d e f g r=>by
  show nth n (strip r)=(nth n r).map Nd.strip;exact si n r
def qX(W:Wri):Prop:=∀nm ks,W nm (strip ks)=W nm ks
theorem iO{W:Wri}(hW:qX W)(h:Hd)(d:Nd):aY W h (Nd.strip d)=aY W h d:=by
 unfold aY Nd.strip;simp only[];cases h.k <;> simp only[hW _ _]
theorem pY{f:Nd→Option Wd}(hf:∀d,f (Nd.strip d)=f d):∀l:Nds,cO f (strip l)=cO f l
 | .nil=>rfl
 | .cons a b c d e g k r=>by
  simp only[strip,cO];rw[pY hf r];have:=hf ⟨a,b,c,d,e,g,k⟩;unfold Nd.strip at this;simp only[]at this;rw[this]
theorem jw{W:Wri}(hW:qX W)(h:Hd)(d:Nd):bc W h (Nd.strip d)=bc W h d:=by
 unfold bc;rw[iO hW];split
 ·unfold Nd.strip;simp only[];split
  ·rfl
  ·exact pY (iO hW h) _
 ·rfl
theorem fX{W:Wri}(hW:qX W):∀(l:Its) (ks:Nds),aH W l (strip ks)=aH W l ks
 | .nil,.nil=>rfl
 | .nil,.cons ..=>rfl
 | .cons h l,.nil=>rfl
 | .when ..,.nil=>rfl
 | .cons h l,.cons a b c d e f g r=>by
  simp only[strip,aH];rw[fX hW l r];have:=jw hW h ⟨a,b,c,d,e,f,g⟩;unfold Nd.strip at this;simp only[]at this;rw[this]
 | .when p q body l,.cons a b c d e f g r=>by
  simp only[strip,aH];rw[fX hW l r,fX hW body g];cases g <;> rfl
theorem im:∀l:List Ty,qX (wrS l)
 |[],_,_=>rfl
 |t::r,nm,ks=>by
  unfold wrS;rw[fX (im r),im r]
theorem nU{W:Wri}(hW:qX W)(body:Its)(e:Int)(k:Nds):sh W body e (strip k)=sh W body e k:=by
 unfold sh;rw[fX hW];cases k <;> rfl
def eG:Its→Nat→Option Hd
 | .nil,_=>none
 | .cons h _,0=>some h
 | .when _ _ _ _,0=>none
 | .cons _ l,n+1=>eG l n
 | .when _ _ _ l,n+1=>eG l n
def wOf:Knd→Wd
 | .scalar w=>w
 |_=>[]
def av(C:Wd→Nat)(W:Wri)(l:Its)(ks:Nds)(h:Hd):Int:=match h.ax with
 | .none=>0
 | .size f=>(((jv W l ks (aV l.row f).toNat (aV l.row f).toNat).getD []).length:Int)
 | .count f=>(((nth (aV l.row f).toNat ks).map fun d=>d.kids.len).getD 0:Int)
 | .check f g=>if aV l.row g < 0 then 0 else(C ((jv W l ks (aV l.row f).toNat (aV l.row g).toNat).getD []):Int)
def gp(C:Wd→Nat)(W:Wri)(l:Its)(ks:Nds)(i:Nat):Option Nds:=match eG l i with
 |none=>some ks
 |some h=>if cz (wOf h.k) (av C W l ks h)then some (dK i (av C W l ks h) ks)else none
def eE(C:Wd→Nat)(W:Wri)(l:Its):List Nat→Nds→Option Nds
 |[],ks=>some ks
 |i::O,ks=>(gp C W l ks i).bind (eE C W l O)
abbrev Fxr:=Wd→Nds→Option Nds
def dD(f:Nds→Option Nds):Nds→Option Nds
 | .nil=>some .nil
 | .cons a b c d e t g r=>(f g).bind fun g'=>(dD f r).map (.cons a b c d e t g' ·)
def hdF(B:Fxr)(h:Hd)(ks:Nds):Option Nds:=match h.k with
 | .struct t=>if cI h then dD (B t) ks else B t ks
 |_=>some ks
def aM(C:Wd→Nat)(W:Wri)(B:Fxr):Its→Nds→Option Nds
 | .cons h l,.cons a b c d e f g r=>(hdF B h g).bind fun g'=>(aM C W B l r).map (.cons a b c d e f g' ·)
 | .when _ _ body l,.cons a b c d e f g r=>(if e=0 then some g else(aM C W B body g).bind (eE C W body (ord body.row))).bind fun g'=>(aM C W B l r).map (.cons a b c d e f g' ·)
 |_,ks=>some ks
def fj(C:Wd→Nat)(W:Wri)(B:Fxr)(l:Its)(ks:Nds):Option Nds:=(aM C W B l ks).bind (eE C W l (ord l.row))
def dj(C:Wd→Nat):List Ty→Fxr
 |[],_,ks=>some ks
 |t::r,nm,ks=>if t.name=nm then fj C (wrS r) (dj C r) t.items ks else dj C r nm ks
def erO(O:List Nat):Nat→Nds→Nds
 |_,.nil=> .nil
 |i,.cons a b c d e f g r=> .cons a b 0 0 (if O.contains i then 0 else e) f g (erO O (i+1) r)
def erE(f:Nds→Nds):Nds→Nds
 | .nil=> .nil
 | .cons a b c d e t g r=> .cons a b 0 0 e t (f g) (erE f r)
def erH(E:Wd→Nds→Nds)(h:Hd)(ks:Nds):Nds:=match h.k with
 | .struct t=>if cI h then erE (E t) ks else E t ks
 |_=>strip ks
def erI(E:Wd→Nds→Nds):Its→Nds→Nds
 | .cons h l,.cons a b c d e f g r=> .cons a b 0 0 e f (erH E h g) (erI E l r)
 | .when _ _ body l,.cons a b c d e f g r=> .cons a b 0 0 e f (if e=0 then strip g else erO (ord body.row) 0 (erI E body g)) (erI E l r)
 |_,ks=>strip ks
def erB(E:Wd→Nds→Nds)(l:Its)(ks:Nds):Nds:=erO (ord l.row) 0 (erI E l ks)
def erS:List Ty→Wd→Nds→Nds
 |[],_,ks=>strip ks
 |t::r,nm,ks=>if t.name=nm then erB (erS r) t.items ks else erS r nm ks
end Fx
end
end Go.Proofs.YtlomecfhobehnaaGreatDoor
