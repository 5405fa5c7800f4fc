import Derived.Test.YtlomecfhobehnaaGreatDoorMgFixDrops11
set_option linter.all false
set_option maxRecDepth 100000
set_option maxHeartbeats 1000000
namespace Go.Proofs.YtlomecfhobehnaaGreatDoor
open Lib (hid)
section
open Go Go.RowKit
open Rd
open Ly
theorem zt(b:Nat)(F mv:Value)(s wd:Tm.Wd)(g o:Nat)(st:St)(S:Sub)(N:Ex.Names)(h:Tm.Hd)(cv:Value)(w:World)(hL:LR w b F s st)(hg:g≠b)(hs:s.length≤1000000)(hk:h.k= .scalar wd)(hkw:(Tm.kindOf wd).isSome=true)
  (hr:ae w g o 70 (Tm.ag h cv)):
  Calls Tryz.prog 30 #[.pointer (some ⟨b,0,none⟩),.pointer (some ⟨g,o,none⟩),mv] w (gp w b none F s st (bL S s N h st)):=by
 obtain⟨kv1,kv2,kv3⟩:=qm hkw;obtain⟨wo1,wo2,wo3⟩:=mh hkw;have hglt:=hr.lt;have hblt:=hL.row.lt;obtain⟨W0,hW0⟩:∃W0,W0=w.alloc (.cells cM.toArray 28):=⟨_,rfl⟩;have hr0:ae W0 g o 70 (Tm.ag h cv):=by rw[hW0];exact hr.alloc _
 have hL0:LR W0 b F s st:=by rw[hW0];exact hL.an (Below.heap_alloc _ _ _ hblt)
 have c0:=hr0.cell 0 (by simp[Tm.aj]);have c2:=hr0.cell 2 (by simp[Tm.aj]);have hnd:=jx b F s (h.name) 1 g o st W0 hL0 hg c2;have c0':W0.cell? ⟨g,o,none⟩=some (.int .i64 1):=by
  have:=c0;simp only[Tm.ag,hk,Tm.aJ,Z0,Y2]at this;exact this
 have HND:=hid (show Calls Tryz.prog 60 #[.pointer (some ⟨b,0,none⟩),.pointer (some ⟨g,o,none⟩),.int .i64 1] W0 (fB W0 b F s (h.name) 1 st)from hnd);have HR0:=hid hr0;have HL:=hid hL;rw[hW0]at c0';have HW0:=hid hW0;clear hnd c0 c2 hr0 hL0 hr hL hW0;go_enter Tryz.func30,Tryz.ntmps30;go_wp2_with fail;rw[← HW0.out];refine HND.out.mono ?_;intro e w1 hno;unfold fB at hno;cases hn:nod st with
 |none=>
  rw[hn]at hno;obtain⟨hb1,t,v,he⟩:=hno;unfold bC at he;subst he;have HB1:=hid hb1;have ho:bL S s N h st=none:=by unfold bL;rw[hn];rfl
  rw[ho];clear hb1 ho hn;go_wp2_with fail;exact⟨rfl,mg HW0.out HB1.out hblt,t,v,rfl⟩
 |some st1=>
  rw[hn]at hno;obtain⟨hb1,he,hL1⟩:=hno;have he2:e= .returned (.agg #[.string (aa (h.name)),.int .i64 1,.int .i64 (st.at_:Nat),.int .i64 0,.int .i64 0,.string {data:= #[]},.slice none 0 0]):=he;subst he2;have hat:st1.at_=st.at_:=lx hn;have hbs:=BxS.start (m:=none) (nm:=h.name) (kd:=1) HL.out HW0.out hb1 hL1 (fun x e=>by cases e);have hbx:ae (w1.alloc (.cells #[.string {data:= #[]},.int .i64 0,.int .i64 0,.int .i64 0,.int .i64 0,.string {data:= #[]},.slice none 0 0] 28)) w1.heap.size 0 28 [.string {data:= #[]},.int .i64 0,.int .i64 0,.int .i64 0,.int .i64 0,.string {data:= #[]},.slice none 0 0]:=ae.new w1 28 #[.string {data:= #[]},.int .i64 0,.int .i64 0,.int .i64 0,.int .i64 0,.string {data:= #[]},.slice none 0 0];have y0:=hbx.cell0 0 (by simp);have z0:=hbx.frozen0 0 (by simp);have y1:=hbx.cell0 1 (by simp);have z1:=hbx.frozen0 1 (by simp);have y2:=hbx.cell0 2 (by simp);have z2:=hbx.frozen0 2 (by simp);have y3:=hbx.cell0 3 (by simp);have z3:=hbx.frozen0 3 (by simp);have y4:=hbx.cell0 4 (by simp);have z4:=hbx.frozen0 4 (by simp);have y5:=hbx.cell0 5 (by simp);have z5:=hbx.frozen0 5 (by simp);have y6:=hbx.cell0 6 (by simp);have z6:=hbx.frozen0 6 (by simp);simp only[Z0,Z1]at y0 y1 y2 y3 y4 y5 y6;have hg0:g < W0.heap.size:=HR0.out.lt;have hr1:ae w1 g o 70 (Tm.ag h cv):=HR0.out.of_heap (hb1.block g hg0 hg (fun e=>by cases e));obtain⟨V,hV⟩:∃V,V=w1.alloc (.cells #[.string (aa (h.name)),.int .i64 1,.int .i64 (st.at_:Nat),.int .i64 0,.int .i64 0,.string {data:= #[]},.slice none 0 0] 28):=⟨_,rfl⟩;have hr2:ae V g o 70 (Tm.ag h cv):=by rw[hV];exact hr1.alloc _
  have hbs2:BxS w V b w1.heap.size none F s st1 (ab (h.name) 1 st.at_ 0 0 [] (.slice none 0 0)):=by rw[hV];exact hbs
  have hgn:g≠w1.heap.size:=by have:=hr1.lt;omega
  have HR2:=hid hr2;have HBS:=hid hbs2;have HV:=hid hV;have k4:=hr2.cell 4 (by simp[Tm.aj]);have k0:=hr2.cell 0 (by simp[Tm.aj]);simp only[Tm.ag,hk,Tm.bA,Tm.aJ,Z0,Z1,Y2]at k4 k0;rw[kv1]at k4;have HTK:=hid (sQ b F s st1 (bo wd:Nat) _ hbs2.lr hs (by omega) (by omega));rw[hV]at k4 k0;clear hb1 hL1 he hbx hr1 hr2 hbs hbs2 hV;go_wp2_with fail;rw[← HV.out];refine HTK.out.mono ?_;unfold zm;rintro e w2 ⟨hg2,ht⟩;clear y0 y1 y2 y3 y4 y5 y6 z0 z1 z2 z3 z4 z5 z6;have hb2:But V w2 b none:=But.wG hg2;have HB2:=hid hb2;cases htk:tak s (bo wd:Nat) st1 with
  |none=>
   rw[htk]at ht;obtain⟨t,v,he⟩:=ht;unfold bC at he;subst he;have ho:bL S s N h st=none:=by unfold bL;rw[hn,hk];simp only[Option.bind_some,htk];rfl
   rw[ho];clear hg2 hb2 ho hn htk;go_wp2_with fail;exact⟨rfl,HBS.out.but.trans HB2.out,t,v,rfl⟩
  |some p=>
   obtain⟨u,st2⟩:=p;rw[htk]at ht;obtain⟨rfl,hl2⟩:=ht;have ho:bL S s N h st=some (⟨h.name,1,st.at_,st2.at_ - st.at_,nL wd u,[],.nil⟩,st2):=by unfold bL;rw[hn,hk];simp only[Option.bind_some,htk];rfl
   have HO:=hid ho;have htl:u.length=bo wd∧st1.at_≤st2.at_∧st2.at_≤s.length:=by
    obtain⟨h1,h2,h3⟩:=uA htk HBS.out.lr.len;exact⟨by rw[h3];omega,h1.le,h1.len⟩
   have HNX:=hid (show st.n < st2.n by have h1:=oF hn;have h2:=Jg htk;omega);obtain⟨hul,hat1,hat2⟩:=htl;have hs2:=HBS.out.move hb2 hl2;have hr2:ae w2 g o 70 (Tm.ag h cv):=HR2.out.of_heap (hb2.block g HR2.out.lt hg (fun e=>by cases e));have HS2:=hid hs2;have HR3:=hid hr2;have HGET:=hid (fun W=>Hw (aa u) 0 (bo wd) (gh wd) W wo1 wo2 (by rw[aq];omega) (by rw[aq,hul];unfold maxLen;omega));have k4:=hr2.cell 4 (by simp[Tm.aj]);have k5:=hr2.cell 5 (by simp[Tm.aj]);have k6:=hr2.cell 6 (by simp[Tm.aj]);simp only[Tm.ag,hk,Tm.bA,Z0,Z1]at k4 k5 k6;rw[kv1]at k4;rw[kv2]at k5;rw[kv3]at k6;clear hg2 hb2 hl2 hs2 hr2 ho;go_wp2_with fail;go_quiet (first|(go_at_call 62;with_reducible exact Calls.quiet_of_same (tX (HGET.out _))));obtain⟨w3,hw3⟩:∃w3,w3=w2.drewN nq:=⟨_,rfl⟩;rw[← hw3];have hs3:BxS w w3 b w1.heap.size none F s st2 (ab h.name 1 st.at_ 0 0 [] (.slice none 0 0)):=by rw[hw3];exact HS2.out.drewN _
   have hr3:ae w3 g o 70 (Tm.ag h cv):=by rw[hw3];exact HR3.out.drewN _
   have HS3:=hid hs3;have HR4:=hid hr3;clear hw3 k4 k5 k6 hs3 hr3;have d4:=(HS3.out.cell 4 (by simp[ab])).1;have e4:=(HS3.out.cell 4 (by simp[ab])).2;simp only[ab,Z0,Z1]at d4;obtain⟨gv,hgv⟩:∃gv,gv=fN (aa u).data.toList 0 (bo wd) (gh wd) (bo wd):=⟨_,rfl⟩;rw[← hgv];have hul2:gv < 256 ^ bo wd:=by rw[hgv];exact iQ _ _ _ _ _
   have hgv2:gv=fN u 0 (bo wd) (gh wd) (bo wd):=by rw[hgv,BO]
   have HGV:=hid hgv2;have hs4:=HS3.out.set 4 (by simp[ab]) (.int .i64 (wrap64 (gv:Int)));have hr4:ae (w3.setCell ⟨w1.heap.size,4,none⟩ (.int .i64 (wrap64 (gv:Int)))) g o 70 (Tm.ag h cv):=HR4.out.far hgn _;have k6:=hr4.cell 6 (by simp[Tm.aj]);have k4:=hr4.cell 4 (by simp[Tm.aj]);simp only[Tm.ag,hk,Tm.bA,Z0,Z1]at k4 k6;rw[kv1]at k4;rw[kv3]at k6;simp only[ab,Z2,Z3]at hs4;have HS4:=hid hs4;clear hs4 hr4 hgv hgv2;cases hsg:eR wd with
   |false=>
    rw[hsg]at k6;have hw4:=wo3 hsg;have hgs:gv < 4294967296:=AX hul2 hw4;have wg:wrap64 (gv:Int)=(gv:Int):=wrap_small hgs;rw[wg]at k6 HS4;clear hgs hul2 hw4;go_wp2_with fail;obtain⟨W,hW⟩:∃W,W=w3.setCell ⟨w1.heap.size,4,none⟩ (.int .i64 (gv:Int)):=⟨_,rfl⟩;have hs5:BxS w W b w1.heap.size none F s st2 [.string (aa (h.name)),.int .i64 ((1:Nat):Int),.int .i64 (st.at_:Nat),.int .i64 ((0:Nat):Int),.int .i64 ((gv:Int)),.string (aa ([])),.slice none 0 0]:=by rw[hW];exact HS4.out
    rw[← hW];have q2:=(hs5.cell 2 (by simp)).1;have q3:=(hs5.cell 3 (by simp)).1;have u3:=(hs5.cell 3 (by simp)).2;have qr:=hs5.lr.row.cell0 2 (by simp);simp only[Z0,Z1]at q2 q3 qr;have hsz:(st2.at_:Int) - (st.at_:Int)=((st2.at_ - st.at_:Nat):Int):=by omega
    have wq:wrap64 ((st2.at_:Int) - (st.at_:Int))=(st2.at_:Int) - (st.at_:Int):=IntWalk.wrap64_in _ ⟨by omega,by omega⟩;have HSZ:=hid hsz;have HS5:=hid hs5;clear hsz hs5 hW;go_still_tail 8,(by kernel_rfl);change wpList _ _ _ _ _ W.drew;obtain⟨X,hX⟩:∃X,X=W.drew:=⟨_,rfl⟩;rw[← hX];have hs6:=HS5.out.drewN 1;rw[show W.drewN 1=X from hX.symm]at hs6;have y3:=(hs6.cell 3 (by simp)).1;have u3:=(hs6.cell 3 (by simp)).2;simp only[Z0,Z1]at y3;have hsX:=hs6.set 3 (by simp) (.int .i64 ((st2.at_:Int) - (st.at_:Int)));simp only[Z2,Z3]at hsX;have HSX:=hid hsX;have HXW:=hid (show ∀k:Nat,X.heap[k]? =W.heap[k]? from fun k=>by rw[hX];rfl);clear hX hs6 q2 q3 qr;have r0:=(hsX.cell 0 (by simp)).1;have r1:=(hsX.cell 1 (by simp)).1;have r2:=(hsX.cell 2 (by simp)).1;have r3:=(hsX.cell 3 (by simp)).1;have r4:=(hsX.cell 4 (by simp)).1;have r5:=(hsX.cell 5 (by simp)).1;have r6:=(hsX.cell 6 (by simp)).1;simp only[Z0,Z1]at r0 r1 r2 r3 r4 r5 r6;have x0:=hsX.res.cell0 0 (by simp);have v0:=hsX.res.frozen0 0 (by simp);have x1:=hsX.res.cell0 1 (by simp);have v1:=hsX.res.frozen0 1 (by simp);have x2:=hsX.res.cell0 2 (by simp);have v2:=hsX.res.frozen0 2 (by simp);have x3:=hsX.res.cell0 3 (by simp);have v3:=hsX.res.frozen0 3 (by simp);have x4:=hsX.res.cell0 4 (by simp);have v4:=hsX.res.frozen0 4 (by simp);have x5:=hsX.res.cell0 5 (by simp);have v5:=hsX.res.frozen0 5 (by simp);have x6:=hsX.res.cell0 6 (by simp);have v6:=hsX.res.frozen0 6 (by simp);simp only[Z0,Z1]at x0 x1 x2 x3 x4 x5 x6;clear hsX;go_wp2_with fail;clear r0 r1 r2 r3 r4 r5 r6;have p0:=HSX.out.res.ax 0 (by simp) (.string (aa (h.name)));have r0:=p0.cell0 0 (by simp);have p1:=p0.ax 1 (by simp) (.int .i64 1);have r1:=p1.cell0 1 (by simp);have p2:=p1.ax 2 (by simp) (.int .i64 (st.at_:Nat));have r2:=p2.cell0 2 (by simp);have p3:=p2.ax 3 (by simp) (.int .i64 ((st2.at_:Int) - (st.at_:Int)));have r3:=p3.cell0 3 (by simp);have p4:=p3.ax 4 (by simp) (.int .i64 ((gv:Int)));have r4:=p4.cell0 4 (by simp);have p5:=p4.ax 5 (by simp) (.string (aa ([])));have r5:=p5.cell0 5 (by simp);have p6:=p5.ax 6 (by simp) (.slice none 0 0);have r6:=p6.cell0 6 (by simp);simp only[Z2,Z3,Z0,Z1]at r0 r1 r2 r3 r4 r5 r6;have hfin:=HSX.out.result (.string (aa (h.name))) (.int .i64 1) (.int .i64 (st.at_:Nat)) (.int .i64 ((st2.at_:Int) - (st.at_:Int))) (.int .i64 ((gv:Int))) (.string (aa ([]))) (.slice none 0 0);clear p0 p1 p2 p3 p4 p5 p6;refine bodyPost_ret (v:= .agg #[.string (aa (h.name)),.int .i64 1,.int .i64 (st.at_:Nat),.int .i64 ((st2.at_:Int) - (st.at_:Int)),.int .i64 ((gv:Int)),.string (aa ([])),.slice none 0 0]) (by simp[results,Tryz.results30,go_sem,r0,r1,r2,r3,r4,r5,r6];first|done|rfl) rfl ?_;refine⟨hfin.1,?_⟩;rw[HO.out];refine⟨⟨_,[],rfl,?_,List.nodup_nil⟩,hfin.2.1,show st.at_≤st2.at_ by omega,HNX.out⟩;rw[HSZ.out];have hv:nL wd u=(gv:Int):=by unfold nL;rw[hsg,HGV.out];rfl
    rw[hv];exact NdV.leaf _ _ _ _ _ _ _ _
   |true=>
    rw[hsg]at k6;have HSN:=hid (fun W=>qn gv (bo wd) W (Hx hul2 (by omega)) (by omega) (by omega));go_wp2_with fail;refine(HSN.out _).mono ?_;rintro e w5 ⟨rfl,rfl⟩;have d5:=(HS4.out.cell 4 (by simp)).1;have e5:=(HS4.out.cell 4 (by simp)).2;simp only[Z0,Z1]at d5;clear hul2;go_wp2_with fail;obtain⟨W,hW⟩:∃W,W=(w3.setCell ⟨w1.heap.size,4,none⟩ (.int .i64 (wrap64 (gv:Int)))).setCell ⟨w1.heap.size,4,none⟩ (.int .i64 (iv gv (bo wd))):=⟨_,rfl⟩;have hs5:BxS w W b w1.heap.size none F s st2 [.string (aa (h.name)),.int .i64 ((1:Nat):Int),.int .i64 (st.at_:Nat),.int .i64 ((0:Nat):Int),.int .i64 (iv gv (bo wd)),.string (aa ([])),.slice none 0 0]:=by rw[hW];exact HS4.out.set 4 (by simp) _
    rw[← hW];have q2:=(hs5.cell 2 (by simp)).1;have q3:=(hs5.cell 3 (by simp)).1;have u3:=(hs5.cell 3 (by simp)).2;have qr:=hs5.lr.row.cell0 2 (by simp);simp only[Z0,Z1]at q2 q3 qr;have hsz:(st2.at_:Int) - (st.at_:Int)=((st2.at_ - st.at_:Nat):Int):=by omega
    have wq:wrap64 ((st2.at_:Int) - (st.at_:Int))=(st2.at_:Int) - (st.at_:Int):=IntWalk.wrap64_in _ ⟨by omega,by omega⟩;have HSZ:=hid hsz;have HS5:=hid hs5;clear hsz hs5 hW;go_still_tail 8,(by kernel_rfl);change wpList _ _ _ _ _ W.drew;obtain⟨X,hX⟩:∃X,X=W.drew:=⟨_,rfl⟩;rw[← hX];have hs6:=HS5.out.drewN 1;rw[show W.drewN 1=X from hX.symm]at hs6;have y3:=(hs6.cell 3 (by simp)).1;have u3:=(hs6.cell 3 (by simp)).2;simp only[Z0,Z1]at y3;have hsX:=hs6.set 3 (by simp) (.int .i64 ((st2.at_:Int) - (st.at_:Int)));simp only[Z2,Z3]at hsX;have HSX:=hid hsX;have HXW:=hid (show ∀k:Nat,X.heap[k]? =W.heap[k]? from fun k=>by rw[hX];rfl);clear hX hs6 q2 q3 qr;have r0:=(hsX.cell 0 (by simp)).1;have r1:=(hsX.cell 1 (by simp)).1;have r2:=(hsX.cell 2 (by simp)).1;have r3:=(hsX.cell 3 (by simp)).1;have r4:=(hsX.cell 4 (by simp)).1;have r5:=(hsX.cell 5 (by simp)).1;have r6:=(hsX.cell 6 (by simp)).1;simp only[Z0,Z1]at r0 r1 r2 r3 r4 r5 r6;have x0:=hsX.res.cell0 0 (by simp);have v0:=hsX.res.frozen0 0 (by simp);have x1:=hsX.res.cell0 1 (by simp);have v1:=hsX.res.frozen0 1 (by simp);have x2:=hsX.res.cell0 2 (by simp);have v2:=hsX.res.frozen0 2 (by simp);have x3:=hsX.res.cell0 3 (by simp);have v3:=hsX.res.frozen0 3 (by simp);have x4:=hsX.res.cell0 4 (by simp);have v4:=hsX.res.frozen0 4 (by simp);have x5:=hsX.res.cell0 5 (by simp);have v5:=hsX.res.frozen0 5 (by simp);have x6:=hsX.res.cell0 6 (by simp);have v6:=hsX.res.frozen0 6 (by simp);simp only[Z0,Z1]at x0 x1 x2 x3 x4 x5 x6;clear hsX;go_wp2_with fail;clear r0 r1 r2 r3 r4 r5 r6;have p0:=HSX.out.res.ax 0 (by simp) (.string (aa (h.name)));have r0:=p0.cell0 0 (by simp);have p1:=p0.ax 1 (by simp) (.int .i64 1);have r1:=p1.cell0 1 (by simp);have p2:=p1.ax 2 (by simp) (.int .i64 (st.at_:Nat));have r2:=p2.cell0 2 (by simp);have p3:=p2.ax 3 (by simp) (.int .i64 ((st2.at_:Int) - (st.at_:Int)));have r3:=p3.cell0 3 (by simp);have p4:=p3.ax 4 (by simp) (.int .i64 (iv gv (bo wd)));have r4:=p4.cell0 4 (by simp);have p5:=p4.ax 5 (by simp) (.string (aa ([])));have r5:=p5.cell0 5 (by simp);have p6:=p5.ax 6 (by simp) (.slice none 0 0);have r6:=p6.cell0 6 (by simp);simp only[Z2,Z3,Z0,Z1]at r0 r1 r2 r3 r4 r5 r6;have hfin:=HSX.out.result (.string (aa (h.name))) (.int .i64 1) (.int .i64 (st.at_:Nat)) (.int .i64 ((st2.at_:Int) - (st.at_:Int))) (.int .i64 (iv gv (bo wd))) (.string (aa ([]))) (.slice none 0 0);clear p0 p1 p2 p3 p4 p5 p6;refine bodyPost_ret (v:= .agg #[.string (aa (h.name)),.int .i64 1,.int .i64 (st.at_:Nat),.int .i64 ((st2.at_:Int) - (st.at_:Int)),.int .i64 (iv gv (bo wd)),.string (aa ([])),.slice none 0 0]) (by simp[results,Tryz.results30,go_sem,r0,r1,r2,r3,r4,r5,r6];first|done|rfl) rfl ?_;refine⟨hfin.1,?_⟩;rw[HO.out];refine⟨⟨_,[],rfl,?_,List.nodup_nil⟩,hfin.2.1,show st.at_≤st2.at_ by omega,HNX.out⟩;rw[HSZ.out];have hv:nL wd u=iv gv (bo wd):=by unfold nL;rw[hsg,HGV.out];rfl
    rw[hv];exact NdV.leaf _ _ _ _ _ _ _ _
end
section
open Go.RowKit
def eo(L:List Tm.Wd):List Value:=L.map fun x=> .string (aa x)
theorem wR(L:List Tm.Wd)(x:Tm.Wd):eo (L++[x])=eo L++[.string (aa x)]:=by simp[eo]
theorem zu(L:List Tm.Wd):(eo L).length=L.length:=by simp[eo]
theorem wS(L:List Tm.Wd)(n:Nat):(eo L).take n=eo (L.take n):=by simp[eo,List.map_take]
def zv(w:World)(a:Option Addr)(L:List Tm.Wd):Prop:=∀k,k < L.length→∃g,a=some ⟨g,0,none⟩∧w.cell? ⟨g,k,none⟩=some (.string (aa (L.getD k [])))
theorem ak.JB{w:World}{B n cap:Nat}{e:TypeId}{a:Option Addr}{L:List Tm.Wd}(h:ak w B e 1 a n cap (eo L)):zv w a L:=by
 intro k hk;cases a with
 |none=>have:=h.aS.2.2;simp[eo]at this;rw[this]at hk;simp at hk
 |some x=>
  obtain⟨h1,_,_,_,h5⟩:=h.row;refine⟨x.block,congrArg some h1,?_⟩;rw[h5.cell0 k (by rw[zu];exact hk)];simp only[eo,List.getElem_map,Option.some.injEq];rw[List.getD_eq_getElem?_getD,Y1 hk];rfl
theorem JC(a:Option Addr)(n c:Nat)(L:List Tm.Wd)(v:Tm.Wd)(w:World)(hn:L.length=n)(hn2:n≤100000)(h:zv w a L):
  Calls Tryz.prog 139 #[.slice a n c,.string (aa v)] w fun e w'=>(∃r:Int,e= .returned (.int .i64 r)∧decide (0≤r)=decide (v∈L))∧w=w':=by
 have HH:=hid h;have HN:=hid hn;clear h hn;go_enter Tryz.func139,Tryz.ntmps139;go_wp2_with fail;go_loop [8] (fun i=>∃k:Nat,k≤n∧i= .int .i64 k∧Hid ((L.take k).contains v=false)) (fun i=>n - (intOf i).toNat)
 case atStart=>exact⟨0,by omega,rfl,hid (by simp)⟩
 case round=>
  obtain⟨k,hk,rfl,HQ⟩:=hrel
  by_cases hlt:k < n
  ·obtain⟨g,rfl,hcell⟩:=HH.out k (by rw[HN.out];exact hlt);have hki:(k:Int) < (n:Int):=by omega
   have htk:(L.take (k+1)).contains v=((L.take k).contains v||(v==L.getD k [])):=by
    rw[List.take_succ_eq_append_getElem (by rw[HN.out];exact hlt),List.contains_eq_any_beq,List.contains_eq_any_beq,List.any_append,List.getD_eq_getElem?_getD,Y1 (by rw[HN.out];exact hlt)];simp
   have hin:L.getD k []∈L:=by
    rw[List.getD_eq_getElem?_getD,Y1 (by rw[HN.out];exact hlt)];exact List.getElem_mem _
   generalize L.getD k []=s at *
   have HTK:=hid htk;have HIN:=hid hin;clear htk hin
   by_cases he:v=s
   ·have HE:=hid he;have q1:(v==s)=true:=by rw[beq_iff_eq];exact he
    have q2:(s==v)=true:=by rw[beq_iff_eq];exact he.symm
    clear he;go_wp2_with fail;go_ret;refine⟨⟨(k:Int),rfl,?_⟩,rfl⟩
    try rw[decide_eq_decide]
    exact⟨fun _=>by rw[HE.out];exact HIN.out,fun _=>by omega⟩
   ·have q1:(v==s)=false:=by rw[Z8];exact he
    have q2:(s==v)=false:=by rw[Z8];exact fun e=>he e.symm
    have HQ2:Hid ((L.take (k+1)).contains v=false):=hid (by rw[HTK.out,HQ.out,q1];rfl);clear he;go_wp2_with fail;go_round
    case rel=>exact⟨k+1,by omega,by go_num,HQ2⟩
    case measure=>simp[intOf];omega
  ·obtain rfl:k=n:=by omega
   have hd:decide ((k:Int) < (k:Int))=false:=by simp
   go_wp2_with fail;go_ret;refine⟨⟨-1,rfl,?_⟩,rfl⟩;have:=HQ.out;rw[← HN.out,List.take_length]at this
   try rw[decide_eq_decide]
   refine⟨fun h=>by omega,fun hm=> ?_⟩;rw[← List.contains_iff_mem,this]at hm;cases hm
theorem CS(a:Option Addr)(n c:Nat)(L:List Tm.Wd)(v:Tm.Wd)(w:World)(hn:L.length=n)(hn2:n≤100000)(h:zv w a L):
  Calls Tryz.prog 116 #[.slice a n c,.string (aa v)] w fun e w'=>e= .returned (.bool (decide (v∈L)))∧w=w':=by
 have HI:=hid (JC a n c L v w hn hn2 h);clear h hn;go_enter Tryz.func116,Tryz.ntmps116;go_wp2_with fail;refine HI.out.mono ?_;rintro e w1 ⟨⟨r,rfl,hr⟩,rfl⟩;go_wp2_with fail;go_ret;exact⟨rfl,rfl⟩
end
end Go.Proofs.YtlomecfhobehnaaGreatDoor
