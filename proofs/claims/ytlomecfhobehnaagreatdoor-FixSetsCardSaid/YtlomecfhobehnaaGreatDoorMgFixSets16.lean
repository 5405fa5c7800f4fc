import Derived.Test.YtlomecfhobehnaaGreatDoorMgFixSets15
set_option linter.unusedVariables false
set_option linter.unusedSimpArgs false
set_option maxRecDepth 100000
set_option maxHeartbeats 1000000
namespace Go.Proofs.YtlomecfhobehnaaGreatDoor
open Lib (hid)
section
open Go Go.RowKit
open Rd
open Ly
def th(w:World)(b m:Nat)(F:Value)(s:Tm.Wd)(st:St)(o:Option (Nds×Ex.Names×St))(e:Ending)(w':World):Prop:=But w w' b (some m)∧match o with
 |some p=>(∃ga cap bl vs,e= .returned (.slice ga p.1.len cap)∧aQ w' w.heap.size p.1 ga cap bl vs)∧LR w' b F s p.2.2∧(st.at_≤p.2.2.at_∧st.n+p.1.len≤p.2.2.n)∧(∃n,NmM w' m n p.2.1∧n≤p.2.2.n)
 |none=>od e
def bR(U w:World)(rb fb:Nat)(A:List Tm.Ty):Prop:=∃n G,fs Tryz.prog 9 w fb n G∧(∀t∈A,∃ga cap bs,G (.string t.name)=some (.slice ga t.items.len cap)∧an U (rb+1) 70 13 ga t.items.len cap bs∧Tm.bp U rb t.items bs)∧∀nm:Tm.Wd,(∀t∈A,t.name≠nm)→G (.string nm)=none
theorem bR.al{U w w':World}{rb fb:Nat}{A:List Tm.Ty}(h:bR U w rb fb A)(hh:w'.heap[fb]? =w.heap[fb]?):bR U w' rb fb A:=by
 obtain⟨n,G,h1,h2⟩:=h;exact⟨n,G,h1.al hh,h2⟩
theorem bR.lt{U w:World}{rb fb:Nat}{A:List Tm.Ty}(h:bR U w rb fb A):fb < w.heap.size:=by obtain⟨n,G,h1,_⟩:=h;exact h1.lt
theorem bR.ne{U w:World}{rb fb:Nat}{A:List Tm.Ty}(h:bR U w rb fb A){g off:Nat}{e:TypeId}{xs:List Value}(hr:ad w g off e xs):fb≠g:=by
 obtain⟨n,G,h1,_⟩:=h;obtain⟨es,cl,h2⟩:=h1.block;rintro rfl;obtain⟨c,z,h3,_⟩:=hr;rw[h3]at h2;injection h2 with h2
 cases h2
theorem Ly.NmM.ne{w:World}{b n:Nat}{N:Ex.Names}(h:NmM w b n N){g off:Nat}{e:TypeId}{xs:List Value}(hr:ad w g off e xs):b≠g:=by
 obtain⟨D,⟨es,clock,hb,_⟩,_⟩:=h;rintro rfl;obtain⟨c,z,h3,_⟩:=hr;rw[h3]at hb;injection hb with hb
 cases hb
structure RdE(U w:World)(rb fb b m n:Nat)(A:List Tm.Ty)(s:Tm.Wd)(N:Ex.Names)(st:St):Prop where
 bel:Below U.heap.size U w
 bU:U.heap.size≤b
 mU:U.heap.size≤m
 fm:fb≠m
 form:bR U w rb fb A
 lr:LR w b (.map (some fb)) s st
 nm:NmM w m n N
 few:n≤st.n
def rO(A:List Tm.Ty)(S:Sub)(s:Tm.Wd)(l:Tm.Its):Prop:=∀(U w:World) (rb fb b m n cap:Nat) (ga:Option Addr) (bs:List Value) (N:Ex.Names) (st:St),RdE U w rb fb b m n A s N st→
 an U (rb+1) 70 13 ga l.len cap bs→Tm.bp U rb l bs→
 Calls Tryz.prog 65 #[.pointer (some ⟨b,0,none⟩),.slice ga l.len cap,.map (some m)] w (th w b m (.map (some fb)) s st (bM S s l N st))
namespace Ly
def fe(S:Sub)(s:Tm.Wd)(N:Ex.Names)(c:Ex.X)(l:Tm.Its)(st:St):Option (Nd×Ex.Names×St):=(nod st).bind fun st1=>(Ex.ev N c).bind fun v=>
 (if v=0 then some (Nds.nil,N,st1)else bM S s l N st1).map fun p=>(⟨[],4,st.at_,p.2.2.at_ - st.at_,if v=0 then 0 else 1,[],p.1⟩,p.2)
end Ly
def zO(w:World)(b m:Nat)(F:Value)(s:Tm.Wd)(st:St)(o:Option (Nd×Ex.Names×St))(e:Ending)(w':World):Prop:=But w w' b (some m)∧match o with
 |some p=>(∃v bl,e= .returned v∧NdV w' w.heap.size bl p.1 v∧bl.Nodup)∧LR w' b F s p.2.2∧(st.at_≤p.2.2.at_∧st.n < p.2.2.n)∧(∃n,NmM w' m n p.2.1∧n≤p.2.2.n)
 |none=>od e
theorem Dp(A:List Tm.Ty)(S:Sub)(s:Tm.Wd)(l:Tm.Its)(hI:rO A S s l)(b m n rb fb cb ai:Nat)(g o:Nat)(st:St)(N:Ex.Names)(c:Ex.X)(ga:Option Addr)(cap:Nat)(bs:List Value)(U w:World)
  (hE:RdE U w rb fb b m n A s N st)(hs:s.length≤1000000)(hf:Ex.kc Num.numOf Num.dec c)(hx:IsX U rb cb c)(hoi:an U (rb+1) 70 13 ga l.len cap bs)(hen:Tm.bp U rb l bs)
  (hr:ad w g o 70 (Tm.au ai (.pointer (some ⟨cb,0,none⟩)) (.slice ga l.len cap))):
  Calls Tryz.prog 30 #[.pointer (some ⟨b,0,none⟩),.pointer (some ⟨g,o,none⟩),.map (some m)] w (zO w b m (.map (some fb)) s st (fe S s N c l st)):=by
 obtain⟨F,hF⟩:∃F,F=Value.map (some fb):=⟨_,rfl⟩;have hL:LR w b F s st:=by rw[hF];exact hE.lr
 have hgb:g≠b:=by
  rintro rfl;exact absurd (hr.ty hL.row) (by decide)
 have hg:=hgb;have HE:=hid hE;have HF:=hid hF;have hmlt:=hE.nm.lt;have hmb:m≠b:=hE.nm.ne hL.row;have hgm:g≠m:=fun e=>hE.nm.ne hr e.symm
 rw[← hF];clear hF hE;have hglt:=hr.lt;have hblt:=hL.row.lt;obtain⟨W0,hW0⟩:∃W0,W0=w.alloc (.cells cJ.toArray 28):=⟨_,rfl⟩;have hr0:ad W0 g o 70 (Tm.au ai (.pointer (some ⟨cb,0,none⟩)) (.slice ga l.len cap)):=by rw[hW0];exact hr.alloc _
 have hL0:LR W0 b F s st:=by rw[hW0];exact hL.al (Below.heap_alloc _ _ _ hblt)
 have c0:=hr0.cell 0 (by simp[Tm.bf]);have c2:=hr0.cell 2 (by simp[Tm.bf]);have hnd:=ji b F s ([]) 4 g o st W0 hL0 hg c2;have c0':W0.cell? ⟨g,o,none⟩=some (.int .i64 4):=by
  have:=c0;simp only[Tm.au,Z0,Y2]at this;exact this
 have HND:=hid (show Calls Tryz.prog 60 #[.pointer (some ⟨b,0,none⟩),.pointer (some ⟨g,o,none⟩),.int .i64 4] W0 (fr W0 b F s ([]) 4 st)from hnd);have HR0:=hid hr0;have HL:=hid hL;rw[hW0]at c0';have HW0:=hid hW0;clear hnd c0 c2 hr0 hL0 hr hL hW0;go_enter Tryz.func30,Tryz.ntmps30;go_wp2_with fail;rw[← HW0.out];refine HND.out.mono ?_;intro e w1 hno;unfold fr at hno;cases hn:nod st with
 |none=>
  rw[hn]at hno;obtain⟨hb1,t,v,he⟩:=hno;unfold bA at he;subst he;have HB1:=hid hb1;have ho:fe S s N c l st=none:=by unfold fe;rw[hn];rfl
  rw[ho];clear hb1 ho hn;go_wp2_with fail;exact⟨rfl,lJ HW0.out HB1.out hblt,t,v,rfl⟩
 |some st1=>
  rw[hn]at hno;obtain⟨hb1,he,hL1⟩:=hno;have he2:e= .returned (.agg #[.string (aa ([])),.int .i64 4,.int .i64 (st.at_:Nat),.int .i64 0,.int .i64 0,.string {data:= #[]},.slice none 0 0]):=he;subst he2;have hat:st1.at_=st.at_:=kO hn;have hbs:=BxS.start (m:=(some m)) (nm:=[]) (kd:=4) HL.out HW0.out hb1 hL1 (fun x e=>by cases e;exact hmlt);have hbx:ad (w1.alloc (.cells #[.string {data:= #[]},.int .i64 0,.int .i64 0,.int .i64 0,.int .i64 0,.string {data:= #[]},.slice none 0 0] 28)) w1.heap.size 0 28 [.string {data:= #[]},.int .i64 0,.int .i64 0,.int .i64 0,.int .i64 0,.string {data:= #[]},.slice none 0 0]:=ad.new w1 28 #[.string {data:= #[]},.int .i64 0,.int .i64 0,.int .i64 0,.int .i64 0,.string {data:= #[]},.slice none 0 0];have y0:=hbx.cell0 0 (by simp);have z0:=hbx.frozen0 0 (by simp);have y1:=hbx.cell0 1 (by simp);have z1:=hbx.frozen0 1 (by simp);have y2:=hbx.cell0 2 (by simp);have z2:=hbx.frozen0 2 (by simp);have y3:=hbx.cell0 3 (by simp);have z3:=hbx.frozen0 3 (by simp);have y4:=hbx.cell0 4 (by simp);have z4:=hbx.frozen0 4 (by simp);have y5:=hbx.cell0 5 (by simp);have z5:=hbx.frozen0 5 (by simp);have y6:=hbx.cell0 6 (by simp);have z6:=hbx.frozen0 6 (by simp);simp only[Z0,Z1]at y0 y1 y2 y3 y4 y5 y6;have hg0:g < W0.heap.size:=HR0.out.lt;have hr1:ad w1 g o 70 (Tm.au ai (.pointer (some ⟨cb,0,none⟩)) (.slice ga l.len cap)):=HR0.out.of_heap (hb1.block g hg0 hg (fun e=>by cases e));obtain⟨V,hV⟩:∃V,V=w1.alloc (.cells #[.string (aa ([])),.int .i64 4,.int .i64 (st.at_:Nat),.int .i64 0,.int .i64 0,.string {data:= #[]},.slice none 0 0] 28):=⟨_,rfl⟩;have hr2:ad V g o 70 (Tm.au ai (.pointer (some ⟨cb,0,none⟩)) (.slice ga l.len cap)):=by rw[hV];exact hr1.alloc _
  have hbs2:BxS w V b w1.heap.size (some m) F s st1 (ae ([]) 4 st.at_ 0 0 [] (.slice none 0 0)):=by rw[hV];exact hbs
  have hgn:g≠w1.heap.size:=by have:=hr1.lt;omega
  have HR2:=hid hr2;have HBS:=hid hbs2;have HV:=hid hV;have hn1:=nN hn;have k8:=hr2.cell 8 (by simp[Tm.bf]);have k0:=hr2.cell 0 (by simp[Tm.bf]);simp only[Tm.au,Z0,Z1,Y2]at k8 k0;have hUV:Below U.heap.size U V:=But.below HE.out.bel hbs2.but HE.out.bel.size HE.out.bU (fun x e=>by cases e;exact HE.out.mU);have hbV:But w1 V b none:=by rw[hV];exact But.az ((Y4 _ _).alloc (Z5 _) _)
  have hb0:But w W0 b none:=by rw[HW0.out];exact But.az ((Y4 _ _).alloc (Z5 _) _)
  have hbwV:But w V b none:=(hb0.trans hb1).trans hbV;have hNV:NmM V m n N:=HE.out.nm.al (hbwV.block m hmlt hmb (fun e=>by cases e));have hFV:bR U V rb fb A:=HE.out.form.al (hbwV.block fb HE.out.form.lt (HE.out.form.ne HL.out.row) (fun e=>by cases e));obtain⟨kn,hNA⟩:=hNV.at_;have HNUM:=hid (kQ V rb cb kn c _ N hNA (xX hx hUV) hf);have HUV:=hid hUV;have HNV:=hid hNV;have HFV:=hid hFV;rw[hV]at k8 k0;clear hb1 hL1 he hbx hr1 hr2 hbs hbs2 hV hNA hNV hUV hFV hbV hb0 hbwV;go_wp2_with fail;rw[← HV.out];refine HNUM.out.mono ?_;unfold pA;rintro e w2 ⟨hb2,hv⟩;clear y0 y1 y2 y3 y4 y5 y6 z0 z1 z2 z3 z4 z5 z6 k8 k0;have hs2:=HBS.out.up hb2;have HS2:=hid hs2;have HB2:=hid hb2;cases hev:Ex.ev N c with
  |none=>
   rw[hev]at hv;obtain⟨t,v,he⟩:=hv;unfold bA at he;subst he;have ho:fe S s N c l st=none:=by unfold fe;rw[hn];simp only[Option.bind_some,hev];rfl
   rw[ho];clear hb2 hs2 ho hn hev;go_wp2_with fail;exact⟨rfl,HS2.out.but,t,v,rfl⟩
  |some v=>
   rw[hev]at hv;have hv2:e= .returned (.int .i64 v):=hv;subst hv2;have hN2:NmM w2 m n N:=HNV.out.al (hb2.block m HNV.out.lt);have hF2:bR U w2 rb fb A:=HFV.out.al (hb2.block fb HFV.out.lt);have hU2:Below U.heap.size U w2:=HUV.out.trans (hb2.mono HUV.out.size);have HN2:=hid hN2;have HF2:=hid hF2;have HU2:=hid hU2
   by_cases hv0:v=0
   ·subst hv0;have ho:fe S s N c l st=some (⟨[],4,st.at_,st1.at_ - st.at_,0,[],.nil⟩,N,st1):=by unfold fe;rw[hn];simp only[Option.bind_some,hev];rfl
    have HO:=hid ho;have hle:=hs2.lr.len;have hat1:st.at_≤st1.at_:=by omega
    clear hat;have HN1:=hid hn1;clear hb2 hs2 hN2 hF2 hU2 ho hn1 hv;go_wp2_with fail;obtain⟨W,hW⟩:∃W,W=w2:=⟨_,rfl⟩;have hs5:BxS w W b w1.heap.size (some m) F s st1 [.string (aa ([])),.int .i64 ((4:Nat):Int),.int .i64 (st.at_:Nat),.int .i64 ((0:Nat):Int),.int .i64 (0),.string (aa ([])),.slice none 0 0]:=by rw[hW];exact HS2.out
    rw[← hW];have q2:=(hs5.cell 2 (by simp)).1;have q3:=(hs5.cell 3 (by simp)).1;have u3:=(hs5.cell 3 (by simp)).2;have qr:=hs5.lr.row.cell0 2 (by simp);simp only[Z0,Z1]at q2 q3 qr;have hsz:(st1.at_:Int) - (st.at_:Int)=((st1.at_ - st.at_:Nat):Int):=by omega
    have wq:wrap64 ((st1.at_:Int) - (st.at_:Int))=(st1.at_:Int) - (st.at_:Int):=IntWalk.wrap64_in _ ⟨by omega,by omega⟩;have HSZ:=hid hsz;have HS5:=hid hs5;have HWW:=hid hW;clear hsz hs5 hW;go_still_tail 8,(by kernel_rfl);change wpList _ _ _ _ _ W.drew;obtain⟨X,hX⟩:∃X,X=W.drew:=⟨_,rfl⟩;rw[← hX];have hs6:=HS5.out.drewN 1;rw[show W.drewN 1=X from hX.symm]at hs6;have y3:=(hs6.cell 3 (by simp)).1;have u3:=(hs6.cell 3 (by simp)).2;simp only[Z0,Z1]at y3;have hsX:=hs6.set 3 (by simp) (.int .i64 ((st1.at_:Int) - (st.at_:Int)));simp only[Z2,Z3]at hsX;have HSX:=hid hsX;have HXW:=hid (show ∀k:Nat,X.heap[k]? =w2.heap[k]? from fun k=>by rw[hX,HWW.out];rfl);clear hX hs6 q2 q3 qr;have r0:=(hsX.cell 0 (by simp)).1;have r1:=(hsX.cell 1 (by simp)).1;have r2:=(hsX.cell 2 (by simp)).1;have r3:=(hsX.cell 3 (by simp)).1;have r4:=(hsX.cell 4 (by simp)).1;have r5:=(hsX.cell 5 (by simp)).1;have r6:=(hsX.cell 6 (by simp)).1;simp only[Z0,Z1]at r0 r1 r2 r3 r4 r5 r6;have x0:=hsX.res.cell0 0 (by simp);have v0:=hsX.res.frozen0 0 (by simp);have x1:=hsX.res.cell0 1 (by simp);have v1:=hsX.res.frozen0 1 (by simp);have x2:=hsX.res.cell0 2 (by simp);have v2:=hsX.res.frozen0 2 (by simp);have x3:=hsX.res.cell0 3 (by simp);have v3:=hsX.res.frozen0 3 (by simp);have x4:=hsX.res.cell0 4 (by simp);have v4:=hsX.res.frozen0 4 (by simp);have x5:=hsX.res.cell0 5 (by simp);have v5:=hsX.res.frozen0 5 (by simp);have x6:=hsX.res.cell0 6 (by simp);have v6:=hsX.res.frozen0 6 (by simp);simp only[Z0,Z1]at x0 x1 x2 x3 x4 x5 x6;clear hsX;go_wp2_with fail;clear r0 r1 r2 r3 r4 r5 r6;have p0:=HSX.out.res.aw 0 (by simp) (.string (aa ([])));have r0:=p0.cell0 0 (by simp);have p1:=p0.aw 1 (by simp) (.int .i64 4);have r1:=p1.cell0 1 (by simp);have p2:=p1.aw 2 (by simp) (.int .i64 (st.at_:Nat));have r2:=p2.cell0 2 (by simp);have p3:=p2.aw 3 (by simp) (.int .i64 ((st1.at_:Int) - (st.at_:Int)));have r3:=p3.cell0 3 (by simp);have p4:=p3.aw 4 (by simp) (.int .i64 (0));have r4:=p4.cell0 4 (by simp);have p5:=p4.aw 5 (by simp) (.string (aa ([])));have r5:=p5.cell0 5 (by simp);have p6:=p5.aw 6 (by simp) (.slice none 0 0);have r6:=p6.cell0 6 (by simp);simp only[Z2,Z3,Z0,Z1]at r0 r1 r2 r3 r4 r5 r6;have hfin:=HSX.out.result (.string (aa ([]))) (.int .i64 4) (.int .i64 (st.at_:Nat)) (.int .i64 ((st1.at_:Int) - (st.at_:Int))) (.int .i64 (0)) (.string (aa ([]))) (.slice none 0 0);clear p0 p1 p2 p3 p4 p5 p6;refine bodyPost_ret (v:= .agg #[.string (aa ([])),.int .i64 4,.int .i64 (st.at_:Nat),.int .i64 ((st1.at_:Int) - (st.at_:Int)),.int .i64 (0),.string (aa ([])),.slice none 0 0]) (by simp[results,Tryz.results30,go_sem,r0,r1,r2,r3,r4,r5,r6];first|done|rfl) rfl ?_;refine⟨hfin.1,?_⟩;rw[HO.out];refine⟨⟨_,[],rfl,?_,List.nodup_nil⟩,hfin.2.1,⟨show st.at_≤st1.at_ by omega,show st.n < st1.n by have h2:=HN1.out;omega⟩,n,?_,show n≤st1.n by have h1:=HE.out.few;have h2:=HN1.out;omega⟩
    ·rw[HSZ.out];exact NdV.leaf _ _ _ _ _ _ _ _
    ·have hn1:w1.heap.size≠m:=by have:=HS2.out.lt;omega
     have hn2:w.heap.size≠m:=by omega
     exact((HN2.out.al (w':=X) (HXW.out m)).al (Below.heap_setCell X ⟨w1.heap.size,3,none⟩ _ m (Ne.symm hn1))).al (cY _ _ _ _ _ _ _ m (Ne.symm hn2))
   ·have hvd:decide (v=0)=false:=Y9 hv0;have hvb:(v==0)=false:=Z8.2 hv0;have hN1:=HN2.out.lt;have hnbm:m≠w1.heap.size:=by have:=HS2.out.lt;omega
    have hnbf:fb≠w1.heap.size:=by have:=HS2.out.lt;have:=HE.out.form.lt;omega
    have hUb:U.heap.size≤w1.heap.size:=by have:=HS2.out.lt;have:=HE.out.bel.size;omega
    have d4:=(hs2.cell 4 (by simp[ae])).1;have e4:=(hs2.cell 4 (by simp[ae])).2;simp only[ae,Z0,Z1]at d4;have hs3:=hs2.set 4 (by simp[ae]) (.int .i64 1);simp only[ae,Z2,Z3]at hs3;obtain⟨w3,hw3⟩:∃w3,w3=w2.setCell ⟨w1.heap.size,4,none⟩ (.int .i64 1):=⟨_,rfl⟩;rw[← hw3]at hs3;have hfar:∀k:Nat,k≠w1.heap.size→w3.heap[k]? =w2.heap[k]? :=fun k hk=>by rw[hw3];exact Below.heap_setCell _ _ _ _ hk
    have hr3:ad w3 g o 70 (Tm.au ai (.pointer (some ⟨cb,0,none⟩)) (.slice ga l.len cap)):=(HR2.out.of_heap (hb2.block g HR2.out.lt)).of_heap (hfar g hgn);have hE3:RdE U w3 rb fb b m n A s N st1:=⟨⟨by rw[hw3];exact hU2.os,by rw[hw3];exact hU2.tape,by rw[hw3];exact hU2.output,by rw[hw3,World.size_setCell];exact hU2.size,fun k hk=>(hfar k (by omega)).trans (hU2.block k hk)⟩,
     HE.out.bU,HE.out.mU,HE.out.fm,hF2.al (hfar fb hnbf),by rw[← HF.out];exact hs3.lr,hN2.al (hfar m hnbm),by have:=HE.out.few;omega⟩
    have hit:=hI U w3 rb fb b m n cap ga bs N st1 hE3 hoi hen;rw[← HF.out]at hit;have HIT:=hid hit;have HS3:=hid hs3;have k12:=hr3.cell 12 (by simp[Tm.bf]);simp only[Tm.au,Z0,Z1]at k12;rw[hw3]at k12;have HW3:=hid hw3;clear hb2 hs2 hN2 hF2 hU2 hn1 hv hfar hr3 hE3 hit hs3 hw3 hN1 hUb;go_wp2_with fail;rw[← HW3.out];refine HIT.out.mono ?_;unfold th;rintro e w4 ⟨hb4,hv⟩;clear k12 d4 e4;cases hi:bM S s l N st1 with
    |none=>
     rw[hi]at hv;obtain⟨t,v,he⟩:=hv;unfold bA at he;subst he;have ho:fe S s N c l st=none:=by unfold fe;rw[hn];simp only[Option.bind_some,hev,if_neg hv0,hi];rfl
     rw[ho];have HB4:=hid hb4;clear hb4 ho hn hi hev;go_wp2_with fail;exact⟨rfl,HS3.out.but.trans HB4.out,t,v,rfl⟩
    |some p=>
     obtain⟨nds,N4,st2⟩:=p;rw[hi]at hv;obtain⟨⟨g4,c4,bl,vs,rfl,hk4⟩,hl4,hat2,n4,hN4,hn4⟩:=hv;have ho:fe S s N c l st=some (⟨[],4,st.at_,st2.at_ - st.at_,1,[],nds⟩,N4,st2):=by unfold fe;rw[hn];simp only[Option.bind_some,hev,if_neg hv0,hi];rfl
     have HO:=hid ho;have hlen:=hl4.len;have hs4:=HS3.out.move hb4 hl4;have h5:=HS3.out.row.lt;have h6:=HS3.out.lt;have hmm:∀k:Nat,k≠w1.heap.size→k≠w.heap.size→∀(W X:World),W=w4.setCell ⟨w1.heap.size,6,none⟩ (.slice g4 nds.len c4)→(∀j:Nat,X.heap[j]? =W.heap[j]?)→∀(sz v0 v1 v2 v3 v4 v5 v6:Value),(st7 (X.setCell ⟨w1.heap.size,3,none⟩ sz) w.heap.size v0 v1 v2 v3 v4 v5 v6).heap[k]? =w4.heap[k]? :=by
      intro k k1 k2 W X hW hX sz v0 v1 v2 v3 v4 v5 v6;rw[cY _ _ _ _ _ _ _ k k2,Below.heap_setCell X ⟨w1.heap.size,3,none⟩ sz k k1,hX,hW];exact Below.heap_setCell _ _ _ _ k1
     have HMM:=hid hmm;have HK4:=hid hk4;have HN4:=hid hN4;have HS4:=hid hs4;have HNN:=hid hn4;have HSB:=hid (show w.heap.size < w3.heap.size∧w1.heap.size < w3.heap.size from⟨by omega,h5⟩);have d6:=(hs4.cell 6 (by simp)).1;have e6:=(hs4.cell 6 (by simp)).2;simp only[Z0,Z1]at d6;have hs5:=hs4.set 6 (by simp) (.slice g4 nds.len c4);simp only[Z2,Z3]at hs5;have HS5b:=hid hs5;have hatC:st1.at_≤st2.at_:=hat2.1;have hatD:st1.n+nds.len≤st2.n:=hat2.2;have HNX:=hid (show st.n < st2.n by have h1:=nN hn;omega);clear hatD;have hatA:st.at_≤st2.at_:=by omega
     have hatB:st2.at_≤s.length:=hlen;clear hatC;clear hb4 hl4 hk4 hN4 hn4 hs4 hs5 ho hmm h5 h6 hlen hat hat2;go_wp2_with fail;obtain⟨W,hW⟩:∃W,W=w4.setCell ⟨w1.heap.size,6,none⟩ (.slice g4 nds.len c4):=⟨_,rfl⟩;have hs5:BxS w W b w1.heap.size (some m) F s st2 [.string (aa ([])),.int .i64 ((4:Nat):Int),.int .i64 (st.at_:Nat),.int .i64 ((0:Nat):Int),.int .i64 (1),.string (aa ([])),.slice g4 nds.len c4]:=by rw[hW];exact HS5b.out
     rw[← hW];have q2:=(hs5.cell 2 (by simp)).1;have q3:=(hs5.cell 3 (by simp)).1;have u3:=(hs5.cell 3 (by simp)).2;have qr:=hs5.lr.row.cell0 2 (by simp);simp only[Z0,Z1]at q2 q3 qr;have hsz:(st2.at_:Int) - (st.at_:Int)=((st2.at_ - st.at_:Nat):Int):=by omega
     have wq:wrap64 ((st2.at_:Int) - (st.at_:Int))=(st2.at_:Int) - (st.at_:Int):=IntWalk.wrap64_in _ ⟨by omega,by omega⟩;have HSZ:=hid hsz;have HS5:=hid hs5;have HWW:=hid hW;clear hsz hs5 hW;go_still_tail 8,(by kernel_rfl);change wpList _ _ _ _ _ W.drew;obtain⟨X,hX⟩:∃X,X=W.drew:=⟨_,rfl⟩;rw[← hX];have hs6:=HS5.out.drewN 1;rw[show W.drewN 1=X from hX.symm]at hs6;have y3:=(hs6.cell 3 (by simp)).1;have u3:=(hs6.cell 3 (by simp)).2;simp only[Z0,Z1]at y3;have hsX:=hs6.set 3 (by simp) (.int .i64 ((st2.at_:Int) - (st.at_:Int)));simp only[Z2,Z3]at hsX;have HSX:=hid hsX;have HXW:=hid (show ∀k:Nat,X.heap[k]? =W.heap[k]? from fun k=>by rw[hX];rfl);clear hX hs6 q2 q3 qr;have r0:=(hsX.cell 0 (by simp)).1;have r1:=(hsX.cell 1 (by simp)).1;have r2:=(hsX.cell 2 (by simp)).1;have r3:=(hsX.cell 3 (by simp)).1;have r4:=(hsX.cell 4 (by simp)).1;have r5:=(hsX.cell 5 (by simp)).1;have r6:=(hsX.cell 6 (by simp)).1;simp only[Z0,Z1]at r0 r1 r2 r3 r4 r5 r6;have x0:=hsX.res.cell0 0 (by simp);have v0:=hsX.res.frozen0 0 (by simp);have x1:=hsX.res.cell0 1 (by simp);have v1:=hsX.res.frozen0 1 (by simp);have x2:=hsX.res.cell0 2 (by simp);have v2:=hsX.res.frozen0 2 (by simp);have x3:=hsX.res.cell0 3 (by simp);have v3:=hsX.res.frozen0 3 (by simp);have x4:=hsX.res.cell0 4 (by simp);have v4:=hsX.res.frozen0 4 (by simp);have x5:=hsX.res.cell0 5 (by simp);have v5:=hsX.res.frozen0 5 (by simp);have x6:=hsX.res.cell0 6 (by simp);have v6:=hsX.res.frozen0 6 (by simp);simp only[Z0,Z1]at x0 x1 x2 x3 x4 x5 x6;clear hsX;go_wp2_with fail;clear r0 r1 r2 r3 r4 r5 r6;have p0:=HSX.out.res.aw 0 (by simp) (.string (aa ([])));have r0:=p0.cell0 0 (by simp);have p1:=p0.aw 1 (by simp) (.int .i64 4);have r1:=p1.cell0 1 (by simp);have p2:=p1.aw 2 (by simp) (.int .i64 (st.at_:Nat));have r2:=p2.cell0 2 (by simp);have p3:=p2.aw 3 (by simp) (.int .i64 ((st2.at_:Int) - (st.at_:Int)));have r3:=p3.cell0 3 (by simp);have p4:=p3.aw 4 (by simp) (.int .i64 (1));have r4:=p4.cell0 4 (by simp);have p5:=p4.aw 5 (by simp) (.string (aa ([])));have r5:=p5.cell0 5 (by simp);have p6:=p5.aw 6 (by simp) (.slice g4 nds.len c4);have r6:=p6.cell0 6 (by simp);simp only[Z2,Z3,Z0,Z1]at r0 r1 r2 r3 r4 r5 r6;have hfin:=HSX.out.result (.string (aa ([]))) (.int .i64 4) (.int .i64 (st.at_:Nat)) (.int .i64 ((st2.at_:Int) - (st.at_:Int))) (.int .i64 (1)) (.string (aa ([]))) (.slice g4 nds.len c4);clear p0 p1 p2 p3 p4 p5 p6;refine bodyPost_ret (v:= .agg #[.string (aa ([])),.int .i64 4,.int .i64 (st.at_:Nat),.int .i64 ((st2.at_:Int) - (st.at_:Int)),.int .i64 (1),.string (aa ([])),.slice g4 nds.len c4]) (by simp[results,Tryz.results30,go_sem,r0,r1,r2,r3,r4,r5,r6];first|done|rfl) rfl ?_;refine⟨hfin.1,?_⟩;rw[HO.out];refine⟨⟨_,_,rfl,?_,HK4.out.nodup⟩,hfin.2.1,⟨hatA,HNX.out⟩,n4,?_,HNN.out⟩
     ·rw[HSZ.out];refine((HK4.out.al (fun k h1 h2=>HMM.out k (by have:=HSB.out;omega) (by have:=HSB.out;omega) W X HWW.out HXW.out _ _ _ _ _ _ _ _)).low (Nat.le_of_lt HSB.out.1)).nd _ _ _ _ _ _
     ·exact HN4.out.al (HMM.out m hnbm (by omega) W X HWW.out HXW.out _ _ _ _ _ _ _ _)
end
section
variable{P:Program}{md:Region.Mode}{ops:Array Oper}{Q:Exit→Act→World→Prop}{S:World→Prop}
theorem bO{i:Nat}{oi:Oper}{v:Value}{d:Option Tmp}{fuel:Nat}{listed:Array Bool}{a:Act}{w:World}(hi:ops[i]? =some oi)(hd:oi.dst=d)
  (hs:Region.noSelect ops=true)(hf:Region.free md ops listed i=true)(hr:(Region.ready md ops listed).contains i=true)
  (hQ:∀c a w,Q (.panic c) (a.put d v) w→Q (.panic c) a w)(hy:YieldsIf P ops S oi v a)(hS:S w)
  (h:wpAnyH P md ops Q S fuel (listed.setIfInBounds i true) (a.put d v) w):wpAnyH P md ops Q S (fuel+1) listed a w:=by
 subst hd;exact wpAnyH_take hi hs hf hr hQ hy hS h
end
section
open Go Go.RowKit
open Rd
open Ly
theorem rP(w:World):(zeroValue 63).run Tryz.prog w= .ok (.slice none 0 0) w:=by kernel_rfl
theorem bR.look{U w:World}{rb fb:Nat}{A:List Tm.Ty}(h:bR U w rb fb A){t:Tm.Ty}(ht:t∈A)(hl:t.name.length≤100000):∃ga cap bs,an U (rb+1) 70 13 ga t.items.len cap bs∧Tm.bp U rb t.items bs∧
  ∀W:World,W.heap[fb]? =w.heap[fb]? →(Instr.lookup 59 (.map (some fb)) (.string (aa t.name)) false).run Tryz.prog W= .ok (.slice ga t.items.len cap) W:=by
 obtain⟨n,G,h1,h2⟩:=h;obtain⟨ga,cap,bs,h3,h4,h5⟩:=h2.1 t ht;refine⟨ga,cap,bs,h4,h5,fun W hW=> ?_⟩;have:=(h1.al hW).look (Maps.string_keyed Tryz.underlying9) Tryz.underlying59 (rP W) (tg Tryz.underlying9 t.name (by omega)) (lL _);rw[h3]at this;exact this
theorem pF(A:List Tm.Ty)(S S':Sub)(s:Tm.Wd)(t:Tm.Ty)(ht:t∈A)(hS:∀st,S t.name st=(bM S' s t.items (fun _=>none) st).map fun p=>(p.1,p.2.2))(hI:rO A S' s t.items)(htl:t.name.length≤100000)(b rb fb:Nat)(mv cv:Value)(g o:Nat)(st:St)(N:Ex.Names)(h:Tm.Hd)(U w:World)
  (hL0:LR w b (.map (some fb)) s st)(hU:Below U.heap.size U w)(hbU:U.heap.size≤b)(hfm:bR U w rb fb A)(hs:s.length≤1000000)(hk:h.k= .struct t.name)
  (hr:ad w g o 70 (Tm.ag h cv)):
  Calls Tryz.prog 30 #[.pointer (some ⟨b,0,none⟩),.pointer (some ⟨g,o,none⟩),mv] w (fS w b none (.map (some fb)) s st (bI S s N h st)):=by
 obtain⟨F,hF⟩:∃F,F=Value.map (some fb):=⟨_,rfl⟩;have hL:LR w b F s st:=by rw[hF];exact hL0
 have hg:g≠b:=by
  rintro rfl;exact absurd (hr.ty hL.row) (by decide)
 have hflt:=hfm.lt;have hfb:fb≠b:=hfm.ne hL.row;obtain⟨ga,cap,bs,hoi,hen,hlk⟩:=hfm.look ht htl;rw[← hF]at hlk⊢;have HF:=hid hF;have HU:=hid hU;have HFM:=hid hfm;clear hF hL0 hU hfm;have hglt:=hr.lt;have hblt:=hL.row.lt;obtain⟨W0,hW0⟩:∃W0,W0=w.alloc (.cells cJ.toArray 28):=⟨_,rfl⟩;have hr0:ad W0 g o 70 (Tm.ag h cv):=by rw[hW0];exact hr.alloc _
 have hL0:LR W0 b F s st:=by rw[hW0];exact hL.al (Below.heap_alloc _ _ _ hblt)
 have c0:=hr0.cell 0 (by simp[Tm.aj]);have c2:=hr0.cell 2 (by simp[Tm.aj]);have hnd:=ji b F s (h.name) 3 g o st W0 hL0 hg c2;have c0':W0.cell? ⟨g,o,none⟩=some (.int .i64 3):=by
  have:=c0;simp only[Tm.ag,hk,Tm.aI,Z0,Y2]at this;exact this
 have HND:=hid (show Calls Tryz.prog 60 #[.pointer (some ⟨b,0,none⟩),.pointer (some ⟨g,o,none⟩),.int .i64 3] W0 (fr W0 b F s (h.name) 3 st)from hnd);have HR0:=hid hr0;have HL:=hid hL;rw[hW0]at c0';have HW0:=hid hW0;clear hnd c0 c2 hr0 hL0 hr hL hW0;go_enter Tryz.func30,Tryz.ntmps30;go_wp2_with fail;rw[← HW0.out];refine HND.out.mono ?_;intro e w1 hno;unfold fr at hno;cases hn:nod st with
 |none=>
  rw[hn]at hno;obtain⟨hb1,t,v,he⟩:=hno;unfold bA at he;subst he;have HB1:=hid hb1;have ho:bI S s N h st=none:=by unfold bI;rw[hn];rfl
  rw[ho];clear hb1 ho hn;go_wp2_with fail;exact⟨rfl,lJ HW0.out HB1.out hblt,t,v,rfl⟩
 |some st1=>
  rw[hn]at hno;obtain⟨hb1,he,hL1⟩:=hno;have he2:e= .returned (.agg #[.string (aa (h.name)),.int .i64 3,.int .i64 (st.at_:Nat),.int .i64 0,.int .i64 0,.string {data:= #[]},.slice none 0 0]):=he;subst he2;have hat:st1.at_=st.at_:=kO hn;have hbs:=BxS.start (m:=none) (nm:=h.name) (kd:=3) HL.out HW0.out hb1 hL1 (fun x e=>by cases e);have hbx:ad (w1.alloc (.cells #[.string {data:= #[]},.int .i64 0,.int .i64 0,.int .i64 0,.int .i64 0,.string {data:= #[]},.slice none 0 0] 28)) w1.heap.size 0 28 [.string {data:= #[]},.int .i64 0,.int .i64 0,.int .i64 0,.int .i64 0,.string {data:= #[]},.slice none 0 0]:=ad.new w1 28 #[.string {data:= #[]},.int .i64 0,.int .i64 0,.int .i64 0,.int .i64 0,.string {data:= #[]},.slice none 0 0];have y0:=hbx.cell0 0 (by simp);have z0:=hbx.frozen0 0 (by simp);have y1:=hbx.cell0 1 (by simp);have z1:=hbx.frozen0 1 (by simp);have y2:=hbx.cell0 2 (by simp);have z2:=hbx.frozen0 2 (by simp);have y3:=hbx.cell0 3 (by simp);have z3:=hbx.frozen0 3 (by simp);have y4:=hbx.cell0 4 (by simp);have z4:=hbx.frozen0 4 (by simp);have y5:=hbx.cell0 5 (by simp);have z5:=hbx.frozen0 5 (by simp);have y6:=hbx.cell0 6 (by simp);have z6:=hbx.frozen0 6 (by simp);simp only[Z0,Z1]at y0 y1 y2 y3 y4 y5 y6;have hg0:g < W0.heap.size:=HR0.out.lt;have hr1:ad w1 g o 70 (Tm.ag h cv):=HR0.out.of_heap (hb1.block g hg0 hg (fun e=>by cases e));obtain⟨V,hV⟩:∃V,V=w1.alloc (.cells #[.string (aa (h.name)),.int .i64 3,.int .i64 (st.at_:Nat),.int .i64 0,.int .i64 0,.string {data:= #[]},.slice none 0 0] 28):=⟨_,rfl⟩;have hr2:ad V g o 70 (Tm.ag h cv):=by rw[hV];exact hr1.alloc _
  have hbs2:BxS w V b w1.heap.size none F s st1 (ae (h.name) 3 st.at_ 0 0 [] (.slice none 0 0)):=by rw[hV];exact hbs
  have hgn:g≠w1.heap.size:=by have:=hr1.lt;omega
  have HR2:=hid hr2;have HBS:=hid hbs2;have HV:=hid hV;have k0:=hr2.cell 0 (by simp[Tm.aj]);have k3:=hr2.cell 3 (by simp[Tm.aj]);simp only[Tm.ag,hk,Tm.aI,Tm.bu,Z0,Z1,Y2]at k0 k3;rw[hV]at k0;have q0:=hbs2.lr.row.cell0 0 (by simp);simp only[Z0]at q0;have hb0:But w W0 b none:=by rw[HW0.out];exact But.az ((Y4 _ _).alloc (Z5 _) _)
  have hbV:But w1 V b none:=by rw[hV];exact But.az ((Y4 _ _).alloc (Z5 _) _)
  have hbwV:But w V b none:=(hb0.trans hb1).trans hbV;have hfV:V.heap[fb]? =w.heap[fb]? :=hbwV.block fb hflt hfb (fun e=>by cases e);have hlk0:∀j,(Instr.lookup 59 F (.string (aa t.name)) false).run Tryz.prog (V.drewN j)= .ok (.slice ga t.items.len cap) (V.drewN j):=fun j=>hlk _ hfV
  have hmm:∀W:World,(Instr.makeMap 103 none).run Tryz.prog W= .ok (.map (some W.heap.size)) (W.alloc (.map #[] 0)):=fun W=>by kernel_rfl
  have hFV:bR U V rb fb A:=HFM.out.al hfV;have hUV:Below U.heap.size U V:=But.below HU.out hbs2.but HU.out.size hbU (fun x e=>by cases e);clear hlk0;have hn2:=nN hn;have hC:∀(W0:World) (k:Nat),k=W0.heap.size→BxS w W0 b w1.heap.size none F s st1 (ae h.name 3 st.at_ 0 0 [] (.slice none 0 0))→W0.heap[fb]? =V.heap[fb]? →
    Calls Tryz.prog 65 #[.pointer (some ⟨b,0,none⟩),.slice ga t.items.len cap,.map (some k)] (W0.alloc (.map #[] 0)) (th (W0.alloc (.map #[] 0)) b k F s st1 (bM S' s t.items (fun _=>none) st1)):=by
   intro W0 k hk hB hfb0;subst hk;have hUW:Below U.heap.size U W0:=But.below HU.out hB.but HU.out.size hbU (fun x e=>by cases e);have hfl:fb < W0.heap.size:=by have:=hB.but.size;omega
   have hlr:LR (W0.alloc (.map #[] 0)) b (.map (some fb)) s st1:=by rw[← HF.out];exact hB.lr.al (Below.heap_alloc _ _ _ hB.lr.row.lt)
   have hE:RdE U (W0.alloc (.map #[] 0)) rb fb b W0.heap.size 0 A s (fun _=>none) st1:=⟨hUW.alloc hUW.size _,hbU,hUW.size,by omega,(hFV.al hfb0).al (Below.heap_alloc _ _ _ hfl),hlr,NmM.made W0,Nat.zero_le _⟩;have:=hI U _ rb fb b W0.heap.size 0 cap ga bs _ st1 hE hoi hen;rw[← HF.out]at this;exact this
  have HC:=hid hC;have HLK:=hid hlk;have HFV:=hid (show V.heap[fb]? =w.heap[fb]? from hfV);have hSS:∀W st' sv,BxS w W b w1.heap.size none F s st' [.string (aa h.name),.int .i64 ((3:Nat):Int),.int .i64 (st.at_:Nat),.int .i64 ((0:Nat):Int),.int .i64 0,.string (aa []),sv]→W.heap[fb]? =w.heap[fb]? →
    W.cell? ⟨b,0,none⟩=some F∧W.cell? ⟨g,o+3,none⟩=some (.string (aa t.name))∧(Instr.lookup 59 F (.string (aa t.name)) false).run Tryz.prog W= .ok (.slice ga t.items.len cap) W:=by
   intro W st' sv hB hf;have hrw:ad W0 g o 70 (Tm.ag h cv):=HR0.out;have hbW:ad W g o 70 (Tm.ag h cv):=by
    have h1:g < w.heap.size:=hglt;refine ad.of_heap (w:=W0) hrw ?_;rw[hB.but.block g h1 hg (fun e=>by cases e),HW0.out];exact(Below.heap_alloc _ _ _ h1).symm
   have c3:=hbW.cell 3 (by simp[Tm.aj]);simp only[Tm.ag,hk,Tm.bu,Z0,Z1]at c3;have c0:=hB.lr.row.cell0 0 (by simp);simp only[Z0]at c0;exact⟨c0,c3,HLK.out W hf⟩
  have HSS:=hid hSS;obtain⟨D,hD⟩:∃D,D=V.drew:=⟨_,rfl⟩;have hbD:BxS w D b w1.heap.size none F s st1 (ae h.name 3 st.at_ 0 0 [] (.slice none 0 0)):=by rw[hD];exact hbs2.drewN 1
  have hfD:D.heap[fb]? =w.heap[fb]? :=by rw[hD];exact hfV
  have hS1:=hSS D st1 (.slice none 0 0) hbD hfD;have hfE:(D.alloc (.map #[] 0)).heap[fb]? =w.heap[fb]? :=(Below.heap_alloc D _ fb (by have:=hbD.but.size;omega)).trans hfD;have hS2:=hSS (D.alloc (.map #[] 0)) st1 (.slice none 0 0) (hbD.up ((Y4 _ _).alloc (Z5 _) _)) hfE;have HS1:=hid hS1;have HS2:=hid hS2;have HBD:=hid hbD;have HFD:=hid (show D.heap[fb]? =V.heap[fb]? by rw[hD];rfl);have HFE:=hid hfE;have HD:=hid hD;rw[hV]at k3;clear q0 hlk hb1 hL1 he hbx hr1 hr2 hbs hbs2 hV hb0 hbV hbwV hfV hFV hUV hC hSS hn2 y0 y1 y2 y3 y4 y5 y6 z0 z1 z2 z3 z4 z5 z6 hS1 hS2 hD hbD hfD hfE;go_wp2_with fail;rw[← HV.out];refine wp_region_held_drew (S:=fun W:World=>W.cell? ⟨b,0,none⟩=some F∧W.cell? ⟨g,o+3,none⟩=some (.string (aa t.name))∧(Instr.lookup 59 F (.string (aa t.name)) false).run Tryz.prog W= .ok (.slice ga t.items.len cap) W) (by kernel_rfl) (by rw[← HD.out];exact HS1.out) (fun hHeld=> ?_);rw[← HD.out];clear hHeld;refine bO (i:=0) (oi:=⟨some 22,_,_,_,_,_⟩) (d:=some 22) (v:= ?_) rfl rfl (by as_aux_lemma=>kernel_rfl) (by as_aux_lemma=>kernel_rfl) (by as_aux_lemma=>kernel_rfl) (fun _ _ _ h=>h) (Or.inl ⟨by rfl,?_⟩) (by first|exact HS1.out|exact HS2.out) ?_
  rotate_left
  ·(intro w hSw;obtain⟨s1,s2,s3⟩:=hSw;go_simp) <;> with_reducible rfl
  try dsimp only[Act.put]
  try simp only[Act.put,Z4,Z2,Z3]
  refine bO (i:=1) (oi:=⟨some 23,_,_,_,_,_⟩) (d:=some 23) (v:= ?_) rfl rfl (by as_aux_lemma=>kernel_rfl) (by as_aux_lemma=>kernel_rfl) (by as_aux_lemma=>kernel_rfl) (fun _ _ _ h=>h) (Or.inl ⟨by rfl,?_⟩) (by first|exact HS1.out|exact HS2.out) ?_
  rotate_left
  ·(intro w hSw;obtain⟨s1,s2,s3⟩:=hSw;go_simp) <;> with_reducible rfl
  try dsimp only[Act.put]
  try simp only[Act.put,Z4,Z2,Z3]
  refine bO (i:=2) (oi:=⟨some 24,_,_,_,_,_⟩) (d:=some 24) (v:= ?_) rfl rfl (by as_aux_lemma=>kernel_rfl) (by as_aux_lemma=>kernel_rfl) (by as_aux_lemma=>kernel_rfl) (fun _ _ _ h=>h) (Or.inl ⟨by rfl,?_⟩) (by first|exact HS1.out|exact HS2.out) ?_
  rotate_left
  ·(intro w hSw;obtain⟨s1,s2,s3⟩:=hSw;go_simp) <;> with_reducible rfl
  try dsimp only[Act.put]
  try simp only[Act.put,Z4,Z2,Z3]
  refine bO (i:=3) (oi:=⟨some 25,_,_,_,_,_⟩) (d:=some 25) (v:= ?_) rfl rfl (by as_aux_lemma=>kernel_rfl) (by as_aux_lemma=>kernel_rfl) (by as_aux_lemma=>kernel_rfl) (fun _ _ _ h=>h) (Or.inl ⟨by rfl,?_⟩) (by first|exact HS1.out|exact HS2.out) ?_
  rotate_left
  ·(intro w hSw;obtain⟨s1,s2,s3⟩:=hSw;go_simp) <;> with_reducible rfl
  try dsimp only[Act.put]
  try simp only[Act.put,Z4,Z2,Z3]
  refine bO (i:=5) (oi:=⟨some 27,_,_,_,_,_⟩) (d:=some 27) (v:= ?_) rfl rfl (by as_aux_lemma=>kernel_rfl) (by as_aux_lemma=>kernel_rfl) (by as_aux_lemma=>kernel_rfl) (fun _ _ _ h=>h) (Or.inl ⟨by rfl,?_⟩) (by first|exact HS1.out|exact HS2.out) ?_
  rotate_left
  ·(intro w hSw;obtain⟨s1,s2,s3⟩:=hSw;go_simp) <;> with_reducible rfl
  try dsimp only[Act.put]
  try simp only[Act.put,Z4,Z2,Z3]
  refine bO (i:=6) (oi:=⟨some 28,_,_,_,_,_⟩) (d:=some 28) (v:= ?_) rfl rfl (by as_aux_lemma=>kernel_rfl) (by as_aux_lemma=>kernel_rfl) (by as_aux_lemma=>kernel_rfl) (fun _ _ _ h=>h) (Or.inl ⟨by rfl,?_⟩) (by first|exact HS1.out|exact HS2.out) ?_
  rotate_left
  ·(intro w hSw;obtain⟨s1,s2,s3⟩:=hSw;go_simp) <;> with_reducible rfl
  try dsimp only[Act.put]
  try simp only[Act.put,Z4,Z2,Z3]
  refine bO (i:=7) (oi:=⟨some 29,_,_,_,_,_⟩) (d:=some 29) (v:= ?_) rfl rfl (by as_aux_lemma=>kernel_rfl) (by as_aux_lemma=>kernel_rfl) (by as_aux_lemma=>kernel_rfl) (fun _ _ _ h=>h) (Or.inl ⟨by rfl,?_⟩) (by first|exact HS1.out|exact HS2.out) ?_
  rotate_left
  ·(intro w hSw;obtain⟨s1,s2,s3⟩:=hSw;go_simp) <;> with_reducible rfl
  try dsimp only[Act.put]
  try simp only[Act.put,Z4,Z2,Z3]
  refine bO (i:=4) (oi:=⟨some 26,_,_,_,_,_⟩) (d:=some 26) (v:= ?_) rfl rfl (by as_aux_lemma=>kernel_rfl) (by as_aux_lemma=>kernel_rfl) (by as_aux_lemma=>kernel_rfl) (fun _ _ _ h=>h) (Or.inl ⟨by rfl,?_⟩) (by first|exact HS1.out|exact HS2.out) ?_
  rotate_left
  ·(intro w hSw;obtain⟨s1,s2,s3⟩:=hSw;go_simp) <;> with_reducible rfl
  try dsimp only[Act.put]
  try simp only[Act.put,Z4,Z2,Z3]
  refine bO (i:=8) (oi:=⟨some 30,_,_,_,_,_⟩) (d:=some 30) (v:= ?_) rfl rfl (by as_aux_lemma=>kernel_rfl) (by as_aux_lemma=>kernel_rfl) (by as_aux_lemma=>kernel_rfl) (fun _ _ _ h=>h) (Or.inl ⟨by rfl,?_⟩) (by first|exact HS1.out|exact HS2.out) ?_
  rotate_left
  ·(intro w hSw;obtain⟨s1,s2,s3⟩:=hSw;go_simp) <;> with_reducible rfl
  try dsimp only[Act.put]
  try simp only[Act.put,Z4,Z2,Z3]
  refine bO (i:=9) (oi:=⟨some 31,_,_,_,_,_⟩) (d:=some 31) (v:= ?_) rfl rfl (by as_aux_lemma=>kernel_rfl) (by as_aux_lemma=>kernel_rfl) (by as_aux_lemma=>kernel_rfl) (fun _ _ _ h=>h) (Or.inl ⟨by rfl,?_⟩) (by first|exact HS1.out|exact HS2.out) ?_
  rotate_left
  ·(intro w hSw;obtain⟨s1,s2,s3⟩:=hSw;go_simp) <;> with_reducible rfl
  try dsimp only[Act.put]
  try simp only[Act.put,Z4,Z2,Z3]
  refine wpAnyH_ready (rs:=[10]) (by as_aux_lemma=>kernel_rfl) (by simp) ?_;refine AllReadyH.cons (o:=⟨some 32,_,_,_,_,_⟩) rfl (fun K hK=> ?_) AllReadyH.nil;go_simp;refine hK.out _ _ HS2.out (fun hHeld=> ?_);clear hHeld hK K;refine wpAnyH_ready (rs:=[11]) (by as_aux_lemma=>kernel_rfl) (by simp) ?_;refine AllReadyH.cons (o:=⟨some 33,_,_,_,_,_⟩) rfl (fun K hK=> ?_) AllReadyH.nil;go_simp;refine(HC.out D _ rfl HBD.out HFD.out).mono ?_;unfold th;rintro e w4 ⟨hb4,hv⟩;have hbD4:But D w4 b none:=((But.az ((Y4 D.heap.size D).alloc (Z5 _) (.map #[] 0))).trans hb4).fresh (Z5 _);have HB4:=hid hbD4;cases hi:bM S' s t.items (fun _=>none) st1 with
  |none=>
   rw[hi]at hv;obtain⟨t',v,he⟩:=hv;unfold bA at he;subst he;have ho:bI S s N h st=none:=by unfold bI;rw[hn,hk];simp only[Option.bind_some,hS,hi];rfl
   rw[ho];clear hb4 hbD4 ho hn hi;go_wp2_with fail;exact⟨rfl,HBD.out.but.trans HB4.out,t',v,rfl⟩
  |some p=>
   obtain⟨nds,N4,st2⟩:=p;rw[hi]at hv;obtain⟨⟨g4,c4,bl,vs,rfl,hk4⟩,hl4,hat2,n4,hN4,hn4⟩:=hv;have ho:bI S s N h st=some (⟨h.name,3,st.at_,st2.at_ - st.at_,0,[],nds⟩,st2):=by unfold bI;rw[hn,hk];simp only[Option.bind_some,hS,hi];rfl
   have HO:=hid ho;have hs4:=HBD.out.move hbD4 hl4;have hf4:w4.heap[fb]? =w.heap[fb]? :=(hb4.block fb (by have:=HBD.out.but.size;simp;omega) hfb (fun e=>by have:=HBD.out.but.size;injection e with e;omega)).trans HFE.out;have HS4:=hid (HSS.out w4 st2 _ hs4 hf4);have hlen:=hl4.len;have h5:=HBD.out.row.lt;have h6:=HBD.out.lt;have hmm:∀k:Nat,k≠w1.heap.size→k≠w.heap.size→∀(W X:World),W=w4.setCell ⟨w1.heap.size,6,none⟩ (.slice g4 nds.len c4)→(∀j:Nat,X.heap[j]? =W.heap[j]?)→∀(sz v0 v1 v2 v3 v4 v5 v6:Value),(st7 (X.setCell ⟨w1.heap.size,3,none⟩ sz) w.heap.size v0 v1 v2 v3 v4 v5 v6).heap[k]? =w4.heap[k]? :=by
    intro k k1 k2 W X hW hX sz v0 v1 v2 v3 v4 v5 v6;rw[cY _ _ _ _ _ _ _ k k2,Below.heap_setCell X ⟨w1.heap.size,3,none⟩ sz k k1,hX,hW];exact Below.heap_setCell _ _ _ _ k1
   have HMM:=hid hmm;have HK4:=hid hk4;have hDs:D.heap.size < (D.alloc (.map #[] 0)).heap.size:=by simp
   have HSB:=hid (show w.heap.size < (D.alloc (.map #[] 0)).heap.size∧w1.heap.size < (D.alloc (.map #[] 0)).heap.size from⟨by omega,by omega⟩);clear hDs;have d6:=(hs4.cell 6 (by simp[ae])).1;have e6:=(hs4.cell 6 (by simp[ae])).2;simp only[ae,Z0,Z1]at d6;have hs5:=hs4.set 6 (by simp[ae]) (.slice g4 nds.len c4);simp only[ae,Z2,Z3]at hs5;have HS5b:=hid hs5;have HS5c:=hid (HSS.out _ st2 _ hs5 ((Below.heap_setCell _ ⟨w1.heap.size,6,none⟩ _ fb (show fb≠w1.heap.size by have:=HBD.out.lt;omega)).trans hf4));have hatC:st1.at_≤st2.at_:=hat2.1;have hatD:st1.n+nds.len≤st2.n:=hat2.2;have HNX:=hid (show st.n < st2.n by have h1:=nN hn;omega);clear hatD;have hatA:st.at_≤st2.at_:=by omega
   have hatB:st2.at_≤s.length:=hlen;clear hatC hb4 hl4 hk4 hN4 hn4 hs4 hs5 ho hmm h5 h6 hlen hat hat2 hf4 hbD4;go_wp2_with fail;refine hK.out _ _ HS4.out (fun hHeld=> ?_);clear hHeld hK K
   try simp only[Act.put,Z4,Z2,Z3]
   refine bO (i:=12) (oi:=⟨some 34,_,_,_,_,_⟩) (d:=some 34) (v:= ?_) rfl rfl (by as_aux_lemma=>kernel_rfl) (by as_aux_lemma=>kernel_rfl) (by as_aux_lemma=>kernel_rfl) (fun _ _ _ h=>h) (Or.inl ⟨by rfl,?_⟩) (by exact HS4.out) ?_
   rotate_left
   ·(intro w hSw;obtain⟨s1,s2,s3⟩:=hSw;go_simp) <;> with_reducible rfl
   try dsimp only[Act.put]
   try simp only[Act.put,Z4,Z2,Z3]
   refine wpAnyH_ready (rs:=[13]) (by as_aux_lemma=>kernel_rfl) (by simp) ?_;refine AllReadyH.cons (o:=⟨none,_,_,_,_,_⟩) rfl (fun K hK=> ?_) AllReadyH.nil;go_simp;refine hK.out _ _ HS5c.out (fun hHeld=> ?_);clear hHeld hK K;refine wpAnyH_done (by as_aux_lemma=>kernel_rfl) ?_ _;go_wp2_with fail;obtain⟨W,hW⟩:∃W,W=w4.setCell ⟨w1.heap.size,6,none⟩ (.slice g4 nds.len c4):=⟨_,rfl⟩;have hs5:BxS w W b w1.heap.size none F s st2 [.string (aa (h.name)),.int .i64 ((3:Nat):Int),.int .i64 (st.at_:Nat),.int .i64 ((0:Nat):Int),.int .i64 (0),.string (aa ([])),.slice g4 nds.len c4]:=by rw[hW];exact HS5b.out
   rw[← hW];have q2:=(hs5.cell 2 (by simp)).1;have q3:=(hs5.cell 3 (by simp)).1;have u3:=(hs5.cell 3 (by simp)).2;have qr:=hs5.lr.row.cell0 2 (by simp);simp only[Z0,Z1]at q2 q3 qr;have hsz:(st2.at_:Int) - (st.at_:Int)=((st2.at_ - st.at_:Nat):Int):=by omega
   have wq:wrap64 ((st2.at_:Int) - (st.at_:Int))=(st2.at_:Int) - (st.at_:Int):=IntWalk.wrap64_in _ ⟨by omega,by omega⟩;have HSZ:=hid hsz;have HS5:=hid hs5;have HWW:=hid hW;clear hsz hs5 hW;go_still_tail 8,(by kernel_rfl);change wpList _ _ _ _ _ W.drew;obtain⟨X,hX⟩:∃X,X=W.drew:=⟨_,rfl⟩;rw[← hX];have hs6:=HS5.out.drewN 1;rw[show W.drewN 1=X from hX.symm]at hs6;have y3:=(hs6.cell 3 (by simp)).1;have u3:=(hs6.cell 3 (by simp)).2;simp only[Z0,Z1]at y3;have hsX:=hs6.set 3 (by simp) (.int .i64 ((st2.at_:Int) - (st.at_:Int)));simp only[Z2,Z3]at hsX;have HSX:=hid hsX;have HXW:=hid (show ∀k:Nat,X.heap[k]? =W.heap[k]? from fun k=>by rw[hX];rfl);clear hX hs6 q2 q3 qr;have r0:=(hsX.cell 0 (by simp)).1;have r1:=(hsX.cell 1 (by simp)).1;have r2:=(hsX.cell 2 (by simp)).1;have r3:=(hsX.cell 3 (by simp)).1;have r4:=(hsX.cell 4 (by simp)).1;have r5:=(hsX.cell 5 (by simp)).1;have r6:=(hsX.cell 6 (by simp)).1;simp only[Z0,Z1]at r0 r1 r2 r3 r4 r5 r6;have x0:=hsX.res.cell0 0 (by simp);have v0:=hsX.res.frozen0 0 (by simp);have x1:=hsX.res.cell0 1 (by simp);have v1:=hsX.res.frozen0 1 (by simp);have x2:=hsX.res.cell0 2 (by simp);have v2:=hsX.res.frozen0 2 (by simp);have x3:=hsX.res.cell0 3 (by simp);have v3:=hsX.res.frozen0 3 (by simp);have x4:=hsX.res.cell0 4 (by simp);have v4:=hsX.res.frozen0 4 (by simp);have x5:=hsX.res.cell0 5 (by simp);have v5:=hsX.res.frozen0 5 (by simp);have x6:=hsX.res.cell0 6 (by simp);have v6:=hsX.res.frozen0 6 (by simp);simp only[Z0,Z1]at x0 x1 x2 x3 x4 x5 x6;clear hsX;go_wp2_with fail;clear r0 r1 r2 r3 r4 r5 r6;have p0:=HSX.out.res.aw 0 (by simp) (.string (aa (h.name)));have r0:=p0.cell0 0 (by simp);have p1:=p0.aw 1 (by simp) (.int .i64 3);have r1:=p1.cell0 1 (by simp);have p2:=p1.aw 2 (by simp) (.int .i64 (st.at_:Nat));have r2:=p2.cell0 2 (by simp);have p3:=p2.aw 3 (by simp) (.int .i64 ((st2.at_:Int) - (st.at_:Int)));have r3:=p3.cell0 3 (by simp);have p4:=p3.aw 4 (by simp) (.int .i64 (0));have r4:=p4.cell0 4 (by simp);have p5:=p4.aw 5 (by simp) (.string (aa ([])));have r5:=p5.cell0 5 (by simp);have p6:=p5.aw 6 (by simp) (.slice g4 nds.len c4);have r6:=p6.cell0 6 (by simp);simp only[Z2,Z3,Z0,Z1]at r0 r1 r2 r3 r4 r5 r6;have hfin:=HSX.out.result (.string (aa (h.name))) (.int .i64 3) (.int .i64 (st.at_:Nat)) (.int .i64 ((st2.at_:Int) - (st.at_:Int))) (.int .i64 (0)) (.string (aa ([]))) (.slice g4 nds.len c4);clear p0 p1 p2 p3 p4 p5 p6;refine bodyPost_ret (v:= .agg #[.string (aa (h.name)),.int .i64 3,.int .i64 (st.at_:Nat),.int .i64 ((st2.at_:Int) - (st.at_:Int)),.int .i64 (0),.string (aa ([])),.slice g4 nds.len c4]) (by simp[results,Tryz.results30,go_sem,r0,r1,r2,r3,r4,r5,r6];first|done|rfl) rfl ?_;refine⟨hfin.1,?_⟩;rw[HO.out];refine⟨⟨_,_,rfl,?_,HK4.out.nodup⟩,hfin.2.1,hatA,HNX.out⟩;rw[HSZ.out];exact((HK4.out.al (fun k h1 h2=>HMM.out k (by have:=HSB.out;omega) (by have:=HSB.out;omega) W X HWW.out HXW.out _ _ _ _ _ _ _ _)).low (Nat.le_of_lt HSB.out.1)).nd _ _ _ _ _ _
end
end Go.Proofs.YtlomecfhobehnaaGreatDoor
