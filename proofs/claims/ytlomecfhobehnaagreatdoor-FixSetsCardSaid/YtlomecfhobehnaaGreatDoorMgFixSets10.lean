import Derived.Test.YtlomecfhobehnaaGreatDoorMgFixSets9
set_option linter.unusedVariables false
set_option linter.unusedSimpArgs false
set_option maxRecDepth 100000
set_option maxHeartbeats 1000000
namespace Go.Proofs.YtlomecfhobehnaaGreatDoor
open Lib (hid)
section
open Go Go.RowKit
open Rd
open Ly
theorem xX{V w:World}{rb bx:Nat}{x:Ex.X}(h:IsX V rb bx x)(hb:Below V.heap.size V w):IsX w rb bx x:=IsX.al (fun g xs _ hr=>hb.block g hr.lt) x bx h
theorem Bh(b m n rb cb:Nat)(F:Value)(s:Tm.Wd)(g o:Nat)(st:St)(S:Sub)(N:Ex.Names)(h:Tm.Hd)(c:Ex.X)(U w:World)(hL:LR w b F s st)(hg:g≠b)(hs:s.length≤1000000)(hk:h.k= .bytes)(hc:h.cnt=some c)
  (hf:Ex.kc Num.numOf Num.dec c)(hU:Below U.heap.size U w)(hbU:U.heap.size≤b)(hx:IsX U rb cb c)(hN:NmM w m n N)(hm:m≠b)
  (hr:ad w g o 70 (Tm.ag h (.pointer (some ⟨cb,0,none⟩)))):
  Calls Tryz.prog 30 #[.pointer (some ⟨b,0,none⟩),.pointer (some ⟨g,o,none⟩),.map (some m)] w (fS w b none F s st (bI S s N h st)):=by
 have hglt:=hr.lt;have hblt:=hL.row.lt;obtain⟨W0,hW0⟩:∃W0,W0=w.alloc (.cells cJ.toArray 28):=⟨_,rfl⟩;have hr0:ad W0 g o 70 (Tm.ag h (.pointer (some ⟨cb,0,none⟩))):=by rw[hW0];exact hr.alloc _
 have hL0:LR W0 b F s st:=by rw[hW0];exact hL.al (Below.heap_alloc _ _ _ hblt)
 have c0:=hr0.cell 0 (by simp[Tm.aj]);have c2:=hr0.cell 2 (by simp[Tm.aj]);have hnd:=ji b F s (h.name) 2 g o st W0 hL0 hg c2;have c0':W0.cell? ⟨g,o,none⟩=some (.int .i64 2):=by
  have:=c0;simp only[Tm.ag,hk,Tm.aI,Z0,Y2]at this;exact this
 have HND:=hid (show Calls Tryz.prog 60 #[.pointer (some ⟨b,0,none⟩),.pointer (some ⟨g,o,none⟩),.int .i64 2] W0 (fr W0 b F s (h.name) 2 st)from hnd);have HR0:=hid hr0;have HL:=hid hL;rw[hW0]at c0';have HW0:=hid hW0;clear hnd c0 c2 hr0 hL0 hr hL hW0;go_enter Tryz.func30,Tryz.ntmps30;go_wp2_with fail;rw[← HW0.out];refine HND.out.mono ?_;intro e w1 hno;unfold fr at hno;cases hn:nod st with
 |none=>
  rw[hn]at hno;obtain⟨hb1,t,v,he⟩:=hno;unfold bA at he;subst he;have HB1:=hid hb1;have ho:bI S s N h st=none:=by unfold bI;rw[hn];rfl
  rw[ho];clear hb1 ho hn;go_wp2_with fail;exact⟨rfl,lJ HW0.out HB1.out hblt,t,v,rfl⟩
 |some st1=>
  rw[hn]at hno;obtain⟨hb1,he,hL1⟩:=hno;have he2:e= .returned (.agg #[.string (aa (h.name)),.int .i64 2,.int .i64 (st.at_:Nat),.int .i64 0,.int .i64 0,.string {data:= #[]},.slice none 0 0]):=he;subst he2;have hat:st1.at_=st.at_:=kO hn;have hbs:=BxS.start (m:=none) (nm:=h.name) (kd:=2) HL.out HW0.out hb1 hL1 (fun x e=>by cases e);have hbx:ad (w1.alloc (.cells #[.string {data:= #[]},.int .i64 0,.int .i64 0,.int .i64 0,.int .i64 0,.string {data:= #[]},.slice none 0 0] 28)) w1.heap.size 0 28 [.string {data:= #[]},.int .i64 0,.int .i64 0,.int .i64 0,.int .i64 0,.string {data:= #[]},.slice none 0 0]:=ad.new w1 28 #[.string {data:= #[]},.int .i64 0,.int .i64 0,.int .i64 0,.int .i64 0,.string {data:= #[]},.slice none 0 0];have y0:=hbx.cell0 0 (by simp);have z0:=hbx.frozen0 0 (by simp);have y1:=hbx.cell0 1 (by simp);have z1:=hbx.frozen0 1 (by simp);have y2:=hbx.cell0 2 (by simp);have z2:=hbx.frozen0 2 (by simp);have y3:=hbx.cell0 3 (by simp);have z3:=hbx.frozen0 3 (by simp);have y4:=hbx.cell0 4 (by simp);have z4:=hbx.frozen0 4 (by simp);have y5:=hbx.cell0 5 (by simp);have z5:=hbx.frozen0 5 (by simp);have y6:=hbx.cell0 6 (by simp);have z6:=hbx.frozen0 6 (by simp);simp only[Z0,Z1]at y0 y1 y2 y3 y4 y5 y6;have hg0:g < W0.heap.size:=HR0.out.lt;have hr1:ad w1 g o 70 (Tm.ag h (.pointer (some ⟨cb,0,none⟩))):=HR0.out.of_heap (hb1.block g hg0 hg (fun e=>by cases e));obtain⟨V,hV⟩:∃V,V=w1.alloc (.cells #[.string (aa (h.name)),.int .i64 2,.int .i64 (st.at_:Nat),.int .i64 0,.int .i64 0,.string {data:= #[]},.slice none 0 0] 28):=⟨_,rfl⟩;have hr2:ad V g o 70 (Tm.ag h (.pointer (some ⟨cb,0,none⟩))):=by rw[hV];exact hr1.alloc _
  have hbs2:BxS w V b w1.heap.size none F s st1 (ae (h.name) 2 st.at_ 0 0 [] (.slice none 0 0)):=by rw[hV];exact hbs
  have hgn:g≠w1.heap.size:=by have:=hr1.lt;omega
  have HR2:=hid hr2;have HBS:=hid hbs2;have HV:=hid hV;have k8:=hr2.cell 8 (by simp[Tm.aj]);have k0:=hr2.cell 0 (by simp[Tm.aj]);simp only[Tm.ag,hk,Tm.aI,Z0,Z1,Y2]at k8 k0;have hUV:Below U.heap.size U V:=But.below hU hbs2.but hU.size hbU (fun x e=>by cases e);have hNV:NmM V m n N:=hN.al (hbs2.but.block m hN.lt hm (fun e=>by cases e));obtain⟨kn,hNA⟩:=hNV.at_;have HNUM:=hid (kQ V rb cb kn c _ N hNA (xX hx hUV) hf);have HRG:=hid (fun v=>Ex.uD hNA.rng c hf v);rw[hV]at k8 k0;clear hb1 hL1 he hbx hr1 hr2 hbs hbs2 hV hNA hNV hUV;go_wp2_with fail;rw[← HV.out];refine HNUM.out.mono ?_;unfold pA;rintro e w2 ⟨hb2,hv⟩;clear y0 y1 y2 y3 y4 y5 y6 z0 z1 z2 z3 z4 z5 z6 k8 k0;have hs2:=HBS.out.up hb2;have HS2:=hid hs2;cases hev:Ex.ev N c with
  |none=>
   rw[hev]at hv;obtain⟨t,v,he⟩:=hv;unfold bA at he;subst he;have ho:bI S s N h st=none:=by unfold bI;rw[hn,hk,hc];simp only[Option.bind_some,hev];rfl
   rw[ho];clear hb2 hs2 ho hn hev;go_wp2_with fail;exact⟨rfl,HS2.out.but,t,v,rfl⟩
  |some v=>
   rw[hev]at hv;have hv2:e= .returned (.int .i64 v):=hv;subst hv2;obtain⟨g1,g2⟩:=HRG.out v hev;have HTK:=hid (rG b F s st1 v _ hs2.lr hs g1 g2);clear hb2 hs2 g1 g2;go_wp2_with fail;refine HTK.out.mono ?_;unfold xV;rintro e w3 ⟨hg3,ht⟩;have hb3:But w2 w3 b none:=But.uW hg3;have HB3:=hid hb3;cases htk:tak s v st1 with
   |none=>
    rw[htk]at ht;obtain⟨t,v,he⟩:=ht;unfold bA at he;subst he;have ho:bI S s N h st=none:=by unfold bI;rw[hn,hk,hc];simp only[Option.bind_some,hev,htk];rfl
    rw[ho];clear hg3 hb3 ho hn htk hev;go_wp2_with fail;exact⟨rfl,HS2.out.but.trans HB3.out,t,v,rfl⟩
   |some p=>
    obtain⟨u,st2⟩:=p;rw[htk]at ht;obtain⟨rfl,hl2⟩:=ht;have ho:bI S s N h st=some (⟨h.name,2,st.at_,st2.at_ - st.at_,0,u,.nil⟩,st2):=by unfold bI;rw[hn,hk,hc];simp only[Option.bind_some,hev,htk];rfl
    have HO:=hid ho;have htl:st1.at_≤st2.at_∧st2.at_≤s.length:=by
     obtain⟨h1,h2,h3⟩:=te htk HBS.out.lr.len;exact⟨h1.le,h1.len⟩
    have HNX:=hid (show st.n < st2.n by have h1:=nN hn;have h2:=F6 htk;omega);obtain⟨hat1,hat2⟩:=htl;have hs3:=HS2.out.move hb3 hl2;have HS3:=hid hs3;have d5:=(hs3.cell 5 (by simp[ae])).1;have e5:=(hs3.cell 5 (by simp[ae])).2;simp only[ae,Z0,Z1]at d5;have hs4:=hs3.set 5 (by simp[ae]) (.string (aa u));simp only[ae,Z2,Z3]at hs4;have HS4:=hid hs4;clear hg3 hb3 hl2 hs3 hs4 ho;go_wp2_with fail;obtain⟨W,hW⟩:∃W,W=w3.setCell ⟨w1.heap.size,5,none⟩ (.string (aa u)):=⟨_,rfl⟩;have hs5:BxS w W b w1.heap.size none F s st2 [.string (aa (h.name)),.int .i64 ((2:Nat):Int),.int .i64 (st.at_:Nat),.int .i64 ((0:Nat):Int),.int .i64 (0),.string (aa (u)),.slice none 0 0]:=by rw[hW];exact HS4.out
    rw[← hW];have q2:=(hs5.cell 2 (by simp)).1;have q3:=(hs5.cell 3 (by simp)).1;have u3:=(hs5.cell 3 (by simp)).2;have qr:=hs5.lr.row.cell0 2 (by simp);simp only[Z0,Z1]at q2 q3 qr;have hsz:(st2.at_:Int) - (st.at_:Int)=((st2.at_ - st.at_:Nat):Int):=by omega
    have wq:wrap64 ((st2.at_:Int) - (st.at_:Int))=(st2.at_:Int) - (st.at_:Int):=IntWalk.wrap64_in _ ⟨by omega,by omega⟩;have HSZ:=hid hsz;have HS5:=hid hs5;clear hsz hs5 hW;go_still_tail 8,(by kernel_rfl);change wpList _ _ _ _ _ W.drew;obtain⟨X,hX⟩:∃X,X=W.drew:=⟨_,rfl⟩;rw[← hX];have hs6:=HS5.out.drewN 1;rw[show W.drewN 1=X from hX.symm]at hs6;have y3:=(hs6.cell 3 (by simp)).1;have u3:=(hs6.cell 3 (by simp)).2;simp only[Z0,Z1]at y3;have hsX:=hs6.set 3 (by simp) (.int .i64 ((st2.at_:Int) - (st.at_:Int)));simp only[Z2,Z3]at hsX;have HSX:=hid hsX;have HXW:=hid (show ∀k:Nat,X.heap[k]? =W.heap[k]? from fun k=>by rw[hX];rfl);clear hX hs6 q2 q3 qr;have r0:=(hsX.cell 0 (by simp)).1;have r1:=(hsX.cell 1 (by simp)).1;have r2:=(hsX.cell 2 (by simp)).1;have r3:=(hsX.cell 3 (by simp)).1;have r4:=(hsX.cell 4 (by simp)).1;have r5:=(hsX.cell 5 (by simp)).1;have r6:=(hsX.cell 6 (by simp)).1;simp only[Z0,Z1]at r0 r1 r2 r3 r4 r5 r6;have x0:=hsX.res.cell0 0 (by simp);have v0:=hsX.res.frozen0 0 (by simp);have x1:=hsX.res.cell0 1 (by simp);have v1:=hsX.res.frozen0 1 (by simp);have x2:=hsX.res.cell0 2 (by simp);have v2:=hsX.res.frozen0 2 (by simp);have x3:=hsX.res.cell0 3 (by simp);have v3:=hsX.res.frozen0 3 (by simp);have x4:=hsX.res.cell0 4 (by simp);have v4:=hsX.res.frozen0 4 (by simp);have x5:=hsX.res.cell0 5 (by simp);have v5:=hsX.res.frozen0 5 (by simp);have x6:=hsX.res.cell0 6 (by simp);have v6:=hsX.res.frozen0 6 (by simp);simp only[Z0,Z1]at x0 x1 x2 x3 x4 x5 x6;clear hsX;go_wp2_with fail;clear r0 r1 r2 r3 r4 r5 r6;have p0:=HSX.out.res.aw 0 (by simp) (.string (aa (h.name)));have r0:=p0.cell0 0 (by simp);have p1:=p0.aw 1 (by simp) (.int .i64 2);have r1:=p1.cell0 1 (by simp);have p2:=p1.aw 2 (by simp) (.int .i64 (st.at_:Nat));have r2:=p2.cell0 2 (by simp);have p3:=p2.aw 3 (by simp) (.int .i64 ((st2.at_:Int) - (st.at_:Int)));have r3:=p3.cell0 3 (by simp);have p4:=p3.aw 4 (by simp) (.int .i64 (0));have r4:=p4.cell0 4 (by simp);have p5:=p4.aw 5 (by simp) (.string (aa (u)));have r5:=p5.cell0 5 (by simp);have p6:=p5.aw 6 (by simp) (.slice none 0 0);have r6:=p6.cell0 6 (by simp);simp only[Z2,Z3,Z0,Z1]at r0 r1 r2 r3 r4 r5 r6;have hfin:=HSX.out.result (.string (aa (h.name))) (.int .i64 2) (.int .i64 (st.at_:Nat)) (.int .i64 ((st2.at_:Int) - (st.at_:Int))) (.int .i64 (0)) (.string (aa (u))) (.slice none 0 0);clear p0 p1 p2 p3 p4 p5 p6;refine bodyPost_ret (v:= .agg #[.string (aa (h.name)),.int .i64 2,.int .i64 (st.at_:Nat),.int .i64 ((st2.at_:Int) - (st.at_:Int)),.int .i64 (0),.string (aa (u)),.slice none 0 0]) (by simp[results,Tryz.results30,go_sem,r0,r1,r2,r3,r4,r5,r6];first|done|rfl) rfl ?_;refine⟨hfin.1,?_⟩;rw[HO.out];refine⟨⟨_,[],rfl,?_,List.nodup_nil⟩,hfin.2.1,show st.at_≤st2.at_ by omega,HNX.out⟩;rw[HSZ.out];exact NdV.leaf _ _ _ _ _ _ _ _
end
section
open Go Go.RowKit Go.Maps Go.WideElems Go.ChangeMaps Go.WideMaps
def uZ(v:Value):Option (DataW Value×List MemPlace):=some (.held v,[])
def Bi(F:Lit→Option Value)(c:Lit)(v:Value):Lit→Option Value:=fun x=>if x.sameKey c then some v else F x
theorem rK(F:Lit→Option Value){c:Lit}(hc:WideAt.IsKeyLit c)(v:Value):Bi F c v c=some v:=if_pos (WideAt.sameKey_self hc)
theorem kR(F:Lit→Option Value){c x:Lit}(v:Value)(h:x≠c):Bi F c v x=F x:=by unfold Bi;rw[sameKey_ne h,if_neg (by decide)]
def atL(o:Option Value)(z:DataW Value):DataW Value:=match o with
 |none=>z
 |some v=> .held v
def fs(P:Program)(k:TypeId)(w:World)(b n:Nat)(F:Lit→Option Value):Prop:=
 ∃D:DataW Value,w.ownsMap P k uZ b n D∧IsMap D∧∀kl,WideAt.IsKeyLit kl→∀z,D.atKey kl z=atL (F kl) z
section
variable{P:Program}{t k e:TypeId}{w:World}{b n:Nat}{F:Lit→Option Value}
theorem fs.made(w:World):fs P k (w.alloc (.map #[] 0)) w.heap.size 0 (fun _=>none):=
 ⟨.map [],World.ownsMap_made _ _ _ _,isMap_empty,fun c _ z=>rfl⟩
theorem fs.al{w':World}(h:fs P k w b n F)(hh:w'.heap[b]? =w.heap[b]?):fs P k w' b n F:=by
 obtain⟨D,⟨es,clock,hb,h1⟩,h2⟩:=h;exact⟨D,⟨es,clock,hh.trans hb,h1⟩,h2⟩
theorem fs.lt(h:fs P k w b n F):b < w.heap.size:=by obtain⟨D,h1,_⟩:=h;exact h1.lt
theorem fs.block(h:fs P k w b n F):∃es clock,w.heap[b]? =some (.map es clock):=by
 obtain⟨D,⟨es,clock,hb,_⟩,_⟩:=h;exact⟨es,clock,hb⟩
theorem fs.has{D:DataW Value}(h3:∀kl,WideAt.IsKeyLit kl→∀z,D.atKey kl z=atL (F kl) z){kl:Lit}(hl:WideAt.IsKeyLit kl):Maps.has D kl=(F kl).isSome:=by
 cases hF:F kl with
 |none=>exact has_false_of_atKey fun z=>by rw[h3 kl hl z,hF];rfl
 |some v=>exact has_true_of_atKey (y:= .held v) fun z=>by rw[h3 kl hl z,hF];rfl
theorem fs.look(h:fs P k w b n F)(K:Keyed P k)(ht:P.underlying t=some (.map k e)){z:Value}(hz:(zeroValue e).run P w= .ok z w){key:Value}{kl:Lit}(hkey:keyOf P k key=some kl)(hl:WideAt.IsKeyLit kl):
  (Instr.lookup t (.map (some b)) key false).run P w= .ok ((F kl).getD z) w:=by
 obtain⟨D,h1,h2,h3⟩:=h;obtain⟨v,ps,hrun,hv⟩:=h1.lookup K ht hz (show uZ z=some (.held z,[])from rfl) hkey;rw[h3 kl hl]at hv;rw[hrun];cases hF:F kl with
 |none=>
  rw[hF]at hv;simp only[uZ,atL,Option.some.injEq,Prod.mk.injEq,DataW.held.injEq]at hv;rw[hv.1];rfl
 |some u=>
  rw[hF]at hv;simp only[uZ,atL,Option.some.injEq,Prod.mk.injEq,DataW.held.injEq]at hv;rw[hv.1];rfl
theorem fs.look_ok(h:fs P k w b n F)(K:Keyed P k)(ht:P.underlying t=some (.map k e)){z:Value}(hz:(zeroValue e).run P w= .ok z w){key:Value}{kl:Lit}(hkey:keyOf P k key=some kl)(hl:WideAt.IsKeyLit kl):
  (Instr.lookup t (.map (some b)) key true).run P w= .ok (.tuple #[(F kl).getD z,.bool (F kl).isSome]) w:=by
 obtain⟨D,h1,h2,h3⟩:=h;obtain⟨v,ps,hrun,hv⟩:=h1.look_ok K ht hz (show uZ z=some (.held z,[])from rfl) hkey;rw[h3 kl hl]at hv;rw[hrun,fs.has h3 hl];cases hF:F kl with
 |none=>
  rw[hF]at hv;simp only[uZ,atL,Option.some.injEq,Prod.mk.injEq,DataW.held.injEq]at hv;rw[hv.1];rfl
 |some u=>
  rw[hF]at hv;simp only[uZ,atL,Option.some.injEq,Prod.mk.injEq,DataW.held.injEq]at hv;rw[hv.1];rfl
theorem fs.store(h:fs P k w b n F)(K:Keyed P k)(ht:P.underlying t=some (.map k e))(hn:n < maxLen){key val:Value}{kl:Lit}(hkey:keyOf P k key=some kl)(hl:WideAt.IsKeyLit kl):
  ∃w',(Instr.mapUpdate t (.map (some b)) key val).run P w= .ok () w'∧fs P k w' b (n+1) (Bi F kl val)∧w.grownBy w' (some b)∧w'.heap.size=w.heap.size:=by
 obtain⟨D,h1,h2,h3⟩:=h;obtain⟨w',hrun,ho,hg⟩:=h1.store K ht hn hkey (show uZ val=some (.held val,[])from rfl);have hsz:w'.heap.size=w.heap.size:=by
  obtain⟨es,clock,es',clock',hb,rfl⟩:=hg;simp[ChangeMaps.setBlock]
 refine⟨w',hrun,⟨_,ho,h2.put _ _,fun x hx z=> ?_⟩,hg.grown,hsz⟩
 by_cases hxc:x=kl
 ·subst hxc;rw[atKey_put_same h2 hx,rK F hx];rfl
 ·rw[atKey_put_other hxc,kR F _ hxc];exact h3 x hx z
end
theorem qS{P:Program}(w:World){ops:Array Oper}{rest:List Oper}{o:Oper}{a:Act}{Q:Exit→Act→World→Prop}
  (hg:o.guard=none)(m x v:Operand)(t:TypeId)(hop:o.op=Op.mapUpdate t m x v)(k e:TypeId)(ht:P.underlying t=some (.map k e))(K:Keyed P k)
  (b n:Nat)(F:Lit→Option Value)(hm:a.eval m= .map (some b))(h:fs P k w b n F)(hn:n < maxLen)(key val:Value)(kl:Lit)(hkey:keyOf P k key=some kl)(hl:WideAt.IsKeyLit kl)(hx:a.eval x=key)(hv:a.eval v=val)
  (hK:∀w',fs P k w' b (n+1) (Bi F kl val)→w.grownBy w' (some b)→w'.heap.size=w.heap.size→wpList P ops Q rest (a.put o.dst undef) w'):
  wpList P ops Q (o::rest) a w:=by
 refine wpList_plain hg fun K' hK'=> ?_
 obtain⟨w',hrun,r1,r2,r3⟩:=h.store (val:=val) K ht hn hkey hl;unfold Oper.wp;simp[execOp,hop,hm,hx,hv,hrun,Result.andThen];exact hK' _ _ (hK w' r1 r2 r3)
theorem lL(s:List UInt8):WideAt.IsKeyLit (.string s):=by unfold WideAt.IsKeyLit;trivial
theorem tg{P:Program}{k:TypeId}(hk:P.underlying k=some .string)(s:List UInt8)(hs:s.length≤200000000000000):keyOf P k (.string (aa s))=some (.string s):=
 WideMaps.keyOf_string_mk hk (by rw[aq];show s.length≤9223372036854775807;omega)
end
section
open Go.RowKit
open Rd
def jP(w0:World)(rb E d:Nat)(T:List Rd.Tok)(e:Ending)(w':World):Prop:=
 (∃I R cs,Tm.gX E d T I R∧e= .returned (.agg cs.toArray)∧Tm.Enc w' rb (fun b=>w0.heap.size≤b) I cs∧Rdr w' rb R E∧w0.grownBy w' (some rb))∨((∀I R,¬Tm.gX E d T I R)∧Bad w0 rb e w')
def jk(w0:World)(rb E d:Nat)(T:List Rd.Tok)(e:Ending)(w':World):Prop:=
 (∃l R ga cap bs,Tm.mH E d T l R∧e= .returned (.slice ga (Tm.Its.len l) cap)∧an w' w0.heap.size 70 13 ga (Tm.Its.len l) cap bs∧Tm.Enc w' rb (fun b=>w0.heap.size≤b) l bs∧Rdr w' rb R E∧w0.grownBy w' (some rb))∨((∀l R,¬Tm.mH E d T l R)∧Bad w0 rb e w')
def mP(rb E d:Nat)(T:List Rd.Tok):Prop:=∀w,Env w rb→Rdr w rb T E→Calls Tryz.prog 55 #[.pointer (some ⟨rb,0,none⟩),.int .i64 (d:Nat)] w (jk w rb E d T)
def Dj(rb E d:Nat)(T:List Rd.Tok):Prop:=∀w,Env w rb→Rdr w rb T E→Calls Tryz.prog 89 #[.pointer (some ⟨rb,0,none⟩),.int .i64 (d:Nat)] w (jP w rb E d T)
theorem lM(w:World)(rb E:Nat)(T:List Rd.Tok)(m:Tm.Wd)(hm:m≠[])(hr:Rdr w rb T E):
  Calls Tryz.prog 85 #[.pointer (some ⟨rb,0,none⟩),.string (aa m)] w fun e w'=>(∃t R,T=t::R∧t.1=m∧e= .returned (.bool true)∧Rdr w' rb R E∧w.grownBy w' (some rb))∨(Tm.ak T≠m∧e= .returned (.bool false)∧w'=w):=by
 have hto:ak T=Tm.ak T:=by cases T <;> rfl
 by_cases h:Tm.ak T=m
 ·cases T with
  |nil=>exact absurd h.symm hm
  |cons t R=>
   have h2:t.1=m:=h;subst h2;exact(ez rb t R E w hr hm).mono fun e w' h=> .inl ⟨t,R,rfl,rfl,h⟩
 ·exact(dn rb T E m w hr hm (by rw[hto];exact h)).mono fun e w' g=> .inr ⟨h,g⟩
end
end Go.Proofs.YtlomecfhobehnaaGreatDoor
