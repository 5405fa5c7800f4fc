import Derived.Deep.AppendLies
import Derived.Test.YtlomecfhobehnaaGreatDoorMgFixSets16
set_option linter.unusedVariables false
set_option linter.unusedSimpArgs false
set_option maxRecDepth 100000
set_option maxHeartbeats 1000000
namespace Go.Proofs.YtlomecfhobehnaaGreatDoor
open Lib (hid)
section
open Go.RowKit
theorem iI{P:Program}(w:World){ops:Array Oper}{o:Oper}{act:Act}{K:Act→World→Prop}{Q:Exit→Act→World→Prop}{E:Prop}(hgd:o.guard=none)(s x:Operand)(t:TypeId)
  (ho:o.op= .call {callee:= .builtin .append,args:= #[s,x],argTypes:= #[t,t]})
  (B:Nat)(e:TypeId)(z:Value)(size bytes:Nat)(ht:P.underlying t=some (.slice e))(hinf:(P.info? e).map (fun i=>(i.zero,i.size,i.bytes))=some (some z,size,bytes))(hzs:z.cells.size=size)(hsz:0 < size)
  (a:Option Addr)(n cap:Nat)(xs:List Value)(hs:act.eval s= .slice a n cap)(hown:an w B e size a n cap xs)
  (g m c:Nat)(hm:0 < m)(news:List Value)(hl:news.length=m * size)(h1:∀u∈news,u.oneCell'=true)(hx:act.eval x= .slice (some ⟨g,0,none⟩) m c)(hrow:ad w g 0 e news)
  (h63:n+m≤maxLen)(hbytes:(n+m) * bytes≤140737488355328)(hbase:B≤w.heap.size)
  (h:∀a' cap' w',an w' B e size a' (n+m) cap' (xs++news)→w.grownBy w' (blk a)→(∀x,a'=some x→a=some x∨w.heap.size≤x.block)→(∃g,a'=some ⟨g,0,none⟩)→K (act.put o.dst (.slice a' (n+m) cap')) w'):
  if Region.wanted o (yielded ops act.tmps)=true then Oper.wp P o act w K Q else E:=by
 obtain⟨i,hi,hz,hsize,hby⟩:=info_parts hinf;have hnews:∀j u,news[j]? =some u→w.cell? ((⟨g,0,none⟩:Addr).add j)=some u:=by
  intro j u hj;have hadd:(⟨g,0,none⟩:Addr).add j=⟨g,j,none⟩:=by unfold Addr.add;split <;> simp_all
  rw[hadd];have hlt:j < news.length:=by
   rcases Nat.lt_or_ge j news.length with h|h
   ·exact h
   ·rw[List.getElem?_eq_none h]at hj;cases hj
  rw[hrow.cell0 j hlt,← hj,Y1 hlt]
 refine step_append_lies w hgd s x t ho B e i z size bytes ht hi hz hsize hby hzs hsz (.slice a n cap) n xs hs hown ⟨g,0,none⟩ m c news hx hl hnews h1 hm h63 hbytes hbase _ rfl ?_;intro gg cap' w' hown' hgrow hat hlt;refine h (some ⟨gg,0,none⟩) cap' w' hown' ?_ ?_ ⟨gg,rfl⟩
 ·rw[bE]at hgrow;exact hgrow
 ·intro y hy;cases hy;rcases hat with hloc|hloc
  ·left;rw[bE]at hloc;cases ha:a with
   |none=>rw[ha]at hloc;simp[blk]at hloc
   |some y=>
    rw[ha]at hloc;subst ha;have hr:=an.row hown;simp[blk]at hloc;rw[hr.1,hloc]
  ·right;show w.heap.size≤gg;omega
theorem Dq{P:Program}{ops:Array Oper}{act:Act}{w:World}{K:Act→World→Prop}{Q:Exit→Act→World→Prop}{E:Prop}{d:Option Nat}{s x:Operand}{t ty:TypeId}{pos:String}{af:Array Edge}{gd:Option (Tmp×Bool)}
  (h:if Region.wanted ⟨d,.call {callee:= .builtin .append,args:= #[s,x],argTypes:= #[t,t]},ty,pos,af,gd⟩ (yielded ops act.tmps)=true then Oper.wp P ⟨d,.call {callee:= .builtin .append,args:= #[s,x],argTypes:= #[t,t]},ty,pos,af,gd⟩ act w K Q else E):
  if Region.wanted ⟨d,.call {callee:= .builtin .append,args:= #[s,x],argTypes:= #[t,t]},ty,pos,af,gd⟩ (yielded ops act.tmps)=true then Oper.wp P ⟨d,.call {callee:= .builtin .append,args:= #[s,x],argTypes:= #[t,t]},ty,pos,af,gd⟩ act w K Q else E:=h
end
section
open Go Go.RowKit
open Rd
open Ly
theorem BxS.grow{w0 w w':World}{b nb:Nat}{m:Option Nat}{F:Value}{s:Tm.Wd}{st:St}{cs:List Value}(h:BxS w0 w b nb m F s st cs){ga:Option Addr}(hg:w.grownBy w' (blk ga))(hga:∀x,ga=some x→nb < x.block):BxS w0 w' b nb m F s st cs:=by
 have h1:=h.but.size;have h2:=h.blt;have h3:=h.lt;have k:∀g,g < w.heap.size→g≤nb→w'.heap[g]? =w.heap[g]? :=fun g hg1 h4=>hg.block g hg1 (fun e=>by
  cases ha:ga with
  |none=>rw[ha]at e;simp[blk]at e
  |some x=>rw[ha]at e;simp only[blk,Option.map_some]at e;injection e with e;have:=hga x ha;omega)
 refine⟨⟨hg.os.trans h.but.os,hg.tape.trans h.but.tape,hg.output.trans h.but.output,Nat.le_trans h1 hg.size,fun g hg1 h4 h5=>(k g (by omega) (by omega)).trans (h.but.block g hg1 h4 h5)⟩,h.res.of_heap (k _ h.res.lt (by omega)),h.row.of_heap (k _ h.row.lt (Z5 _)),h3,h.lr.al (k b (by omega) (by omega)),h2,h.mlt⟩
namespace Ly
open Tm
theorem Dr{f:St→Option (Nd×St)}{k:Nat}{st st2:St}{d:Nd}(h:f st=some (d,st2)):rep f (k+1) st=(rep f k st2).map fun q=>(d.put q.1,q.2):=by
 show(f st).bind _=_;rw[h];rfl
theorem zP{f:St→Option (Nd×St)}{k:Nat}{st:St}(h:f st=none):rep f (k+1) st=none:=by
 show(f st).bind _=_;rw[h];rfl
theorem zQ(ks r:Nds)(d:Nd):(ks.app (d.put .nil)).app r=ks.app (d.put r):=by
 rw[Nds.dF];rfl
structure qT(w0 V w:World)(b nb:Nat)(F:Value)(s nm:Wd)(at_:Nat)(f:St→Option (Nd×St))(k i:Nat)(st1:St)(ks:Nds)(ga:Option Addr)(cap:Nat)(bl:List Nat)(vs:List Value)(st2:St):Prop where
 bx:BxS w0 w b nb none F s st2 [.string (aa nm),.int .i64 ((9:Nat):Int),.int .i64 (at_:Nat),.int .i64 ((0:Nat):Int),.int .i64 0,.string (aa []),.slice ga ks.len cap]
 kv:aQ w V.heap.size ks ga cap bl vs
 sz:V.heap.size≤w.heap.size
 nb:nb < V.heap.size
 len:ks.len=i
 rep:rep f k st1=(rep f (k - i) st2).map fun q=>(ks.app q.1,q.2)
 at_:st1.at_≤st2.at_
 few:st1.n+i≤st2.n
theorem qT.drew{w0 V w:World}{b nb:Nat}{F:Value}{s nm:Wd}{at_:Nat}{f:St→Option (Nd×St)}{k i:Nat}{st1 st2:St}{ks:Nds}{ga:Option Addr}{cap:Nat}{bl:List Nat}{vs:List Value}(h:qT w0 V w b nb F s nm at_ f k i st1 ks ga cap bl vs st2):qT w0 V w.drew b nb F s nm at_ f k i st1 ks ga cap bl vs st2:=
 ⟨h.bx.drewN 1,h.kv.al (fun _ _ _=>rfl),h.sz,h.nb,h.len,h.rep,h.at_,h.few⟩
theorem qT.push{w0 V w w4 w5:World}{b nb:Nat}{F:Value}{s nm:Wd}{at_:Nat}{f:St→Option (Nd×St)}{k i:Nat}{st1 st2 st3:St}{ks:Nds}{ga ga':Option Addr}{cap cap':Nat}{bl b1:List Nat}{vs cs:List Value}{d:Nd}
  (h:qT w0 V w b nb F s nm at_ f k i st1 ks ga cap bl vs st2)(hi:i < k)(hf:f st2=some (d,st3))(hb:But w w4 b none)(hl:LR w4 b F s st3)(hd:NdV w4 w.heap.size b1 d (.agg cs.toArray))(hnd:b1.Nodup)(hat:st2.at_≤st3.at_)(hn:st2.n < st3.n)
  (ho:an w5 V.heap.size 28 7 ga' (i+1) cap' (vs++cs))(hg:w4.grownBy w5 (blk ga))(hloc:∀x,ga'=some x→ga=some x∨w4.heap.size < x.block):
  qT w0 V (w5.setCell ⟨nb,6,none⟩ (.slice ga' (i+1) cap')) b nb F s nm at_ f k (i+1) st1 (ks.app (d.put .nil)) ga' cap' (bl++b1) (vs++cs) st3:=by
 have hlen:=h.len;have hnb:=h.nb;have hsz:=h.sz;have hbs:=hb.size;have hgs:=hg.size;have hblt:=h.bx.blt;have hlt:=h.bx.lt;have hbw:=h.bx.but.size;have hga:∀x,ga=some x→nb < x.block:=fun x hx=>by have:=h.kv.mem x.block (by rw[hx];simp[aU]);omega
 have hbx:=((h.bx.move hb hl).grow hg hga).set 6 (by simp) (.slice ga' (i+1) cap');simp only[Z2,Z3]at hbx;have hkv:=h.kv.push (w2:=w5) (fun g h1 h2=>hb.block g h2 (by omega) (fun e=>by cases e)) hd hnd hsz hbs (by rw[hlen];exact ho) hg hloc;have hl2:(ks.app (d.put .nil)).len=i+1:=by rw[Nds.cX,hlen];rfl
 refine⟨by rw[hl2];exact hbx,hkv.al (fun g h1 _=>Below.heap_setCell _ _ _ _ (show g≠nb by omega)),by rw[World.size_setCell];omega,hnb,hl2,?_,by have:=h.at_;omega,by have:=h.few;omega⟩;rw[h.rep,show k - i=(k - (i+1))+1 by omega,Dr hf];cases Ly.rep f (k - (i+1)) st3 with
 |none=>rfl
 |some q=>show some (ks.app (d.put q.1),q.2)=some ((ks.app (d.put .nil)).app q.1,q.2);rw[zQ]
theorem ib{w0 V w:World}{b nb:Nat}{F:Value}{s nm:Wd}{at_:Nat}{f:St→Option (Nd×St)}{k i:Nat}{st1 st2:St}{ks:Nds}{ga:Option Addr}{cap:Nat}{bl:List Nat}{vs:List Value}(h:qT w0 V w b nb F s nm at_ f k i st1 ks ga cap bl vs st2):wrap64 ((i:Int)+1)=((i+1:Nat):Int):=by
 have h1:=h.few;have h2:=h.bx.lr.few;exact(IntWalk.wrap64_in _ ⟨by omega,by omega⟩).trans (by omega)
theorem lN{n:Nat}(h:n≤400):n+1≤maxLen∧(n+1) * 88≤140737488355328:=by
 refine⟨?_,by omega⟩;show n+1≤9223372036854775807;omega
end Ly
theorem eD:(Tryz.prog.info? 28).map (fun i=>(i.zero,i.size,i.bytes))=some (some (.agg #[.string ByteArray.empty,.int .i64 0,.int .i64 0,.int .i64 0,.int .i64 0,.string ByteArray.empty,.slice none 0 0]),7,88):=by kernel_rfl
theorem Ds(b m n rb cb:Nat)(F:Value)(s:Tm.Wd)(g o:Nat)(st:St)(S:Sub)(N:Ex.Names)(h:Tm.Hd)(c:Ex.X)(U w:World)(hL:LR w b F s st)(hg:g≠b)(hs:s.length≤1000000)(hc:h.cnt=some c)
  (hf:Ex.kc Num.numOf Num.dec c)(hU:Below U.heap.size U w)(hbU:U.heap.size≤b)(hx:IsX U rb cb c)(hN:NmM w m n N)(hm:m≠b)
  (hr:ad w g o 70 (Tm.ag h (.pointer (some ⟨cb,0,none⟩))))
  (hone:∀w' st',But w w' b none→LR w' b F s st'→Calls Tryz.prog 30 #[.pointer (some ⟨b,0,none⟩),.pointer (some ⟨g,o,none⟩),.map (some m)] w' (fS w' b none F s st' (bI S s N h st'))):
  Calls Tryz.prog 95 #[.pointer (some ⟨b,0,none⟩),.pointer (some ⟨g,o,none⟩),.map (some m)] w (fS w b none F s st (hH S s N h st)):=by
 have HONE:=hid hone;clear hone;have hglt:=hr.lt;have hblt:=hL.row.lt;obtain⟨W0,hW0⟩:∃W0,W0=w.alloc (.cells cJ.toArray 28):=⟨_,rfl⟩;have hr0:ad W0 g o 70 (Tm.ag h (.pointer (some ⟨cb,0,none⟩))):=by rw[hW0];exact hr.alloc _
 have hL0:LR W0 b F s st:=by rw[hW0];exact hL.al (Below.heap_alloc _ _ _ hblt)
 have c2:=hr0.cell 2 (by simp[Tm.aj]);have hnd:=ji b F s (h.name) 9 g o st W0 hL0 hg c2;have HND:=hid (show Calls Tryz.prog 60 #[.pointer (some ⟨b,0,none⟩),.pointer (some ⟨g,o,none⟩),.int .i64 9] W0 (fr W0 b F s (h.name) 9 st)from hnd);have HR0:=hid hr0;have HL:=hid hL;have HW0:=hid hW0;clear hnd c2 hr0 hL0 hr hL hW0;go_enter Tryz.func95,Tryz.ntmps95;go_wp2_with fail;rw[← HW0.out];refine HND.out.mono ?_;intro e w1 hno;unfold fr at hno;cases hn:nod st with
 |none=>
  rw[hn]at hno;obtain⟨hb1,t,v,he⟩:=hno;unfold bA at he;subst he;have HB1:=hid hb1;have ho:hH S s N h st=none:=by unfold hH;rw[hn];rfl
  rw[ho];clear hb1 ho hn;go_wp2_with fail;exact⟨rfl,lJ HW0.out HB1.out hblt,t,v,rfl⟩
 |some st1=>
  rw[hn]at hno;obtain⟨hb1,he,hL1⟩:=hno;have he2:e= .returned (.agg #[.string (aa (h.name)),.int .i64 9,.int .i64 (st.at_:Nat),.int .i64 0,.int .i64 0,.string {data:= #[]},.slice none 0 0]):=he;subst he2;have hat:st1.at_=st.at_:=kO hn;have hbs:=BxS.start (m:=none) (nm:=h.name) (kd:=9) HL.out HW0.out hb1 hL1 (fun x e=>by cases e);have hbx:ad (w1.alloc (.cells #[.string {data:= #[]},.int .i64 0,.int .i64 0,.int .i64 0,.int .i64 0,.string {data:= #[]},.slice none 0 0] 28)) w1.heap.size 0 28 [.string {data:= #[]},.int .i64 0,.int .i64 0,.int .i64 0,.int .i64 0,.string {data:= #[]},.slice none 0 0]:=ad.new w1 28 #[.string {data:= #[]},.int .i64 0,.int .i64 0,.int .i64 0,.int .i64 0,.string {data:= #[]},.slice none 0 0];have y0:=hbx.cell0 0 (by simp);have z0:=hbx.frozen0 0 (by simp);have y1:=hbx.cell0 1 (by simp);have z1:=hbx.frozen0 1 (by simp);have y2:=hbx.cell0 2 (by simp);have z2:=hbx.frozen0 2 (by simp);have y3:=hbx.cell0 3 (by simp);have z3:=hbx.frozen0 3 (by simp);have y4:=hbx.cell0 4 (by simp);have z4:=hbx.frozen0 4 (by simp);have y5:=hbx.cell0 5 (by simp);have z5:=hbx.frozen0 5 (by simp);have y6:=hbx.cell0 6 (by simp);have z6:=hbx.frozen0 6 (by simp);simp only[Z0,Z1]at y0 y1 y2 y3 y4 y5 y6;have hg0:g < W0.heap.size:=HR0.out.lt;have hr1:ad w1 g o 70 (Tm.ag h (.pointer (some ⟨cb,0,none⟩))):=HR0.out.of_heap (hb1.block g hg0 hg (fun e=>by cases e));obtain⟨V,hV⟩:∃V,V=w1.alloc (.cells #[.string (aa (h.name)),.int .i64 9,.int .i64 (st.at_:Nat),.int .i64 0,.int .i64 0,.string {data:= #[]},.slice none 0 0] 28):=⟨_,rfl⟩;have hr2:ad V g o 70 (Tm.ag h (.pointer (some ⟨cb,0,none⟩))):=by rw[hV];exact hr1.alloc _
  have hbs2:BxS w V b w1.heap.size none F s st1 (ae (h.name) 9 st.at_ 0 0 [] (.slice none 0 0)):=by rw[hV];exact hbs
  have hgn:g≠w1.heap.size:=by have:=hr1.lt;omega
  have HR2:=hid hr2;have HBS:=hid hbs2;have HV:=hid hV;have k8:=hr2.cell 8 (by simp[Tm.aj]);simp only[Tm.ag,Z0,Z1,Y2]at k8;have hUV:Below U.heap.size U V:=But.below hU hbs2.but hU.size hbU (fun x e=>by cases e);have hNV:NmM V m n N:=hN.al (hbs2.but.block m hN.lt hm (fun e=>by cases e));obtain⟨kn,hNA⟩:=hNV.at_;have HNUM:=hid (kQ V rb cb kn c _ N hNA (xX hx hUV) hf);have HRG:=hid (fun v=>Ex.uD hNA.rng c hf v);rw[hV]at k8;clear hb1 hL1 he hbx hr1 hr2 hbs hbs2 hV hNA hNV hUV;go_wp2_with fail;rw[← HV.out];refine HNUM.out.mono ?_;unfold pA;rintro e w2 ⟨hb2,hv⟩;clear y0 y1 y2 y3 y4 y5 y6 z0 z1 z2 z3 z4 z5 z6 k8;have hs2:=HBS.out.up hb2;have HS2:=hid hs2;cases hev:Ex.ev N c with
  |none=>
   rw[hev]at hv;obtain⟨t,v,he⟩:=hv;unfold bA at he;subst he;have ho:hH S s N h st=none:=by unfold hH;rw[hn,hc];simp only[Option.bind_some,hev];rfl
   rw[ho];clear hb2 hs2 ho hn hev;go_wp2_with fail;exact⟨rfl,HS2.out.but,t,v,rfl⟩
  |some v=>
   rw[hev]at hv;have hv2:e= .returned (.int .i64 v):=hv;subst hv2;obtain⟨g1,g2⟩:=HRG.out v hev
   by_cases hneg:v < 0
   ·have d0:decide (v < 0)=true:=Z9 hneg;have ho:hH S s N h st=none:=by unfold hH;rw[hn,hc];simp only[Option.bind_some,hev,if_pos hneg]
    have HO:=hid ho;have HF:=hid (show Calls Tryz.prog 31 #[.pointer (some ⟨b,0,none⟩),.int .i64 3] w2 fun e w'=>od e∧Below w2.heap.size w2 w' from jO b 3 F s st1 w2 hs2.lr);clear hb2 hs2 ho hn hev hneg g1 g2 hv;go_wp2_with fail;refine HF.out.mono ?_;rintro e w3 ⟨⟨t,v',he⟩,hb⟩;unfold bA at he;subst he;have HB:=hid hb;clear hb;go_wp2_with fail;refine⟨rfl,HS2.out.but.trans (But.az HB.out),?_⟩;rw[HO.out];exact⟨t,v',rfl⟩
   ·obtain⟨K,rfl⟩:∃K:Nat,v=(K:Int):=⟨v.toNat,by omega⟩;have d0:decide ((K:Int) < 0)=false:=Y9 hneg;have ho:hH S s N h st=(rep (bI S s N h) K st1).map fun p=>(⟨h.name,9,st.at_,p.2.at_ - st.at_,0,[],p.1⟩,p.2):=by
     unfold hH;rw[hn,hc];simp only[Option.bind_some,hev,if_neg hneg];rfl
    have HO:=hid ho;have h0:qT w w2 w2 b w1.heap.size F s h.name st.at_ (bI S s N h) K 0 st1 .nil none 0 [] [] st1:=
     ⟨hs2,aQ.nil _ _,Z5 _,hs2.row.lt,rfl,by
      cases hq:rep (bI S s N h) K st1 with
      |none=>simp[hq]
      |some q=>simp[hq];rfl,Z5 _,by omega⟩
    have H0:=hid h0;have HKN:=hid (show(K:Int)≤9223372036854775807 from g2);have HN1:=hid (nN hn);clear h0 hs2 hb2 ho hn hev hneg g1 g2 hv;go_wp2_with fail;go_loopw [23] (fun v23 wr=>∃(i:Nat) (ks:Nds) (ga:Option Addr) (cap:Nat) (bl:List Nat) (vs:List Value) (st2:St),v23= .int .i64 (i:Nat)∧i≤K∧Hid (qT w w2 wr b w1.heap.size F s h.name st.at_ (bI S s N h) K i st1 ks ga cap bl vs st2)) (fun v23 _=>K - (intOf v23).toNat)
    case atStart=>exact⟨0,.nil,none,0,[],[],st1,rfl,Nat.zero_le _,H0⟩
    case round=>
     obtain⟨i,ks,ga,cap,bl,vs,st2,rfl,hiK,HM⟩:=hrel;clear H0;have hKb:=HKN.out
     by_cases hi:i < K
     ·have d1:decide ((i:Int) < (K:Int))=true:=Z9 (by omega);have d1n:decide (i < K)=true:=Z9 hi;have HI:=hid hi;clear hi hiK hKb;go_wp2_with fail;obtain⟨D,hD⟩:∃D,D=wr.drew:=⟨_,rfl⟩;have hm1:qT w w2 D b w1.heap.size F s h.name st.at_ (bI S s N h) K i st1 ks ga cap bl vs st2:=by rw[hD];exact HM.out.drew
      have c6:=(hm1.bx.cell 6 (by simp)).1;simp only[Z0,Z1]at c6;rw[hm1.len]at c6;have HMD:=hid hm1;have HC:=hid (HONE.out D st2 hm1.bx.but hm1.bx.lr);refine wp_region_any (by kernel_rfl) ?_
      try(change wpAny _ _ _ _ _ _ _ (World.drew _))
      rw[← hD];clear hD hm1;refine wpAny_take (i:=0) (v:= ?_) rfl (by kernel_rfl) (by kernel_rfl) (by kernel_rfl) (fun _ _ _ h=>h) (Or.inl ⟨by kernel_rfl,?_⟩) ?_
      rotate_left
      ·(intro w;go_simp) <;> with_reducible rfl
      try dsimp only[Act.put]
      try simp only[Act.put,Z4,Z2,Z3]
      refine wpAny_take (i:=2) (v:= ?_) rfl (by kernel_rfl) (by kernel_rfl) (by kernel_rfl) (fun _ _ _ h=>h) (Or.inl ⟨by kernel_rfl,?_⟩) ?_
      rotate_left
      ·(intro w;go_simp) <;> with_reducible rfl
      try dsimp only[Act.put]
      try simp only[Act.put,Z4,Z2,Z3]
      refine wpAny_take (i:=3) (v:= ?_) rfl (by kernel_rfl) (by kernel_rfl) (by kernel_rfl) (fun _ _ _ h=>h) (Or.inl ⟨by kernel_rfl,?_⟩) ?_
      rotate_left
      ·(intro w;go_simp) <;> with_reducible rfl
      try dsimp only[Act.put]
      try simp only[Act.put,Z4,Z2,Z3]
      refine wpAny_take (i:=4) (v:= ?_) rfl (by kernel_rfl) (by kernel_rfl) (by kernel_rfl) (fun _ _ _ h=>h) (Or.inl ⟨by kernel_rfl,?_⟩) ?_
      rotate_left
      ·(intro w;go_simp) <;> with_reducible rfl
      try dsimp only[Act.put]
      try simp only[Act.put,Z4,Z2,Z3]
      refine wpAny_ready (rs:=[1,5]) (by kernel_rfl) (by simp) ?_;refine AllReady.cons rfl (fun K2 hK=> ?_) (AllReady.cons rfl (fun K2 hK=> ?_) AllReady.nil)
      ·go_simp;refine hK _ _ ?_;clear hK K2
       try simp only[Act.put,Z4,Z2,Z3]
       refine wpAny_ready (rs:=[5]) (by kernel_rfl) (by simp) ?_;refine AllReady.cons rfl (fun K2 hK=> ?_) AllReady.nil;go_simp;refine HC.out.mono ?_;unfold fS;rintro e w4 ⟨hb4,hv⟩;cases hoh:bI S s N h st2 with
       |none=>
        rw[hoh]at hv;obtain⟨t,v,he⟩:=hv;unfold bA at he;subst he;have ho:hH S s N h st=none:=by
         rw[HO.out,HMD.out.rep,show K - i=(K - (i+1))+1 by have:=HI.out;omega,zP hoh];rfl
        have HO2:=hid ho;have HB4:=hid hb4;clear hb4 ho hoh;go_wp2_with fail;refine⟨rfl,HMD.out.bx.but.trans HB4.out,?_⟩;rw[HO2.out];exact⟨t,v,rfl⟩
       |some p=>
        obtain⟨d,st3⟩:=p;rw[hoh]at hv;obtain⟨⟨v,b1,rfl,hd,hnd⟩,hl4,hat4,hn4⟩:=hv;obtain⟨g4,c4,rfl⟩:=hd.cells;have hat5:st2.at_≤st3.at_:=hat4;have hn5:st2.n < st3.n:=hn4;have hnb:=HMD.out.nb;have hsz:=HMD.out.sz;have hsz4:=hb4.size;have hblt:=HMD.out.bx.blt;have hlt:=HMD.out.bx.lt;have hown4:an w4 w2.heap.size 28 7 ga i cap vs:=by
         have:=HMD.out.kv.own;rw[HMD.out.len]at this;exact this.al fun x hx=>hb4.block _ (this.gI x hx) (by have h9:=HMD.out.kv.mem x.block (by rw[hx];simp[aU]);omega) (fun e=>by cases e)
        have c6b:w4.cell? ⟨w1.heap.size,6,none⟩=some (.slice ga i cap):=(World.cell?_of_block (hb4.block w1.heap.size HMD.out.bx.row.lt (by omega) (fun e=>by cases e))).trans c6;have HB4:=hid hb4;have HD4:=hid hd;have HND:=hid hnd;have HL4:=hid hl4;have HAT:=hid hat5;have HNN:=hid hn5;have HOH:=hid hoh;have HO4:=hid hown4;have HSZ4:=hid (show w2.heap.size≤w4.heap.size by omega);have HB6:=hid c6b;have HNBB:=hid (show w1.heap.size < w4.heap.size by omega);clear hb4 hd hnd hl4 hat4 hn4 hat5 hn5 hoh hnb hsz hsz4 hblt hlt hown4;go_simp;refine hK _ _ ?_;clear hK K2
        try simp only[Act.put,Z4,Z2,Z3]
        refine wpAny_ready (rs:=[6]) (by kernel_rfl) (by simp) ?_;refine AllReady.cons rfl (fun K2 hK=> ?_) AllReady.nil;go_simp;have c6c:(w4.alloc (.cells ([.string (aa d.name),.int .i64 (d.kind:Nat),.int .i64 (d.at_:Nat),.int .i64 (d.size:Nat),.int .i64 d.val,.string (aa d.text),.slice g4 d.kids.len c4]).toArray 28)).cell? ⟨w1.heap.size,6,none⟩=some (.slice ga i cap):=(World.cell?_of_block (Below.heap_alloc _ _ _ HNBB.out)).trans HB6.out;refine hK _ _ ?_;clear hK K2
        try simp only[Act.put,Z4,Z2,Z3]
        refine wpAny_ready (rs:=[7]) (by kernel_rfl) (by simp) ?_;refine AllReady.cons rfl (fun K2 hK=> ?_) AllReady.nil;obtain⟨hs1,hs2⟩:=lN (show i≤400 by have h1:=HMD.out.few;have h2:=HMD.out.bx.lr.few;omega);refine iI _ (by rfl) _ _ 26 (by rfl) w2.heap.size 28 (.agg #[.string ByteArray.empty,.int .i64 0,.int .i64 0,.int .i64 0,.int .i64 0,.string ByteArray.empty,.slice none 0 0]) 7 88 Tryz.underlying26 eD rfl (by decide) ga i cap vs (by rfl) (HO4.out.alloc _) w4.heap.size 1 1 (by decide) ([.string (aa d.name),.int .i64 (d.kind:Nat),.int .i64 (d.at_:Nat),.int .i64 (d.size:Nat),.int .i64 d.val,.string (aa d.text),.slice g4 d.kids.len c4]) rfl (by intro u hu;simp only[List.mem_cons,List.not_mem_nil,or_false]at hu;rcases hu with rfl|rfl|rfl|rfl|rfl|rfl|rfl <;> rfl) (by rfl) (ad.new w4 _ _) hs1 hs2 (by have:=HSZ4.out;simp;omega) ?_;intro ga' cap' w5 ho5 hg5 hl5 hex5;have hg45:w4.grownBy w5 (blk ga):=(World.grownBy_alloc w4 _ _).trans hg5;have hl55:∀x,ga'=some x→ga=some x∨w4.heap.size < x.block:=fun x hx=>(hl5 x hx).imp id (fun h=>by simp at h;omega)
        have hp:=HMD.out.push HI.out HOH.out HB4.out HL4.out HD4.out HND.out HAT.out HNN.out ho5 hg45 hl55;have HP:=hid hp;have hbx5:=((HMD.out.bx.move HB4.out HL4.out).grow hg45 (fun x hx=>by have h9:=HMD.out.kv.mem x.block (by rw[hx];simp[aU]);have h8:=HMD.out.nb;omega));have c65:=(hbx5.cell 6 (by simp)).1;have e65:=(hbx5.cell 6 (by simp)).2;simp only[Z0,Z1]at c65;clear ho5 hg5 hl5 hg45 hl55 hp hbx5 hs1 hs2;refine hK _ _ ?_;clear hK K2
        try simp only[Act.put,Z4,Z2,Z3]
        refine wpAny_take (i:=8) (v:= ?_) rfl (by kernel_rfl) (by kernel_rfl) (by kernel_rfl) (fun _ _ _ h=>h) (Or.inl ⟨by kernel_rfl,?_⟩) ?_
        rotate_left
        ·(intro w;go_simp) <;> with_reducible rfl
        try dsimp only[Act.put]
        try simp only[Act.put,Z4,Z2,Z3]
        refine wpAny_ready (rs:=[9]) (by kernel_rfl) (by simp) ?_;refine AllReady.cons rfl (fun K2 hK=> ?_) AllReady.nil;go_simp;refine hK _ _ ?_;clear hK K2
        try simp only[Act.put,Z4,Z2,Z3]
        refine wpAny_done (by kernel_rfl) ?_ _;go_wp2_with fail;go_roundw
        case rel=>exact⟨i+1,_,ga',cap',_,_,st3,by rw[ib HMD.out],by have:=HI.out;omega,HP⟩
        case measure=>rw[ib HMD.out];simp only[intOf];have:=HI.out;omega
      ·go_simp;refine HC.out.mono ?_;unfold fS;rintro e w4 ⟨hb4,hv⟩;cases hoh:bI S s N h st2 with
       |none=>
        rw[hoh]at hv;obtain⟨t,v,he⟩:=hv;unfold bA at he;subst he;have ho:hH S s N h st=none:=by
         rw[HO.out,HMD.out.rep,show K - i=(K - (i+1))+1 by have:=HI.out;omega,zP hoh];rfl
        have HO2:=hid ho;have HB4:=hid hb4;clear hb4 ho hoh;go_wp2_with fail;refine⟨rfl,HMD.out.bx.but.trans HB4.out,?_⟩;rw[HO2.out];exact⟨t,v,rfl⟩
       |some p=>
        obtain⟨d,st3⟩:=p;rw[hoh]at hv;obtain⟨⟨v,b1,rfl,hd,hnd⟩,hl4,hat4,hn4⟩:=hv;obtain⟨g4,c4,rfl⟩:=hd.cells;have hat5:st2.at_≤st3.at_:=hat4;have hn5:st2.n < st3.n:=hn4;have hnb:=HMD.out.nb;have hsz:=HMD.out.sz;have hsz4:=hb4.size;have hblt:=HMD.out.bx.blt;have hlt:=HMD.out.bx.lt;have hown4:an w4 w2.heap.size 28 7 ga i cap vs:=by
         have:=HMD.out.kv.own;rw[HMD.out.len]at this;exact this.al fun x hx=>hb4.block _ (this.gI x hx) (by have h9:=HMD.out.kv.mem x.block (by rw[hx];simp[aU]);omega) (fun e=>by cases e)
        have c6b:w4.cell? ⟨w1.heap.size,6,none⟩=some (.slice ga i cap):=(World.cell?_of_block (hb4.block w1.heap.size HMD.out.bx.row.lt (by omega) (fun e=>by cases e))).trans c6;have HB4:=hid hb4;have HD4:=hid hd;have HND:=hid hnd;have HL4:=hid hl4;have HAT:=hid hat5;have HNN:=hid hn5;have HOH:=hid hoh;have HO4:=hid hown4;have HSZ4:=hid (show w2.heap.size≤w4.heap.size by omega);have HB6:=hid c6b;have HNBB:=hid (show w1.heap.size < w4.heap.size by omega);clear hb4 hd hnd hl4 hat4 hn4 hat5 hn5 hoh hnb hsz hsz4 hblt hlt hown4;go_simp;refine hK _ _ ?_;clear hK K2
        try simp only[Act.put,Z4,Z2,Z3]
        refine wpAny_ready (rs:=[1,6]) (by kernel_rfl) (by simp) ?_;refine AllReady.cons rfl (fun K2 hK=> ?_) (AllReady.cons rfl (fun K2 hK=> ?_) AllReady.nil)
        ·go_simp;refine hK _ _ ?_;clear hK K2
         try simp only[Act.put,Z4,Z2,Z3]
         refine wpAny_ready (rs:=[6]) (by kernel_rfl) (by simp) ?_;refine AllReady.cons rfl (fun K2 hK=> ?_) AllReady.nil;go_simp;have c6c:(w4.alloc (.cells ([.string (aa d.name),.int .i64 (d.kind:Nat),.int .i64 (d.at_:Nat),.int .i64 (d.size:Nat),.int .i64 d.val,.string (aa d.text),.slice g4 d.kids.len c4]).toArray 28)).cell? ⟨w1.heap.size,6,none⟩=some (.slice ga i cap):=(World.cell?_of_block (Below.heap_alloc _ _ _ HNBB.out)).trans HB6.out;refine hK _ _ ?_;clear hK K2
         try simp only[Act.put,Z4,Z2,Z3]
         refine wpAny_ready (rs:=[7]) (by kernel_rfl) (by simp) ?_;refine AllReady.cons rfl (fun K2 hK=> ?_) AllReady.nil;obtain⟨hs1,hs2⟩:=lN (show i≤400 by have h1:=HMD.out.few;have h2:=HMD.out.bx.lr.few;omega);refine iI _ (by rfl) _ _ 26 (by rfl) w2.heap.size 28 (.agg #[.string ByteArray.empty,.int .i64 0,.int .i64 0,.int .i64 0,.int .i64 0,.string ByteArray.empty,.slice none 0 0]) 7 88 Tryz.underlying26 eD rfl (by decide) ga i cap vs (by rfl) (HO4.out.alloc _) w4.heap.size 1 1 (by decide) ([.string (aa d.name),.int .i64 (d.kind:Nat),.int .i64 (d.at_:Nat),.int .i64 (d.size:Nat),.int .i64 d.val,.string (aa d.text),.slice g4 d.kids.len c4]) rfl (by intro u hu;simp only[List.mem_cons,List.not_mem_nil,or_false]at hu;rcases hu with rfl|rfl|rfl|rfl|rfl|rfl|rfl <;> rfl) (by rfl) (ad.new w4 _ _) hs1 hs2 (by have:=HSZ4.out;simp;omega) ?_;intro ga' cap' w5 ho5 hg5 hl5 hex5;have hg45:w4.grownBy w5 (blk ga):=(World.grownBy_alloc w4 _ _).trans hg5;have hl55:∀x,ga'=some x→ga=some x∨w4.heap.size < x.block:=fun x hx=>(hl5 x hx).imp id (fun h=>by simp at h;omega)
         have hp:=HMD.out.push HI.out HOH.out HB4.out HL4.out HD4.out HND.out HAT.out HNN.out ho5 hg45 hl55;have HP:=hid hp;have hbx5:=((HMD.out.bx.move HB4.out HL4.out).grow hg45 (fun x hx=>by have h9:=HMD.out.kv.mem x.block (by rw[hx];simp[aU]);have h8:=HMD.out.nb;omega));have c65:=(hbx5.cell 6 (by simp)).1;have e65:=(hbx5.cell 6 (by simp)).2;simp only[Z0,Z1]at c65;clear ho5 hg5 hl5 hg45 hl55 hp hbx5 hs1 hs2;refine hK _ _ ?_;clear hK K2
         try simp only[Act.put,Z4,Z2,Z3]
         refine wpAny_take (i:=8) (v:= ?_) rfl (by kernel_rfl) (by kernel_rfl) (by kernel_rfl) (fun _ _ _ h=>h) (Or.inl ⟨by kernel_rfl,?_⟩) ?_
         rotate_left
         ·(intro w;go_simp) <;> with_reducible rfl
         try dsimp only[Act.put]
         try simp only[Act.put,Z4,Z2,Z3]
         refine wpAny_ready (rs:=[9]) (by kernel_rfl) (by simp) ?_;refine AllReady.cons rfl (fun K2 hK=> ?_) AllReady.nil;go_simp;refine hK _ _ ?_;clear hK K2
         try simp only[Act.put,Z4,Z2,Z3]
         refine wpAny_done (by kernel_rfl) ?_ _;go_wp2_with fail;go_roundw
         case rel=>exact⟨i+1,_,ga',cap',_,_,st3,by rw[ib HMD.out],by have:=HI.out;omega,HP⟩
         case measure=>rw[ib HMD.out];simp only[intOf];have:=HI.out;omega
        ·go_simp;have c6c:(w4.alloc (.cells ([.string (aa d.name),.int .i64 (d.kind:Nat),.int .i64 (d.at_:Nat),.int .i64 (d.size:Nat),.int .i64 d.val,.string (aa d.text),.slice g4 d.kids.len c4]).toArray 28)).cell? ⟨w1.heap.size,6,none⟩=some (.slice ga i cap):=(World.cell?_of_block (Below.heap_alloc _ _ _ HNBB.out)).trans HB6.out;refine hK _ _ ?_;clear hK K2
         try simp only[Act.put,Z4,Z2,Z3]
         refine wpAny_ready (rs:=[1]) (by kernel_rfl) (by simp) ?_;refine AllReady.cons rfl (fun K2 hK=> ?_) AllReady.nil;go_simp;refine hK _ _ ?_;clear hK K2
         try simp only[Act.put,Z4,Z2,Z3]
         refine wpAny_ready (rs:=[7]) (by kernel_rfl) (by simp) ?_;refine AllReady.cons rfl (fun K2 hK=> ?_) AllReady.nil;obtain⟨hs1,hs2⟩:=lN (show i≤400 by have h1:=HMD.out.few;have h2:=HMD.out.bx.lr.few;omega);refine iI _ (by rfl) _ _ 26 (by rfl) w2.heap.size 28 (.agg #[.string ByteArray.empty,.int .i64 0,.int .i64 0,.int .i64 0,.int .i64 0,.string ByteArray.empty,.slice none 0 0]) 7 88 Tryz.underlying26 eD rfl (by decide) ga i cap vs (by rfl) (HO4.out.alloc _) w4.heap.size 1 1 (by decide) ([.string (aa d.name),.int .i64 (d.kind:Nat),.int .i64 (d.at_:Nat),.int .i64 (d.size:Nat),.int .i64 d.val,.string (aa d.text),.slice g4 d.kids.len c4]) rfl (by intro u hu;simp only[List.mem_cons,List.not_mem_nil,or_false]at hu;rcases hu with rfl|rfl|rfl|rfl|rfl|rfl|rfl <;> rfl) (by rfl) (ad.new w4 _ _) hs1 hs2 (by have:=HSZ4.out;simp;omega) ?_;intro ga' cap' w5 ho5 hg5 hl5 hex5;have hg45:w4.grownBy w5 (blk ga):=(World.grownBy_alloc w4 _ _).trans hg5;have hl55:∀x,ga'=some x→ga=some x∨w4.heap.size < x.block:=fun x hx=>(hl5 x hx).imp id (fun h=>by simp at h;omega)
         have hp:=HMD.out.push HI.out HOH.out HB4.out HL4.out HD4.out HND.out HAT.out HNN.out ho5 hg45 hl55;have HP:=hid hp;have hbx5:=((HMD.out.bx.move HB4.out HL4.out).grow hg45 (fun x hx=>by have h9:=HMD.out.kv.mem x.block (by rw[hx];simp[aU]);have h8:=HMD.out.nb;omega));have c65:=(hbx5.cell 6 (by simp)).1;have e65:=(hbx5.cell 6 (by simp)).2;simp only[Z0,Z1]at c65;clear ho5 hg5 hl5 hg45 hl55 hp hbx5 hs1 hs2;refine hK _ _ ?_;clear hK K2
         try simp only[Act.put,Z4,Z2,Z3]
         refine wpAny_take (i:=8) (v:= ?_) rfl (by kernel_rfl) (by kernel_rfl) (by kernel_rfl) (fun _ _ _ h=>h) (Or.inl ⟨by kernel_rfl,?_⟩) ?_
         rotate_left
         ·(intro w;go_simp) <;> with_reducible rfl
         try dsimp only[Act.put]
         try simp only[Act.put,Z4,Z2,Z3]
         refine wpAny_ready (rs:=[9]) (by kernel_rfl) (by simp) ?_;refine AllReady.cons rfl (fun K2 hK=> ?_) AllReady.nil;go_simp;refine hK _ _ ?_;clear hK K2
         try simp only[Act.put,Z4,Z2,Z3]
         refine wpAny_done (by kernel_rfl) ?_ _;go_wp2_with fail;go_roundw
         case rel=>exact⟨i+1,_,ga',cap',_,_,st3,by rw[ib HMD.out],by have:=HI.out;omega,HP⟩
         case measure=>rw[ib HMD.out];simp only[intOf];have:=HI.out;omega
     ·have d1:decide ((i:Int) < (K:Int))=false:=Y9 (by omega);have d1n:decide (i < K)=false:=Y9 hi;have hiK2:i=K:=by omega
      have HI:=hid hiK2;clear hi hiK hiK2 hKb;have hML:=HM.out.len;have HML:=hid hML;have ho2:hH S s N h st=some (⟨h.name,9,st.at_,st2.at_ - st.at_,0,[],ks⟩,st2):=by
       rw[HO.out,HM.out.rep,HI.out,Nat.sub_self];show some ((⟨h.name,9,st.at_,st2.at_ - st.at_,0,[],ks.app .nil⟩:Nd),st2)=_;rw[Nds.eT]
      have HO2:=hid ho2;have hatA:st.at_≤st2.at_:=by have:=HM.out.at_;omega
      have hatB:st2.at_≤s.length:=HM.out.bx.lr.len;have HNX:=hid (show st.n < st2.n by have h1:=HM.out.few;have h2:=HN1.out;omega);have HMX:=hid (show ∀k:Nat,w2.heap.size≤k→∀(W X:World),W=wr→(∀j:Nat,X.heap[j]? =W.heap[j]?)→∀(sz v0 v1 v2 v3 v4 v5 v6:Value),(st7 (X.setCell ⟨w1.heap.size,3,none⟩ sz) w.heap.size v0 v1 v2 v3 v4 v5 v6).heap[k]? =wr.heap[k]? from by
       intro k k1 W X hW hX sz v0 v1 v2 v3 v4 v5 v6;have hnb:=HM.out.nb;have hlt:=HM.out.bx.lt;rw[cY _ _ _ _ _ _ _ k (by omega),Below.heap_setCell X ⟨w1.heap.size,3,none⟩ sz k (show k≠w1.heap.size by omega),hX,hW])
      have HLW:=hid (show w.heap.size≤w2.heap.size by have hnb:=HM.out.nb;have hlt:=HM.out.bx.lt;omega);clear hML ho2 hat;go_wp2_with fail;obtain⟨W,hW⟩:∃W,W=wr:=⟨_,rfl⟩;have hs5:BxS w W b w1.heap.size none F s st2 [.string (aa (h.name)),.int .i64 ((9:Nat):Int),.int .i64 (st.at_:Nat),.int .i64 ((0:Nat):Int),.int .i64 (0),.string (aa ([])),.slice ga ks.len cap]:=by rw[hW];exact HM.out.bx
      rw[← hW];have q2:=(hs5.cell 2 (by simp)).1;have q3:=(hs5.cell 3 (by simp)).1;have u3:=(hs5.cell 3 (by simp)).2;have qr:=hs5.lr.row.cell0 2 (by simp);simp only[Z0,Z1]at q2 q3 qr;have hsz:(st2.at_:Int) - (st.at_:Int)=((st2.at_ - st.at_:Nat):Int):=by omega
      have wq:wrap64 ((st2.at_:Int) - (st.at_:Int))=(st2.at_:Int) - (st.at_:Int):=IntWalk.wrap64_in _ ⟨by omega,by omega⟩;have HSZ:=hid hsz;have HS5:=hid hs5;have HWW:=hid hW;clear hsz hs5 hW;go_still_tail 8,(by kernel_rfl);change wpList _ _ _ _ _ W.drew;obtain⟨X,hX⟩:∃X,X=W.drew:=⟨_,rfl⟩;rw[← hX];have hs6:=HS5.out.drewN 1;rw[show W.drewN 1=X from hX.symm]at hs6;have y3:=(hs6.cell 3 (by simp)).1;have u3:=(hs6.cell 3 (by simp)).2;simp only[Z0,Z1]at y3;have hsX:=hs6.set 3 (by simp) (.int .i64 ((st2.at_:Int) - (st.at_:Int)));simp only[Z2,Z3]at hsX;have HSX:=hid hsX;have HXW:=hid (show ∀k:Nat,X.heap[k]? =W.heap[k]? from fun k=>by rw[hX];rfl);clear hX hs6 q2 q3 qr;have r0:=(hsX.cell 0 (by simp)).1;have r1:=(hsX.cell 1 (by simp)).1;have r2:=(hsX.cell 2 (by simp)).1;have r3:=(hsX.cell 3 (by simp)).1;have r4:=(hsX.cell 4 (by simp)).1;have r5:=(hsX.cell 5 (by simp)).1;have r6:=(hsX.cell 6 (by simp)).1;simp only[Z0,Z1]at r0 r1 r2 r3 r4 r5 r6;have x0:=hsX.res.cell0 0 (by simp);have v0:=hsX.res.frozen0 0 (by simp);have x1:=hsX.res.cell0 1 (by simp);have v1:=hsX.res.frozen0 1 (by simp);have x2:=hsX.res.cell0 2 (by simp);have v2:=hsX.res.frozen0 2 (by simp);have x3:=hsX.res.cell0 3 (by simp);have v3:=hsX.res.frozen0 3 (by simp);have x4:=hsX.res.cell0 4 (by simp);have v4:=hsX.res.frozen0 4 (by simp);have x5:=hsX.res.cell0 5 (by simp);have v5:=hsX.res.frozen0 5 (by simp);have x6:=hsX.res.cell0 6 (by simp);have v6:=hsX.res.frozen0 6 (by simp);simp only[Z0,Z1]at x0 x1 x2 x3 x4 x5 x6;clear hsX;go_wp2_with fail;clear r0 r1 r2 r3 r4 r5 r6;have p0:=HSX.out.res.aw 0 (by simp) (.string (aa (h.name)));have r0:=p0.cell0 0 (by simp);have p1:=p0.aw 1 (by simp) (.int .i64 9);have r1:=p1.cell0 1 (by simp);have p2:=p1.aw 2 (by simp) (.int .i64 (st.at_:Nat));have r2:=p2.cell0 2 (by simp);have p3:=p2.aw 3 (by simp) (.int .i64 ((st2.at_:Int) - (st.at_:Int)));have r3:=p3.cell0 3 (by simp);have p4:=p3.aw 4 (by simp) (.int .i64 (0));have r4:=p4.cell0 4 (by simp);have p5:=p4.aw 5 (by simp) (.string (aa ([])));have r5:=p5.cell0 5 (by simp);have p6:=p5.aw 6 (by simp) (.slice ga ks.len cap);have r6:=p6.cell0 6 (by simp);simp only[Z2,Z3,Z0,Z1]at r0 r1 r2 r3 r4 r5 r6;have hfin:=HSX.out.result (.string (aa (h.name))) (.int .i64 9) (.int .i64 (st.at_:Nat)) (.int .i64 ((st2.at_:Int) - (st.at_:Int))) (.int .i64 (0)) (.string (aa ([]))) (.slice ga ks.len cap);clear p0 p1 p2 p3 p4 p5 p6;refine bodyPost_ret (v:= .agg #[.string (aa (h.name)),.int .i64 9,.int .i64 (st.at_:Nat),.int .i64 ((st2.at_:Int) - (st.at_:Int)),.int .i64 (0),.string (aa ([])),.slice ga ks.len cap]) (by simp[results,Tryz.results95,go_sem,r0,r1,r2,r3,r4,r5,r6];first|done|rfl) rfl ?_;refine⟨hfin.1,?_⟩;rw[HO2.out];refine⟨⟨_,_,rfl,?_,HM.out.kv.nodup⟩,hfin.2.1,hatA,HNX.out⟩;rw[HSZ.out];exact((HM.out.kv.al (fun k h1 h2=>HMX.out k h1 W X HWW.out HXW.out _ _ _ _ _ _ _ _)).low HLW.out).nd _ _ _ _ _ _
end
end Go.Proofs.YtlomecfhobehnaaGreatDoor
