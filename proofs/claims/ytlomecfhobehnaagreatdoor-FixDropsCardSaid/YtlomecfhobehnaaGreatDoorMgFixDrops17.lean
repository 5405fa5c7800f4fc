import Derived.Deep.RegionLaw
import Derived.Deep.DeepCutAuto
import Derived.Deep.CutBlock
import Derived.Test.YtlomecfhobehnaaGreatDoorMgFixDrops12
import Derived.Test.YtlomecfhobehnaaGreatDoorMgFixDrops16
set_option linter.all false
set_option maxRecDepth 100000
set_option maxHeartbeats 4000000
namespace Go.Proofs.YtlomecfhobehnaaGreatDoor
open Lib (hid)
section
open Go.RowKit
theorem ak.Kp{w:World}{B:Nat}{e:TypeId}{size:Nat}{a:Option Addr}{n cap:Nat}{xs:List Value}(h:ak w B e size a n cap xs)(m:Nat)(hm:m≤n):ak w B e size a m cap (xs.take (m * size)):=by
 have hl:=h.len;cases a with
 |none=>
  obtain⟨h1,h2,h3⟩:=h.aS;subst h1 h2 h3;obtain rfl:m=0:=by omega
  simpa using ak.nil w B e size
 |some x=>
  rcases h.2 with⟨h1,_⟩|⟨g,cp,cur,h1,h2,h3,h4,h5,h6,h7⟩
  ·cases h1
  ·cases h1;refine⟨by rw[List.length_take,hl];exact Nat.min_eq_left (Nat.mul_le_mul_right _ hm),.inr ⟨g,cap,cur,rfl,h2,h3,by omega,h5,h6,?_⟩⟩;rw[← h7,List.take_take,Nat.min_eq_left (Nat.mul_le_mul_right _ hm)]
def uF(w:World)(b:Option Addr)(m d:Nat)(size:Nat)(news:List Value):Prop:=
 news.length=m * size∧(∀u∈news,u.oneCell'=true)∧(b=none→m=0∧d=0)∧∀y,b=some y→∀j u,news[j]? =some u→w.cell? (y.add j)=some u
theorem jB{P:Program}(w:World){ops:Array Oper}{rest:List Oper}{o:Oper}{act:Act}{Q:Exit→Act→World→Prop}(hgd:o.guard=none)(s x:Operand)(t:TypeId)
  (ho:o.op= .call {callee:= .builtin .append,args:= #[s,x],argTypes:= #[t,t]})
  (B:Nat)(e:TypeId)(z:Value)(size bytes:Nat)(ht:P.underlying t=some (.slice e))(hinf:(P.info? e).map (fun i=>(i.zero,i.size,i.bytes))=some (some z,size,bytes))(hzs:z.cells.size=size)(hsz:0 < size)
  (a:Option Addr)(n cap:Nat)(xs:List Value)(hs:act.eval s= .slice a n cap)(hown:ak w B e size a n cap xs)
  (b:Option Addr)(m d:Nat)(news:List Value)(hx:act.eval x= .slice b m d)(hr:uF w b m d size news)
  (h63:n+m≤maxLen)(hbytes:(n+m) * bytes≤140737488355328)(hbase:B≤w.heap.size)
  (h:∀a' cap' w',ak w' B e size a' (n+m) cap' (xs++news)→w.grownBy w' (blk a)→Below B w w'→(∀x,a'=some x→a=some x∨w.heap.size≤x.block)→wpList P ops Q rest (act.put o.dst (.slice a' (n+m) cap')) w'):
  wpList P ops Q (o::rest) act w:=by
 obtain⟨i,hi,hz,hsize,hby⟩:=info_parts hinf;obtain⟨r1,r2,r3,r4⟩:=hr;cases b with
 |none=>
  obtain⟨q1,q2⟩:=r3 rfl;subst q1 q2;have hn:news=[]:=List.eq_nil_of_length_eq_zero (by simpa using r1);subst hn;refine wpList_append_own_none (w:=w) hgd s x t ho B e i size ht hi _ n xs hs hown hx ?_;have:=h a cap w (by rw[List.append_nil];exact hown) (World.grownBy.refl w _) (Y4 _ _) (fun x hx=> .inl hx);exact this
 |some y=>
  refine wpList_append_own_at w hgd s x t ho B e i z size bytes ht hi hz hsize hby hzs hsz (.slice a n cap) n xs hs hown y m d news hx r1 (r4 y rfl) r2 h63 hbytes hbase ?_;intro v' w' hown' hgrow hnil hloc;have hex:∃a' cap',v'= .slice a' (n+m) cap':=by
   rcases hown'.2 with⟨h1,h2⟩|⟨g,cap',cur,h2,_⟩
   ·exact⟨none,0,by rw[h1,h2]⟩
   ·exact⟨_,cap',h2⟩
  obtain⟨a',cap',hv⟩:=hex;rw[hv]at hown' hloc⊢;rw[bF]at hgrow;refine h a' cap' w' hown' hgrow ?_ ?_
  ·refine(Y4 B w).grown hgrow hbase ?_;intro k hk;cases ha:a with
   |none=>rw[ha]at hk;simp[blk]at hk
   |some z=>
    rw[ha]at hk;subst ha;have:=(ak.row hown).2.1;simp[blk]at hk;omega
  ·intro z hz;subst hz;rcases hloc with hloc|hloc
   ·left;rw[bF,bF]at hloc;cases ha:a with
    |none=>rw[ha]at hloc;simp[blk]at hloc
    |some y=>
     rw[ha]at hloc;subst ha;have hr:=ak.row hown;have hr':=ak.row hown';simp[blk]at hloc;rw[hr.1,hr'.1,hloc]
   ·right;rw[bF]at hloc;simp[blk]at hloc;omega
theorem mr{P:Program}(w:World){ops:Array Oper}{o:Oper}{act:Act}{K:Act→World→Prop}{Q:Exit→Act→World→Prop}{E:Prop}(hgd:o.guard=none)(s x:Operand)(t:TypeId)
  (ho:o.op= .call {callee:= .builtin .append,args:= #[s,x],argTypes:= #[t,t]})
  (B:Nat)(e:TypeId)(z:Value)(size bytes:Nat)(ht:P.underlying t=some (.slice e))(hinf:(P.info? e).map (fun i=>(i.zero,i.size,i.bytes))=some (some z,size,bytes))(hzs:z.cells.size=size)(hsz:0 < size)
  (a:Option Addr)(n cap:Nat)(xs:List Value)(hs:act.eval s= .slice a n cap)(hown:ak w B e size a n cap xs)
  (b:Option Addr)(m d:Nat)(news:List Value)(hx:act.eval x= .slice b m d)(hr:uF w b m d size news)
  (h63:n+m≤maxLen)(hbytes:(n+m) * bytes≤140737488355328)(hbase:B≤w.heap.size)
  (h:∀a' cap' w',ak w' B e size a' (n+m) cap' (xs++news)→w.grownBy w' (blk a)→(∀x,a'=some x→a=some x∨w.heap.size≤x.block)→K (act.put o.dst (.slice a' (n+m) cap')) w'):
  if Region.wanted o (yielded ops act.tmps)=true then Oper.wp P o act w K Q else E:=by
 have hw:Region.wanted o (yielded ops act.tmps)=true:=by simp[Region.wanted,hgd]
 rw[if_pos hw];obtain⟨i,hi,hz,hsize,hby⟩:=info_parts hinf;obtain⟨r1,r2,r3,r4⟩:=hr;cases b with
 |none=>
  obtain⟨q1,q2⟩:=r3 rfl;subst q1 q2;have hn:news=[]:=List.eq_nil_of_length_eq_zero (by simpa using r1);subst hn;have hrun:=run_append_owned_none (P:=P) (w:=w) B t o.type e i size ht hi (.slice a n cap) n xs hown;unfold Oper.wp execOp;simp only[ho,resolve,invoke,builtin,Sem.run_bind,Sem.run_pure,Result.andThen_ok,List.map_toArray,List.map_cons,List.map_nil,hs,hx,hrun];exact h a cap w (by rw[List.append_nil];exact hown) (World.grownBy.refl w _) (fun x hx=> .inl hx)
 |some y=>
  obtain⟨v',w',hrun,hown',hgrow,hnil,hloc⟩:=run_append_own_at (P:=P) w B t o.type e i z size bytes ht hi hz hsize hby hzs hsz (.slice a n cap) n xs hown y m d news r1 (r4 y rfl) r2 h63 hbytes hbase;have hex:∃a' cap',v'= .slice a' (n+m) cap':=by
   rcases hown'.2 with⟨h1,h2⟩|⟨g,cap',cur,h2,_⟩
   ·exact⟨none,0,by rw[h1,h2]⟩
   ·exact⟨_,cap',h2⟩
  obtain⟨a',cap',hv⟩:=hex;rw[hv]at hown' hloc hrun;rw[bF]at hgrow;unfold Oper.wp execOp;simp only[ho,resolve,invoke,builtin,Sem.run_bind,Sem.run_pure,Result.andThen_ok,List.map_toArray,List.map_cons,List.map_nil,hs,hx,hrun];refine h a' cap' w' hown' hgrow ?_;intro z hz;subst hz;rcases hloc with hloc|hloc
  ·left;rw[bF,bF]at hloc;cases ha:a with
   |none=>rw[ha]at hloc;simp[blk]at hloc
   |some y=>
    rw[ha]at hloc;subst ha;have hr:=ak.row hown;have hr':=ak.row hown';simp[blk]at hloc;rw[hr.1,hr'.1,hloc]
  ·right;rw[bF]at hloc;simp[blk]at hloc;omega
theorem Fq(b j:Nat):(⟨b,0,none⟩:Addr).add j=⟨b,j,none⟩:=by unfold Addr.add;split <;> simp_all
theorem ak.zy{w:World}{B:Nat}{e:TypeId}{size:Nat}{a:Option Addr}{n cap:Nat}{L:List Value}(h:ak w B e size a n cap L)(h1:∀u∈L,u.oneCell'=true):uF w a n cap size L:=by
 refine⟨h.len,h1,?_,?_⟩
 ·intro e;subst e;exact⟨h.aS.1,h.aS.2.1⟩
 ·intro y hy j u hj;subst hy;obtain⟨h1,_,_,_,h5⟩:=h.row;have hjl:j < L.length:=by
   rcases Nat.lt_or_ge j L.length with h|h
   ·exact h
   ·rw[List.getElem?_eq_none h]at hj;cases hj
  rw[h1];rw[Fq,h5.cell0 j hjl,← Y1 hjl,hj]
end
section
open Go.RowKit
open Rd
abbrev Nm:=Nat×Nat×Tm.Wd
def fD(N:List Nm):List Value:=N.map fun t=> .pointer (some ⟨t.1,0,none⟩)
theorem zz(N M:List Nm):fD N++fD M=fD (N++M):=by simp[fD]
theorem zA(N:List Nm):∀u∈fD N,u.oneCell'=true:=by
 intro u hu;simp only[fD,List.mem_map]at hu;obtain⟨z,_,rfl⟩:=hu;rfl
theorem wW:(Tryz.prog.info? 68).map (fun i=>(i.zero,i.size,i.bytes))=some (some (.pointer none),1,8):=by kernel_rfl
def mw(V:World)(rb B:Nat)(ns:List Tm.Wd)(e:Ending)(w':World):Prop:=∃(a:Option Addr) (cap:Nat) (N:List Nm),e= .returned (.slice a N.length cap)∧(∀W,Below w'.heap.size w' W→ak W B 68 1 a N.length cap (fD N))∧(∀t∈N,IsX V rb t.1 (.name t.2.1 t.2.2))∧N.map (fun t=>t.2.2)=ns
def nQ(x:Ex.X):Prop:=∀(V w:World) (rb b B:Nat),IsX V rb b x→Below V.heap.size V w→(Tm.cf x).length≤100000→B≤w.heap.size→
 Calls Tryz.prog 115 #[.pointer (some ⟨b,0,none⟩)] w fun e w'=>mw V rb B (Tm.cf x) e w'∧Below w.heap.size w w'
theorem tf(w:World):Calls Tryz.prog 115 #[.pointer none] w fun e w'=>e= .returned (.slice none 0 0)∧w'=w:=by
 go_enter Tryz.func115,Tryz.ntmps115;go_wp2_with fail;go_ret;exact⟨rfl,rfl⟩
theorem zB(a:Nat)(s:Tm.Wd):nQ (.name a s):=by
 intro V w rb b B hx hb hl hB;have c0:=(hx.2.below hb hx.2.lt).cell0 0 (by simp);simp only[Z0]at c0;have HX:=hid hx;have HB:=hid hB;clear hx hb hl hB;go_enter Tryz.func115,Tryz.ntmps115;go_wp2_with fail;go_ret;refine⟨⟨some ⟨w.heap.size,0,none⟩,1,[(b,a,s)],rfl,fun W hW=> ?_,fun t ht=> ?_,rfl⟩,(Y4 _ _).alloc (Z5 _) _⟩
 ·have hrow:=(ak.nA (n:=1) (cap:=1) (size:=1) (xs:=fD [(b,a,s)]) (e:=68) (B:=B) rfl (w.alloc (.cells (fD [(b,a,s)]).toArray 68)) w.heap.size (fD [(b,a,s)]).toArray HB.out (heap_alloc_new w _) rfl (Z5 _) (by decide) rfl);exact hrow.below hW (Z5 _)
 ·rw[List.mem_singleton]at ht;subst ht;exact HX.out
abbrev NS(V w:World)(b:Nat)(pl pr:Option Addr)(w1:World):Prop:=w1.cell? ⟨b,5,none⟩=some (.pointer pl)∧w1.cell? ⟨b,6,none⟩=some (.pointer pr)∧Below V.heap.size V w1∧Below w.heap.size w w1
theorem NS.up{V w w1 w2:World}{b:Nat}{pl pr:Option Addr}(h:NS V w b pl pr w1)(hbv:b < V.heap.size)(h2:Below w1.heap.size w1 w2):NS V w b pl pr w2:=by
 have h3:=h.2.2.1.trans (h2.mono h.2.2.1.size);exact⟨(h3.cell (p:=⟨b,5,none⟩) hbv).trans ((h.2.2.1.cell (p:=⟨b,5,none⟩) hbv).symm.trans h.1),(h3.cell (p:=⟨b,6,none⟩) hbv).trans ((h.2.2.1.cell (p:=⟨b,6,none⟩) hbv).symm.trans h.2.1),h3,h.2.2.2.trans (h2.mono h.2.2.2.size)⟩
theorem NS.drew{V w w1:World}{b:Nat}{pl pr:Option Addr}(h:NS V w b pl pr w1):NS V w b pl pr w1.drew:=⟨h.1,h.2.1,h.2.2.1.drew,h.2.2.2.drew⟩
theorem NS.app{V w w1 w2:World}{b:Nat}{pl pr a:Option Addr}{n cap:Nat}{xs:List Value}(h:NS V w b pl pr w1)(hbv:b < V.heap.size)(hvw:V.heap.size≤w.heap.size)(ho:ak w1 w.heap.size 68 1 a n cap xs)(hg:w1.grownBy w2 (blk a)):NS V w b pl pr w2:=by
 have h4:=eJ h.2.2.2 ho (Z5 _) h.2.2.2.size hg;have h3:=eJ h.2.2.1 ho hvw h.2.2.1.size hg;exact⟨(h3.cell (p:=⟨b,5,none⟩) hbv).trans ((h.2.2.1.cell (p:=⟨b,5,none⟩) hbv).symm.trans h.1),(h3.cell (p:=⟨b,6,none⟩) hbv).trans ((h.2.2.1.cell (p:=⟨b,6,none⟩) hbv).symm.trans h.2.1),h3,h4⟩
theorem wZ{NL NR:List Nm}{nl nr:List Tm.Wd}(h1:NL.map (fun t=>t.2.2)=nl)(h2:NR.map (fun t=>t.2.2)=nr)(h:nl.length+nr.length≤100000):NL.length+NR.length≤maxLen∧(NL.length+NR.length) * 8≤140737488355328:=by
 have e1:=congrArg List.length h1;have e2:=congrArg List.length h2;rw[List.length_map]at e1 e2;refine⟨?_,by omega⟩;show NL.length+NR.length≤9223372036854775807;omega
theorem CW(a:Nat)(op:Tm.Wd)(l r:Ex.X)(hL:nQ l)(hR:nQ r):nQ (.bin a op l r):=by
 intro V w rb b B hx hb hl hB;obtain⟨bl,br,h1,h2,h3,h4⟩:=hx;have hnx:Tm.cf (.bin a op l r)=Tm.cf l++Tm.cf r:=rfl;rw[hnx]at hl⊢;rw[Z7]at hl;have hr2:=h2.below hb h2.lt;have c0:=hr2.cell0 0 (by simp);have c5:=hr2.cell0 5 (by simp);have c6:=hr2.cell0 6 (by simp);simp only[Z0,Z1]at c0 c5 c6;have hS0:NS V w b (some ⟨bl,0,none⟩) (some ⟨br,0,none⟩) w:=⟨c5,c6,hb,Y4 _ _⟩;have hbv:=h2.lt;have HL:=hid (fun W (hW:NS V w b (some ⟨bl,0,none⟩) (some ⟨br,0,none⟩) W)=>hL V W rb bl w.heap.size h3 hW.2.2.1 (by omega) hW.2.2.2.size);have HR:=hid (fun W (hW:NS V w b (some ⟨bl,0,none⟩) (some ⟨br,0,none⟩) W)=>hR V W rb br w.heap.size h4 hW.2.2.1 (by omega) hW.2.2.2.size);unfold mw at HL HR;have HBV:=hid hbv;have HVW:=hid hb.size;have HB:=hid hB;have HLEN:=hid hl;generalize Tm.cf l=nl at *
 generalize Tm.cf r=nr at *
 clear h1 h2 h3 h4 hr2 hL hR hnx hbv hb hl hB;go_enter Tryz.func115,Tryz.ntmps115;go_wp2_with fail;go_region_held3 (fun w1=>w1.cell? ⟨b,5,none⟩=some (.pointer (some ⟨bl,0,none⟩))∧w1.cell? ⟨b,6,none⟩=some (.pointer (some ⟨br,0,none⟩))∧Below V.heap.size V w1∧Below w.heap.size w w1)
  (first
   |exact hS0
   |exact NS.drew (by assumption)
   |assumption)
  (first
   |(go_at_call 115;(with_reducible refine(HL.out _ ?_).mono ?_);(next=>(first|assumption|exact hS0));(rintro e w9 ⟨⟨aL,cL,NL,rfl,hoL,hxL,hnL⟩,hbL⟩);(have hSL:NS V w b (some ⟨bl,0,none⟩) (some ⟨br,0,none⟩) w9:=NS.up (by first|assumption|exact hS0) HBV.out hbL))
   |(go_at_call 115;(with_reducible refine(HR.out _ ?_).mono ?_);(next=>(first|assumption|exact hS0));(rintro e w8 ⟨⟨aR,cR,NR,rfl,hoR,hxR,hnR⟩,hbR⟩);(have hSR:NS V w b (some ⟨bl,0,none⟩) (some ⟨br,0,none⟩) w8:=NS.up (by first|assumption|exact hS0) HBV.out hbR))
   |((with_reducible refine Fl ?_);refine mr _ (by rfl) _ _ 198 (by rfl) w.heap.size 68 (.pointer none) 1 8 Tryz.underlying198 wW rfl (by decide) aL NL.length cL _ (by rfl) (hoL _ ?_) aR NR.length cR _ (by rfl) (ak.zy (hoR _ ?_) (zA _)) (wZ hnL hnR HLEN.out).1 (wZ hnL hnR HLEN.out).2 ?_ ?_;(next=>first|exact Y4 _ _|assumption);(next=>first|exact Y4 _ _|assumption);(next=>first|exact hSL.2.2.2.size|exact hSR.2.2.2.size);(intro a4 c4 w4 ho4 hg4 hl4);(have hS4:NS V w b (some ⟨bl,0,none⟩) (some ⟨br,0,none⟩) w4:=by first|exact NS.app hSR HBV.out HVW.out (hoL _ (by first|exact Y4 _ _|assumption)) hg4|exact NS.app hSL HBV.out HVW.out (hoL _ (by first|exact Y4 _ _|assumption)) hg4)))
 all_goals
  go_wp2_with fail;go_ret;refine⟨⟨a4,c4,NL++NR,?_,fun W hW=> ?_,fun t ht=> ?_,?_⟩,hS4.2.2.2⟩
  ·rw[Z7];rfl
  ·rw[Z7,← zz];exact(ho4.below hW (Z5 _)).mono HB.out
  ·rcases List.mem_append.1 ht with h|h
   ·exact hxL t h
   ·exact hxR t h
  ·rw[List.map_append,hnL,hnR]
theorem CX(a n:Nat):nQ (.num a n):=by
 intro V w rb b B hx hb hl hB;have hr2:=hx.2.below hb hx.2.lt;have c0:=hr2.cell0 0 (by simp);have c5:=hr2.cell0 5 (by simp);have c6:=hr2.cell0 6 (by simp);simp only[Z0,Z1]at c0 c5 c6;have HN:=hid tf;have hS0:NS V w b none none w:=⟨c5,c6,hb,Y4 _ _⟩;have HBV:=hid hx.2.lt;have HVW:=hid hb.size;have HB:=hid hB;clear hx hb hl hB hr2;go_enter Tryz.func115,Tryz.ntmps115;go_wp2_with fail;go_region_held3 (fun w1=>w1.cell? ⟨b,5,none⟩=some (.pointer none)∧w1.cell? ⟨b,6,none⟩=some (.pointer none)∧Below V.heap.size V w1∧Below w.heap.size w w1)
  (first
   |exact hS0
   |exact NS.drew (by assumption)
   |assumption)
  (first
   |(go_at_call 115;(with_reducible refine(HN.out _).mono ?_);(rintro e w9 ⟨rfl,rfl⟩))
   |((with_reducible refine Fl ?_);refine mr _ (by rfl) _ _ 198 (by rfl) w.heap.size 68 (.pointer none) 1 8 Tryz.underlying198 wW rfl (by decide) none 0 0 _ (by rfl) (ak.nil _ _ _ _) none 0 0 _ (by rfl) (ak.zy (ak.nil _ w.heap.size 68 _) (by simp)) (by decide) (by decide) ?_ ?_;(next=>first|exact hS0.2.2.2.size|(have h8:NS V w b none none _:=by assumption;exact h8.2.2.2.size));(intro a4 c4 w4 ho4 hg4 hl4);(have hS4:NS V w b none none w4:=NS.app (by first|assumption|exact hS0) HBV.out HVW.out (ak.nil _ _ _ _) hg4)))
 all_goals
  go_wp2_with fail;go_ret;exact⟨⟨a4,c4,[],rfl,fun W hW=>(ho4.below hW (Z5 _)).mono HB.out,fun t ht=>by(cases ht),rfl⟩,hS4.2.2.2⟩
theorem uG:∀x:Ex.X,nQ x
 | .num a n=>CX a n
 | .name a s=>zB a s
 | .bin a op l r=>CW a op l r (uG l) (uG r)
structure CkS(w:World)(cb tb mb:Nat)(sa:Option Addr)(sc:Nat)(seen:List Tm.Wd):Prop where
 box:ae w cb 0 107 [.map (some tb),.map (some mb),.slice sa seen.length sc]
 own:ak w 0 9 1 sa seen.length sc (eo seen)
theorem CkS.up{w w':World}{cb tb mb:Nat}{sa:Option Addr}{sc:Nat}{seen:List Tm.Wd}(h:CkS w cb tb mb sa sc seen)(hb:Below w.heap.size w w'):CkS w' cb tb mb sa sc seen:=⟨h.box.below hb h.box.lt,h.own.below hb (Z5 _)⟩
theorem CY{seen:List Tm.Wd}{N:List Nm}{k:Nat}{t:Nm}(h:Tm.asks seen ((N.take k).map fun t=>t.2.2)=true)(hk:N[k]? =some t)(hm:t.2.2∈seen):Tm.asks seen ((N.take (k+1)).map fun t=>t.2.2)=true:=by
 unfold Tm.asks at *
 rw[List.take_add_one,hk,List.map_append,List.all_append,h];simp[hm]
theorem Fs{seen:List Tm.Wd}{N:List Nm}{k:Nat}{t:Nm}(hk:N[k]? =some t)(hm:t.2.2∉seen):Tm.asks seen (N.map fun t=>t.2.2)=false:=by
 unfold Tm.asks;rw[List.all_eq_false];refine⟨t.2.2,List.mem_map.2 ⟨t,List.mem_of_getElem? hk,rfl⟩,?_⟩;simp[hm]
theorem xa(V w:World)(rb cb tb mb sc:Nat)(sa:Option Addr)(seen:List Tm.Wd)(p8:Option Addr)(x:Option Ex.X)(hx:Tm.qf V rb x (.pointer p8))(hb:Below V.heap.size V w)(hs:CkS w cb tb mb sa sc seen)(hl:(Tm.ee x).length≤100000)(hsl:seen.length≤100000):
  Calls Tryz.prog 90 #[.pointer (some ⟨cb,0,none⟩),.pointer p8] w fun e w'=>Below w.heap.size w w'∧Ko w.heap.size (if Tm.asks seen (Tm.ee x)then none else some 5) e w':=by
 have hN:Calls Tryz.prog 115 #[.pointer p8] w fun e w'=>mw V rb w.heap.size (Tm.ee x) e w'∧Below w.heap.size w w':=by
  cases x with
  |none=>
   have:p8=none:=by have h9:(Value.pointer p8)= .pointer none:=hx;injection h9
   subst this;exact(tf w).mono fun e w' ⟨h1,h2⟩=>by subst h1 h2;exact⟨⟨none,0,[],rfl,fun W _=>ak.nil _ _ _ _,fun t ht=>by(cases ht),rfl⟩,Y4 _ _⟩
  |some y=>
   obtain⟨b,h1,h2⟩:=hx;injection h1 with h1
   subst h1;exact uG y V w rb b w.heap.size h2 hb hl (Z5 _)
 unfold mw at hN;generalize Tm.ee x=ns at *
 obtain⟨oo,hoo⟩:∃oo:Option Nat,oo=(if Tm.asks seen ns then none else some 5):=⟨_,rfl⟩;rw[← hoo];have HOO:=hid hoo;clear hoo;have HN:=hid hN;have HB:=hid hb;have HS:=hid hs;clear hN hx hb hs;go_enter Tryz.func90,Tryz.ntmps90;go_wp2_with fail;refine HN.out.mono ?_;rintro e w1 ⟨⟨ga,cap,N,rfl,ho,hx,hnm⟩,hb1⟩;obtain⟨m,hm⟩:∃m,m=N.length:=⟨_,rfl⟩;have hm2:m≤100000:=by rw[hm,← List.length_map (fun t:Nm=>t.2.2),hnm];exact hl
 have hcap:m≤cap:=by rw[hm];exact aW (ho _ (Y4 _ _))
 rw[← hm];have HO:=hid ho;have HX:=hid hx;have HNM:=hid hnm;have HB1:=hid hb1;have HM:=hid hm;clear ho hx hnm hb1 hm HN hl;go_wp2_with fail;go_loopw [9] (fun v9 wr=>∃k:Nat,v9= .int .i64 k∧k≤m∧Hid (Tm.asks seen ((N.take k).map fun t=>t.2.2)=true)∧Hid (Below w1.heap.size w1 wr)) (fun v9 _=>m - (intOf v9).toNat)
 case atStart=>exact⟨0,rfl,Nat.zero_le _,hid (by simp[Tm.asks]),hid (Y4 _ _)⟩
 case round=>
  obtain⟨k,rfl,hk,HQ,HBW⟩:=hrel
  by_cases hlt:k < m
  ·have hki:(k:Int) < (m:Int):=by omega
   have q1:decide ((k:Int) < (m:Int))=true:=Z9 hki;have q2:decide (k < m)=true:=Z9 hlt;have HLT:=hid hlt;have how:=HO.out wr HBW.out;obtain⟨y,rfl⟩:∃y,ga=some y:=by
    cases ga with
    |none=>have:=how.aS.1;rw[← HM.out]at this;omega
    |some y=>exact⟨y,rfl⟩
   obtain⟨gb,rfl⟩:∃gb,y=⟨gb,0,none⟩:=⟨y.block,how.row.1⟩;obtain⟨t,ht⟩:∃t,N[k]? =some t:=⟨N[k]'(by rw[← HM.out];exact hlt),Y1 _⟩;have hcell:wr.cell? ⟨gb,k,none⟩=some (.pointer (some ⟨t.1,0,none⟩)):=by
    rw[how.row.2.2.2.2.cell0 k (by simp[fD];rw[← HM.out];exact hlt)];rw[Y1 (by rw[← HM.out];exact hlt)]at ht;injection ht with ht
    simp only[fD,List.getElem_map,ht]
   have hbw:Below w.heap.size w wr:=HB1.out.trans (HBW.out.mono HB1.out.size);have hxt:=HX.out t (List.mem_of_getElem? ht);have hrow:=(hxt.2.below HB.out hxt.2.lt).below hbw (hxt.2.below HB.out hxt.2.lt).lt;have n1:=hrow.cell0 1 (by simp);have n3:=hrow.cell0 3 (by simp);have hsw:=HS.out.up hbw;have b2:=hsw.box.cell0 2 (by simp);simp only[Z0,Z1]at n1 n3 b2;have HT:=hid ht;have HBR:=hid hbw;have HC:=hid (fun q=>CS sa seen.length sc seen t.2.2 (wr.drewN q) rfl hsl (hsw.own.drewN q).JB);obtain⟨nm,hnm⟩:∃nm,nm=t.2.2:=⟨_,rfl⟩;obtain⟨at_,hat⟩:∃at_,at_=t.2.1:=⟨_,rfl⟩;rw[← hnm]at n3 HC;rw[← hat]at n1;have HNA:=hid hnm;clear how ht hxt hrow hsw hbw hlt hnm hat;go_wp2_with fail;go_quiet (first|(go_at_call 116;with_reducible exact Calls.quiet_of_same (tX (HC.out _))));obtain⟨wq,hwq⟩:∃wq,wq=wr.drewN nq:=⟨_,rfl⟩;have n1':wq.cell? ⟨t.1,1,none⟩=some (.int .i64 (at_:Nat)):=by rw[hwq];exact n1
   have HBQ:=hid (show Below w.heap.size w wq by rw[hwq];exact⟨HBR.out.os,HBR.out.tape,HBR.out.output,HBR.out.size,HBR.out.block⟩);have HBQ1:=hid (show Below w1.heap.size w1 wq by rw[hwq];exact⟨HBW.out.os,HBW.out.tape,HBW.out.output,HBW.out.size,HBW.out.block⟩);rw[← hwq];clear hwq n1 n3 b2 HC;obtain⟨bb,hbb⟩:∃bb,bb=decide (nm∈seen):=⟨_,rfl⟩;rw[← hbb];cases bb with
   |true=>
    have hin:nm∈seen:=of_decide_eq_true hbb.symm;have HQ2:=hid (CY HQ.out HT.out (by rw[← HNA.out];exact hin));clear hin hbb;go_wp2_with fail;go_roundw
    case rel=>exact⟨k+1,by go_num,by have:=HLT.out;omega,HQ2,HBQ1⟩
    case measure=>simp[intOf];have:=HLT.out;omega
   |false=>
    have hin:nm∉seen:=of_decide_eq_false hbb.symm;have HE:=hid (show Tm.asks seen ns=false by rw[← HNM.out];exact Fs HT.out (by rw[← HNA.out];exact hin));clear hin hbb;go_wp2_with fail;refine(cB 5 at_ wq).mono ?_;rintro e wF ⟨rfl,g1,g2⟩;have HB9:=hid (HBQ.out.trans (g2.mono HBQ.out.size));have G1:=hid g1;clear g1 g2;go_wp2_with fail;refine⟨rfl,HB9.out,?_⟩;rw[HOO.out,HE.out];exact⟨_,_,rfl,G1.out,HBQ.out.size⟩
  ·obtain rfl:k=m:=by omega
   have hd:decide ((k:Int) < (k:Int))=false:=by simp
   have hd2:decide (k < k)=false:=by simp
   have HE:=hid (show Tm.asks seen ns=true by rw[← HNM.out];have:=HQ.out;rwa[HM.out,List.take_length]at this);have HBR:=hid (HB1.out.trans (HBW.out.mono HB1.out.size));go_wp2_with fail
   go_end0
   refine⟨HBR.out,?_⟩;rw[HOO.out,HE.out];rfl
theorem uH(w:World):(zeroValue 3).run Tryz.prog w= .ok (.int .i64 0) w:=by kernel_rfl
theorem zC:(Tryz.prog.info? 9).map (fun i=>(i.zero,i.size,i.bytes))=some (some (.string ByteArray.empty),1,16):=by kernel_rfl
abbrev NameSet(w:World)(b:Nat)(S:List Tm.Wd):Prop:=ia Tryz.prog 9 3 w b S.length S
theorem ia.block{P:Program}{k e:TypeId}{w:World}{b n:Nat}{S:List (List UInt8)}(h:ia P k e w b n S):∃es clock,w.heap[b]? =some (.map es clock):=by
 obtain⟨D,⟨es,clock,hb,_⟩,_⟩:=h;exact⟨es,clock,hb⟩
theorem dp{w:World}{g off:Nat}{e:TypeId}{xs:List Value}(h:ae w g off e xs){b:Nat}(hm:∃es clock,w.heap[b]? =some (.map es clock)):g≠b:=by
 rintro rfl;obtain⟨c,z,h1,_⟩:=h;obtain⟨es,cl,h2⟩:=hm;rw[h1]at h2;injection h2 with h2
 cases h2
structure ItS(V w:World)(cb tb mb:Nat)(ts ns seen:List Tm.Wd)(sa:Option Addr)(sc:Nat):Prop where
 bel:Below V.heap.size V w
 box:ae w cb 0 107 [.map (some tb),.map (some mb),.slice sa seen.length sc]
 cbV:V.heap.size≤cb
 tm:NameSet w tb ts
 nm:NameSet w mb ns
 mbV:V.heap.size≤mb
 own:ak w V.heap.size 9 1 sa seen.length sc (eo seen)
 ne:tb≠mb
section
variable{V w w':World}{cb tb mb:Nat}{ts ns seen:List Tm.Wd}{sa:Option Addr}{sc:Nat}
theorem ItS.up(h:ItS V w cb tb mb ts ns seen sa sc)(hb:Below w.heap.size w w'):ItS V w' cb tb mb ts ns seen sa sc:=
 ⟨h.bel.trans (hb.mono h.bel.size),h.box.below hb h.box.lt,h.cbV,h.tm.an (hb.block tb h.tm.lt),h.nm.an (hb.block mb h.nm.lt),h.mbV,h.own.below hb (Z5 _),h.ne⟩
theorem ItS.drewN(h:ItS V w cb tb mb ts ns seen sa sc)(k:Nat):ItS V (w.drewN k) cb tb mb ts ns seen sa sc:=h.up ⟨rfl,rfl,rfl,Z5 _,fun _ _=>rfl⟩
theorem ItS.drew(h:ItS V w cb tb mb ts ns seen sa sc):ItS V w.drew cb tb mb ts ns seen sa sc:=h.up (Y4 _ _).drew
theorem ItS.cks(h:ItS V w cb tb mb ts ns seen sa sc):CkS w cb tb mb sa sc seen:=⟨h.box,h.own.mono (Nat.zero_le _)⟩
theorem ItS.cells(h:ItS V w cb tb mb ts ns seen sa sc):w.cell? ⟨cb,0,none⟩=some (.map (some tb))∧w.cell? ⟨cb,1,none⟩=some (.map (some mb))∧w.cell? ⟨cb,2,none⟩=some (.slice sa seen.length sc)∧w.frozen? ⟨cb,2,none⟩=false:=
 ⟨h.box.cell0 0 (by simp),h.box.cell0 1 (by simp),h.box.cell0 2 (by simp),h.box.frozen0 2 (by simp)⟩
theorem ItS.store(h:ItS V w cb tb mb ts ns seen sa sc){s:Tm.Wd}(hm:ia Tryz.prog 9 3 w' mb (ns.length+1) (s::ns))(hg:w.grownBy w' (some mb)):ItS V w' cb tb mb ts (s::ns) seen sa sc:=by
 have k:∀b,b < w.heap.size→b≠mb→w'.heap[b]? =w.heap[b]? :=fun b hb hne=>hg.block b hb (fun e=>by injection e with e;exact hne e)
 refine⟨h.bel.grown hg h.bel.size (fun b e=>by injection e with e;have:=h.mbV;omega),h.box.of_heap (k cb h.box.lt (dp h.box h.nm.block)),h.cbV,h.tm.an (k tb h.tm.lt h.ne),hm,h.mbV,h.own.an (fun x hx=> ?_),h.ne⟩;have ho:=h.own;subst hx;exact k _ ho.lt.2 (dp ho.row.2.2.2.2 h.nm.block)
theorem ItS.Bg(h:ItS V w cb tb mb ts ns seen sa sc):∀x,sa=some x→x.block≠cb∧x.block≠tb∧x.block≠mb:=by
 intro x hx;have ho:=h.own;subst hx;refine⟨?_,dp ho.row.2.2.2.2 h.tm.block,dp ho.row.2.2.2.2 h.nm.block⟩;intro e;have:=(e▸ho.row.2.2.2.2:ae w cb 0 9 _).ty h.box;exact absurd this (by decide)
theorem ItS.JJ(h:ItS V w cb tb mb ts ns seen sa sc){w4:World}{a':Option Addr}{c':Nat}{x:Tm.Wd}(ho:ak w4 V.heap.size 9 1 a' (seen.length+1) c' (eo seen++[.string (aa x)]))(hg:w.grownBy w4 (blk sa)):
  ae w4 cb 0 107 [.map (some tb),.map (some mb),.slice sa seen.length sc]∧ItS V (w4.setCell ⟨cb,2,none⟩ (.slice a' (seen.length+1) c')) cb tb mb ts ns (seen++[x]) a' c':=by
 have k:∀b,b < w.heap.size→(∀y,sa=some y→y.block≠b)→w4.heap[b]? =w.heap[b]? :=fun b hb hne=>hg.block b hb (fun e=>by
  cases hs:sa with
  |none=>rw[hs]at e;simp[blk]at e
  |some y=>rw[hs]at e;simp only[blk,Option.map_some]at e;injection e with e;exact hne y hs e.symm)
 have hbox:=h.box.of_heap (k cb h.box.lt (fun y hy=>(h.Bg y hy).1));have htm:=h.tm.an (k tb h.tm.lt (fun y hy=>(h.Bg y hy).2.1));have hnm:=h.nm.an (k mb h.nm.lt (fun y hy=>(h.Bg y hy).2.2));have hbel:=eJ h.bel h.own (Z5 _) h.bel.size hg;have far:∀b,b≠cb→(w4.setCell ⟨cb,2,none⟩ (.slice a' (seen.length+1) c')).heap[b]? =w4.heap[b]? :=fun b hb=>Below.heap_setCell w4 ⟨cb,2,none⟩ _ b hb
 refine⟨hbox,hbel.setCell (p:=⟨cb,2,none⟩) h.cbV _,?_,h.cbV,htm.an (far tb (fun e=>dp hbox htm.block e.symm)),hnm.an (far mb (fun e=>dp hbox hnm.block e.symm)),h.mbV,?_,h.ne⟩
 ·have:=hbox.ax 2 (by simp) (.slice a' (seen.length+1) c');rw[Z7];exact this
 ·rw[Z7,wR];refine ho.an fun y hy=>far y.block ?_
  subst hy;intro e;have:=(e▸ho.row.2.2.2.2:ae w4 cb 0 9 _).ty hbox;exact absurd this (by decide)
theorem ItS.cut(h:ItS V w cb tb mb ts ns seen sa sc)(n:Nat)(hn:n≤seen.length):ItS V (w.setCell ⟨cb,2,none⟩ (.slice sa n sc)) cb tb mb ts ns (seen.take n) sa sc:=by
 have far:∀b,b≠cb→(w.setCell ⟨cb,2,none⟩ (.slice sa n sc)).heap[b]? =w.heap[b]? :=fun b hb=>Below.heap_setCell w ⟨cb,2,none⟩ _ b hb
 have hl:(seen.take n).length=n:=by rw[List.length_take];omega
 refine⟨h.bel.setCell (p:=⟨cb,2,none⟩) h.cbV _,?_,h.cbV,h.tm.an (far tb (fun e=>dp h.box h.tm.block e.symm)),h.nm.an (far mb (fun e=>dp h.box h.nm.block e.symm)),h.mbV,?_,h.ne⟩
 ·have:=h.box.ax 2 (by simp) (.slice sa n sc);rw[hl];exact this
 ·have:=h.own.Kp n hn;rw[hl,← wS];rw[Nat.mul_one]at this;exact this.an fun y hy=>far y.block (fun e=>(h.Bg y hy).1 e)
end
namespace Tm
def ef(ts:List Wd)(l:Its)(ns seen:List Wd):Res:=match bD ts l ns seen with
 | .bad e=> .bad e
 | .ok ns' _=>match dw l.row with
  |some e=> .bad e
  |none=> .ok ns' seen
def oV:Its→Prop
 | .nil=>True
 | .cons h l=>(ee h.cnt).length≤100000∧oV l
 | .when _ c b l=>(cf c).length≤100000∧oV b∧oV l
theorem qA:∀(i:Nat) (l:Its),oV l→oV (l.drop i)
 |0,l,h=>h
 |i+1,.nil,h=>h
 |i+1,.cons _ l,h=>qA i l h.2
 |i+1,.when _ _ _ l,h=>qA i l h.2.2
theorem mx{ts:List Wd}:∀{l:Its} {ns seen ns' seen':List Wd},bD ts l ns seen= .ok ns' seen'→ns'.length≤ns.length+l.sz
 | .nil,ns,seen,ns',seen',h=>by
  unfold bD at h;cases h;simp[Its.sz]
 | .cons a l,ns,seen,ns',seen',h=>by
  unfold bD at h;split at h
  ·cases h
  ·split at h
   ·cases h
   ·split at h
    ·have:=mx h;simp only[Z6]at this;simp only[Its.sz];omega
    ·cases h
 | .when _ c b l,ns,seen,ns',seen',h=>by
  unfold bD at h;split at h
  ·cases hb:bD ts b ns seen with
   |bad e=>rw[hb]at h;cases h
   |ok n2 s2=>
    rw[hb]at h;simp only[]at h;have h1:=mx hb;split at h
    ·cases h
    ·have h2:=mx h;simp only[Its.sz];omega
  ·cases h
theorem CZ(ts:List Wd)(a:Nat)(c:Ex.X)(b l:Its)(ns seen:List Wd):bD ts (.when a c b l) ns seen=if asks seen (cf c)then(match ef ts b ns seen with| .bad e=> .bad e| .ok ns' _=>bD ts l ns' seen)else .bad 5:=by
 rw[bD];split
 ·unfold ef;cases bD ts b ns seen with
  |bad e=>rfl
  |ok n2 s2=>
   simp only[];cases dw b.row <;> rfl
 ·rfl
end Tm
def qB(V:World)(cb tb mb:Nat)(ts seen:List Tm.Wd)(r:Tm.Res)(e:Ending)(w':World):Prop:=match r with
 | .bad n=>Below V.heap.size V w'∧∃g p:Nat,e=iS g∧ae w' g 0 122 [.int .i64 (n:Nat),.int .i64 (p:Nat)]
 | .ok ns' _=>e= .returned (.tuple #[])∧∃sa sc,ItS V w' cb tb mb ts ns' seen sa sc
def uI(l:Tm.Its):Prop:=∀(V w:World) (rb cap cb tb mb sc:Nat) (ga sa:Option Addr) (bs:List Value) (ts ns seen:List Tm.Wd),ItV V w rb l ga cap bs→ItS V w cb tb mb ts ns seen sa sc→ns.length+Tm.Its.sz l≤100000→seen.length+Tm.Its.sz l≤100000→Tm.Its.len l≤100000→Tm.bG l→Tm.oV l→
 Calls Tryz.prog 58 #[.pointer (some ⟨cb,0,none⟩),.slice ga (Tm.Its.len l) cap] w (qB V cb tb mb ts seen (Tm.ef ts l ns seen))
end
section
open Go Go.RowKit Go.Maps Go.WideElems Go.ChangeMaps Go.WideMaps
open Rd
open Ly
theorem Da{n wd:Nat}(h:wd=1∨wd=2∨wd=4∨wd=8):Ex.InR (iv n wd):=by
 unfold Ex.InR iv jm;rcases h with rfl|rfl|rfl|rfl <;> (simp only[Nat.reducePow,Nat.reduceDiv];split <;> omega)
theorem tg{w u:Tm.Wd}(h:(Tm.kindOf w).isSome=true):Ex.InR (nL w u):=by
 obtain⟨h1,h2,h3⟩:=mh h;unfold nL;split
 ·exact Da h1
 ·rename_i hs
  have h4:=h3 (by simpa using hs);have h5:=AX (iQ u 0 (bo w) (gh w) (bo w)) h4;unfold Ex.InR;omega
theorem Hz{S:Sub}{s:Tm.Wd}{N:Ex.Names}{h:Tm.Hd}{st st':St}{d:Nd}{wd:Tm.Wd}(hk:h.k= .scalar wd)(hkw:(Tm.kindOf wd).isSome=true)(ho:bL S s N h st=some (d,st')):Ex.InR d.val:=by
 unfold bL at ho;rw[hk]at ho;cases hn:nod st with
 |none=>rw[hn]at ho;cases ho
 |some st1=>
  rw[hn]at ho;simp only[Option.bind_some]at ho;cases ht:tak s (bo wd:Nat) st1 with
  |none=>rw[ht]at ho;cases ho
  |some p=>
   rw[ht]at ho;simp only[Option.map_some,Option.some.injEq,Prod.mk.injEq]at ho;obtain⟨rfl,_⟩:=ho;exact tg hkw
namespace Ly
theorem qC{S:Sub}{s:Tm.Wd}{h:Tm.Hd}{r:Tm.Its}{N:Ex.Names}{st st2:St}{d:Nd}(hh:hdR S s N h st=some (d,st2)):bO S s (.cons h r) N st=(bO S s r (if Tm.single h then upd N h.name d.val else N) st2).map fun q=>(d.put q.1,q.2):=by
 show(hdR S s N h st).bind _=_;rw[hh];rfl
theorem gA{S:Sub}{s:Tm.Wd}{h:Tm.Hd}{r:Tm.Its}{N:Ex.Names}{st:St}(hh:hdR S s N h st=none):bO S s (.cons h r) N st=none:=by
 show(hdR S s N h st).bind _=_;rw[hh];rfl
theorem jC{S:Sub}{s:Tm.Wd}{a:Nat}{c:Ex.X}{b r:Tm.Its}{N:Ex.Names}{st:St}:bO S s (.when a c b r) N st=(fp S s N c b st).bind fun p=>(bO S s r p.2.1 p.2.2).map fun q=>(p.1.put q.1,q.2):=by
 show(nod st).bind _=_;unfold fp;cases nod st with
 |none=>rfl
 |some st1=>
  simp only[Option.bind_some];cases Ex.ev N c with
  |none=>rfl
  |some v=>
   simp only[Option.bind_some];cases(if v=0 then some (Nds.nil,N,st1)else bO S s b N st1)with
   |none=>rfl
   |some p=>rfl
end Ly
theorem si(w:World){ops:Array Oper}{rest:List Oper}{o:Oper}{a:Act}{Q:Exit→Act→World→Prop}
  (hg:o.guard=none)(m x v:Operand)(hop:o.op=Op.mapUpdate 103 m x v)
  (b n:Nat)(N:Ex.Names)(hm:a.eval m= .map (some b))(h:NmM w b n N)(hn:n < maxLen)(s:Tm.Wd)(hs:s.length≤1000)(y:Int)(hy:Ex.InR y)(hx:a.eval x= .string (aa s))(hv:a.eval v= .int .i64 y)
  (hK:∀w',NmM w' b (n+1) (upd N s y)→w.grownBy w' (some b)→wpList Tryz.prog ops Q rest (a.put o.dst undef) w'):
  wpList Tryz.prog ops Q (o::rest) a w:=by
 refine wpList_plain hg fun K' hK'=> ?_
 obtain⟨w',hrun,r1,r2⟩:=h.store hn s hs y hy;unfold Oper.wp;simp[execOp,hop,hm,hx,hv,hrun,Result.andThen];exact hK' _ _ (hK w' r1 r2)
def Ft(A:List Tm.Ty)(S:Sub)(s:Tm.Wd)(nm:Tm.Wd):Prop:=∃t∈A,t.name=nm∧t.name.length≤100000∧∃S',(∀st,S t.name st=(bO S' s t.items (fun _=>none) st).map fun p=>(p.1,p.2.2))∧sZ A S' s t.items
theorem RdE.ne{U w:World}{rb fb b m n:Nat}{A:List Tm.Ty}{s:Tm.Wd}{N:Ex.Names}{st:St}(h:RdE U w rb fb b m n A s N st):fb≠b∧m≠b:=⟨h.form.ne h.lr.row,h.nm.ne h.lr.row⟩
theorem RdE.all{U w w':World}{rb fb b m n n':Nat}{A:List Tm.Ty}{s:Tm.Wd}{N N':Ex.Names}{st st':St}(h:RdE U w rb fb b m n A s N st)(hb:But w w' b (some m))(hl:LR w' b (.map (some fb)) s st')(hN:NmM w' m n' N')(hn:n'≤st'.n):RdE U w' rb fb b m n' A s N' st':=
 ⟨But.below h.bel hb h.bel.size h.bU (fun x e=>by cases e;exact h.mU),h.bU,h.mU,h.fm,h.form.an (hb.block fb h.form.lt h.ne.1 (fun e=>by injection e with e;exact h.fm e)),hl,hN,hn⟩
theorem JK(A:List Tm.Ty)(S:Sub)(s:Tm.Wd)(h:Tm.Hd)(hf:Tm.ju h)(hst:∀t,h.k= .struct t→Ft A S s t)(hs:s.length≤1000000)(U w:World)(rb fb b m n:Nat)(N:Ex.Names)(st:St)(g o:Nat)(cv:Value)(hE:RdE U w rb fb b m n A s N st)
  (hr:ae w g o 70 (Tm.ag h cv))(hcv:Tm.qf U rb h.cnt cv)(w':World)(st':St)(hb:But w w' b none)(hl:LR w' b (.map (some fb)) s st'):
  Calls Tryz.prog 30 #[.pointer (some ⟨b,0,none⟩),.pointer (some ⟨g,o,none⟩),.map (some m)] w' (gp w' b none (.map (some fb)) s st' (bL S s N h st')):=by
 have hgb:g≠b:=by
  rintro rfl;exact absurd (hr.ty hE.lr.row) (by decide)
 have hr':ae w' g o 70 (Tm.ag h cv):=hr.of_heap (hb.block g hr.lt hgb (fun e=>by cases e));have hbel:=But.below hE.bel hb hE.bel.size hE.bU (fun x e=>by cases e);have hfm:=hE.form.an (hb.block fb hE.form.lt hE.ne.1 (fun e=>by cases e));have hnm:=hE.nm.an (hb.block m hE.nm.lt hE.ne.2 (fun e=>by cases e));cases hk:h.k with
 |scalar wd=>exact zt b _ _ s wd g o st' S N h cv w' hl hgb hs hk (by have:=hf.1;rw[hk]at this;exact this) hr'
 |bytes=>
  have hne:=hf.2.2.2.2.1 hk;cases hc:h.cnt with
  |none=>exact absurd hc hne
  |some c=>
   rw[hc]at hcv;obtain⟨cb,rfl,hx⟩:=hcv;exact CL b m n rb cb _ s g o st' S N h c U w' hl hgb hs hk hc (hf.2.2.1 c hc).1.1 hbel hE.bU hx hnm hE.ne.2 hr'
 |struct t=>
  obtain⟨ty,h1,h2,h3,S',h4,h5⟩:=hst t hk;rw[← h2]at hk;exact qt A S S' s ty h1 h4 h5 h3 b rb fb _ cv g o st' N h U w' hl hbel hE.bU hfm hs hk hr'
structure LoS(U w0 w:World)(rb fb b m n:Nat)(A:List Tm.Ty)(S:Sub)(s:Tm.Wd)(l:Tm.Its)(N0:Ex.Names)(st0:St)(i:Nat)(N:Ex.Names)(st2:St)(ks:Nds)(ga:Option Addr)(cap:Nat)(bl:List Nat)(vs:List Value):Prop where
 but:But w0 w b (some m)
 rd:RdE U w rb fb b m n A s N st2
 blt:b < w0.heap.size
 mlt:m < w0.heap.size
 kv:aM w w0.heap.size ks ga cap bl vs
 len:ks.len=i
 rep:bO S s l N0 st0=(bO S s (l.drop i) N st2).map fun q=>(ks.app q.1,q.2)
 at_:st0.at_≤st2.at_
 few:st0.n+i≤st2.n
section
variable{U w0 w w4 w5:World}{rb fb b m n n4:Nat}{A:List Tm.Ty}{S:Sub}{s:Tm.Wd}{l:Tm.Its}{N0 N N4:Ex.Names}{st0 st2 st4:St}{i cap cap':Nat}{ks:Nds}{ga ga':Option Addr}{bl b1:List Nat}{vs cs:List Value}{d:Nd}
theorem LoS.start(h:RdE U w rb fb b m n A s N st2):LoS U w w rb fb b m n A S s l N st2 0 N st2 .nil none 0 [] []:=
 ⟨But.refl _ _ _,h,h.lr.row.lt,h.nm.lt,aM.nil _ _,rfl,by
  show bO S s l N st2=Option.map _ (bO S s (l.drop 0) N st2);rw[show l.drop 0=l by cases l <;> rfl];cases bO S s l N st2 with
  |none=>rfl
  |some q=>rfl,Z5 _,by omega⟩
theorem LoS.push(h:LoS U w0 w rb fb b m n A S s l N0 st0 i N st2 ks ga cap bl vs)(hstep:bO S s (l.drop i) N st2=(bO S s (l.drop (i+1)) N4 st4).map fun q=>(d.put q.1,q.2))(hb:But w w4 b (some m))(hl:LR w4 b (.map (some fb)) s st4)(hN:NmM w4 m n4 N4)(hn4:n4≤st4.n)
  (hd:NdV w4 w.heap.size b1 d (.agg cs.toArray))(hnd:b1.Nodup)(hat:st2.at_≤st4.at_)(hfew:st2.n < st4.n)(ho:ak w5 w0.heap.size 28 7 ga' (i+1) cap' (vs++cs))(hg:w4.grownBy w5 (blk ga))(hloc:∀x,ga'=some x→ga=some x∨w4.heap.size < x.block):
  LoS U w0 w5 rb fb b m n4 A S s l N0 st0 (i+1) N4 st4 (ks.app (d.put .nil)) ga' cap' (bl++b1) (vs++cs):=by
 have hsz:=h.but.size;have hsz4:=hb.size;have hbl:=h.blt;have hml:=h.mlt;have hga:∀x,ga=some x→w0.heap.size≤x.block:=fun x hx=>(h.kv.mem x.block (by rw[hx];simp[aB])).1
 have far:∀g,g < w4.heap.size→g < w0.heap.size→w5.heap[g]? =w4.heap[g]? :=fun g h1 h2=>hg.block g h1 (fun e=>by
  cases ha:ga with
  |none=>rw[ha]at e;simp[blk]at e
  |some x=>rw[ha]at e;simp only[blk,Option.map_some]at e;injection e with e;have:=hga x ha;omega)
 have hrd4:=h.rd.all hb hl hN hn4;have hU:=hrd4.bel;have hbU:=hrd4.bU;have hfl:=hrd4.form.lt;have hff:w5.heap[fb]? =w4.heap[fb]? :=by
  refine hg.block fb hfl (fun e=> ?_);cases ha:ga with
  |none=>rw[ha]at e;simp[blk]at e
  |some x=>
   rw[ha]at e;simp only[blk,Option.map_some]at e;injection e with e
   have hkk:ae w x.block 0 28 vs:=by have:=h.kv.own;rw[ha]at this;exact this.row.2.2.2.2
   have:=h.rd.form.ne hkk;omega
 have hbb:=h.but.trans hb;refine⟨⟨hg.os.trans hbb.os,hg.tape.trans hbb.tape,hg.output.trans hbb.output,Nat.le_trans hbb.size hg.size,fun g h1 h2 h3=>(far g (by have:=hbb.size;omega) h1).trans (hbb.block g h1 h2 h3)⟩,⟨hU.trans ⟨hg.os,hg.tape,hg.output,hg.size,fun g h1=>far g (by have:=hU.size;omega) (by omega)⟩,hrd4.bU,hrd4.mU,hrd4.fm,hrd4.form.an hff,hrd4.lr.an (far b hrd4.lr.row.lt hbl),hrd4.nm.an (far m hrd4.nm.lt hml),hn4⟩,hbl,hml,
  h.kv.push (fun g h1 h2=>hb.block g h2 (by omega) (fun e=>by injection e with e;omega)) hd hnd hsz hsz4 (by rw[h.len];exact ho) hg hloc,by rw[Nds.bZ,h.len];rfl,?_,by have:=h.at_;omega,by have:=h.few;omega⟩
 rw[h.rep,hstep];cases bO S s (l.drop (i+1)) N4 st4 with
 |none=>rfl
 |some q=>show some (ks.app (d.put q.1),q.2)=some ((ks.app (d.put .nil)).app q.1,q.2);rw[Bb]
end
end
section
open Go Go.RowKit
open Rd
open Ly
theorem fr{n:Nat}(h:n≤400):n+1≤maxLen∧(n+1) * 88≤140737488355328:=mm h
theorem my(h:Tm.Hd):Tm.ba h=Tm.cP h:=by unfold Tm.ba Tm.cP;cases h.k <;> cases h.cnt <;> rfl
theorem xd{h:Tm.Hd}(hm:Tm.ba h=true):∃c,h.cnt=some c:=by
 cases hc:h.cnt with
 |some c=>exact⟨c,rfl⟩
 |none=>unfold Tm.ba at hm;rw[hc]at hm;cases hk:h.k <;> rw[hk]at hm <;> cases hm
theorem oW{h:Tm.Hd}(hm:Tm.ba h=true):Tm.single h=false:=by
 obtain⟨c,hc⟩:=xd hm;rw[Tm.eQ,hc];cases h.k <;> rfl
theorem kr{w:Tm.Wd}(h:Tm.aP w=true):w.length≤12:=by
 unfold Tm.aP at h;simp only[Bool.and_eq_true,decide_eq_true_eq]at h;exact h.2
theorem zD{h:Tm.Hd}{wd:Tm.Wd}(hk:h.k= .scalar wd)(hm:Tm.ba h=false):Tm.single h=true:=by
 rw[Tm.eQ,hk];unfold Tm.ba at hm;rw[hk]at hm;cases hc:h.cnt with
 |none=>rfl
 |some c=>rw[hc]at hm;cases hm
theorem th{h:Tm.Hd}(hk:(match h.k with| .scalar _=>False|_=>True)):Tm.single h=false:=by
 rw[Tm.eQ];cases h9:h.k with
 |scalar w=>rw[h9]at hk;exact hk.elim
 |bytes=>rfl
 |struct t=>rfl
theorem ff{U w0 w:World}{rb fb b m n:Nat}{A:List Tm.Ty}{S:Sub}{s:Tm.Wd}{l:Tm.Its}{N0 N:Ex.Names}{st0 st2:St}{i cap:Nat}{ks:Nds}{ga:Option Addr}{bl:List Nat}{vs:List Value}(h:LoS U w0 w rb fb b m n A S s l N0 st0 i N st2 ks ga cap bl vs):wrap64 ((i:Int)+1)=((i+1:Nat):Int):=by
 have h1:=h.few;have h2:=h.rd.lr.few;exact(IntWalk.wrap64_in _ ⟨by omega,by omega⟩).trans (by omega)
theorem uJ(A:List Tm.Ty)(S:Sub)(s:Tm.Wd)(hs:s.length≤1000000)(l:Tm.Its)(hF:Tm.bG l)(hlen:l.len≤100000)(hW:∀i a c b r,l.drop i= .when a c b r→sZ A S s b)
  (hSt:∀i h r t,l.drop i= .cons h r→h.k= .struct t→Ft A S s t):sZ A S s l:=by
 intro U w rb fb b m n cap ga bs N st hE ho hen;obtain⟨F,hFd⟩:∃F,F=Value.map (some fb):=⟨_,rfl⟩;have hcap:l.len≤cap:=aW ho;obtain⟨nl,hnl⟩:∃nl,nl=l.len:=⟨_,rfl⟩;rw[← hnl]at hcap hlen ho⊢;have HNL:=hid hnl;have h0:LoS U w w rb fb b m n A S s l N st 0 N st .nil none 0 [] []:=LoS.start hE;have H0:=hid h0;have HO:=hid ho;have HEN:=hid hen;have HF:=hid hF;have HW:=hid hW;have HST:=hid hSt;clear hnl h0 ho hen hF hW hSt hE;go_enter Tryz.func65,Tryz.ntmps65;go_wp2_with fail;go_loopw [7,13] (fun v7 v13 wr=>∃(i:Nat) (N2:Ex.Names) (st2:St) (ks:Nds) (g7:Option Addr) (k7:Nat) (bl:List Nat) (vs:List Value) (n2:Nat),v7= .slice g7 i k7∧v13= .int .i64 (i:Nat)∧i≤nl∧Hid (LoS U w wr rb fb b m n2 A S s l N st i N2 st2 ks g7 k7 bl vs)) (fun _ v13 _=>nl - (intOf v13).toNat)
 case atStart=>exact⟨0,N,st,.nil,none,0,[],[],n,rfl,rfl,Nat.zero_le _,H0⟩
 case round=>
  obtain⟨i,N2,st2,ks,g7,k7,bl,vs,n2,rfl,rfl,hi,HL⟩:=hrel;clear H0
  by_cases hlt:i < nl
  ·have hki:(i:Int) < (nl:Int):=by omega
   have q1:decide ((i:Int) < (nl:Int))=true:=Z9 hki;have q2:decide (i < nl)=true:=Z9 hlt;have HLT:=hid hlt;obtain⟨x,rfl⟩:∃x,ga=some x:=by
    cases ga with
    |none=>have:=HO.out.aS.1;omega
    |some x=>exact⟨x,rfl⟩
   obtain⟨gb,rfl⟩:∃gb,x=⟨gb,0,none⟩:=⟨x.block,HO.out.row.1⟩;have HFD:=hid (Tm.dh i l HF.out);have ho2:=HO.out;rw[HNL.out]at ho2;rcases Tm.cF l i (by rw[← HNL.out];exact hlt)with⟨h,r,hdr⟩|⟨a,c,bd,r,hdr⟩
   ·obtain⟨cv,hcv,hrow,hnx⟩:=Tm.bu.hd ho2 HEN.out hdr;rw[hdr]at HFD;have hfh:=HFD.out.1;have hrw:=hrow.below HL.out.rd.bel hrow.lt;have HROW:=hid hrw;have HCV:=hid hcv;have HDR:=hid hdr;have HNX:=hid hnx;have HFH:=hid hfh;have hONE:=JK A S s h hfh (fun t ht=>HST.out i h r t hdr ht) hs U wr rb fb b m n2 N2 st2 gb (i * 13) cv HL.out.rd hrw hcv;have c7:=hrw.cell 7 (by simp[Tm.aj]);simp only[Tm.ag,Z0,Z1,Y2]at c7;have hgb:gb≠b:=by
     rintro rfl;exact absurd (hrw.ty HL.out.rd.lr.row) (by decide)
    have hgm:gb≠m:=fun e=>HL.out.rd.nm.ne hrw e.symm
    have HONE:=hid hONE;clear hrow hcv hdr hnx hfh hrw hlt hki hi ho2 hONE;cases hmb:Tm.ba h with
    |true=>
     rw[hmb]at c7;obtain⟨cx,hcx⟩:=xd hmb;have hcv:=HCV.out;rw[hcx]at hcv;obtain⟨cb,hcve,hxc⟩:=hcv;have hrw:=HROW.out;rw[hcve]at hrw;have HMA:=hid (Fo b m n2 rb cb (.map (some fb)) s gb (i * 13) st2 S N2 h cx U wr HL.out.rd.lr hgb hs hcx (HFH.out.2.2.1 cx hcx).1.1 HL.out.rd.bel HL.out.rd.bU hxc HL.out.rd.nm HL.out.rd.ne.2 hrw HONE.out);have HHD:=hid (show hdR S s N2 h st2=iw S s N2 h st2 by unfold hdR;rw[← my,hmb];rfl);have HSG:=hid (oW hmb);clear hmb hrw hcve hxc hcx;go_wp2_with fail;refine HMA.out.mono ?_;unfold gp;rintro e w4 ⟨hb4,hv⟩;cases hoh:iw S s N2 h st2 with
     |none=>
      rw[hoh]at hv;obtain⟨t,v,he⟩:=hv;unfold bC at he;subst he;have HO2:=hid (show bO S s l N st=none by rw[HL.out.rep,HDR.out,gA (HHD.out.trans hoh)];rfl);have HB4:=hid hb4;clear hb4 hoh;go_wp2_with fail;refine⟨rfl,HL.out.but.trans HB4.out.wide,?_⟩;rw[HO2.out];exact⟨t,v,rfl⟩
     |some p=>
      obtain⟨d,st4⟩:=p;rw[hoh]at hv;obtain⟨⟨v,b1,rfl,hd,hnd⟩,hl4,hat4,hn4⟩:=hv;obtain⟨g4,c4,rfl⟩:=hd.cells;have hat5:st2.at_≤st4.at_:=hat4;have hn5:st2.n < st4.n:=hn4;have hown4:ak w4 w.heap.size 28 7 g7 i k7 vs:=by
       have h9:=HL.out.kv.own;rw[HL.out.len]at h9;exact h9.an fun x hx=>hb4.block _ (h9.gY x hx) (by have h8:=HL.out.kv.mem x.block (by rw[hx];simp[aB]);have h7:=HL.out.blt;omega) (fun e=>by cases e)
      have HB4:=hid hb4;have HD4:=hid hd;have HND:=hid hnd;have HL4:=hid hl4;have HAT:=hid hat5;have HNN:=hid hn5;have HO4:=hid hown4;have HBS:=hid (show w.heap.size≤w4.heap.size from Nat.le_trans HL.out.but.size hb4.size);have hh:hdR S s N2 h st2=some (d,st4):=HHD.out.trans hoh;have hstep:bO S s (l.drop i) N2 st2=(bO S s (l.drop (i+1)) N2 st4).map fun q=>(d.put q.1,q.2):=by rw[HDR.out,qC hh,HSG.out,HNX.out];rfl
      have HSTEP:=hid hstep;have HNM:=hid (HL.out.rd.nm.an (hb4.block m HL.out.rd.nm.lt HL.out.rd.ne.2 (fun e=>by cases e)));clear hb4 hd hnd hl4 hat4 hn4 hat5 hn5 hoh hown4 hh hstep c7;obtain⟨hs1,hs2⟩:=fr (show i≤400 by have h1:=HL.out.few;have h2:=HL.out.rd.lr.few;omega);have hbase:=HBS.out;have hown5:=HO4.out;go_wp2_with (with_reducible refine bS w4 rfl _ _ 26 rfl w.heap.size 28 (.agg #[.string ByteArray.empty,.int .i64 0,.int .i64 0,.int .i64 0,.int .i64 0,.string ByteArray.empty,.slice none 0 0]) 7 88 Tryz.underlying26 de rfl (by decide) g7 i k7 _ rfl hown5 [.string (aa d.name),.int .i64 (d.kind:Nat),.int .i64 (d.at_:Nat),.int .i64 (d.size:Nat),.int .i64 d.val,.string (aa d.text),.slice g4 d.kids.len c4] rfl (by simp[Value.oneCell']) rfl hs1 hs2 hbase ?_;intro g8 k8 w6 hown6 hgrow6 hloc6 hsz6 hex6);have HL5:=hid (HL.out.push HSTEP.out HB4.out.wide HL4.out HNM.out (by have:=HL.out.rd.few;have:=HNN.out;omega) HD4.out HND.out HAT.out HNN.out hown6 hgrow6 (fun x hx=>hloc6 x hx));clear hown6 hgrow6 hloc6 hsz6 hex6 hs1 hs2 hbase hown5;go_wp2_with fail;go_roundw
      case rel=>exact⟨i+1,_,st4,_,g8,k8,_,_,_,rfl,by first|rfl|rw[ff HL.out],by have:=HLT.out;omega,HL5⟩
      case measure=>(try rw[ff HL.out]);simp only[intOf];have:=HLT.out;omega
    |false=>
     rw[hmb]at c7;have HHD:=hid (show hdR S s N2 h st2=bL S s N2 h st2 by unfold hdR;rw[← my,hmb];rfl);have HC1:=hid (HONE.out wr st2 (But.refl _ _ _) HL.out.rd.lr);have HMB:=hid hmb;clear hmb;go_wp2_with fail;refine HC1.out.mono ?_;unfold gp;rintro e w4 ⟨hb4,hv⟩;clear c7;cases hoh:bL S s N2 h st2 with
     |none=>
      rw[hoh]at hv;obtain⟨t,v,he⟩:=hv;unfold bC at he;subst he;have HO2:=hid (show bO S s l N st=none by rw[HL.out.rep,HDR.out,gA (HHD.out.trans hoh)];rfl);have HB4:=hid hb4;clear hb4 hoh;go_wp2_with fail;refine⟨rfl,HL.out.but.trans HB4.out.wide,?_⟩;rw[HO2.out];exact⟨t,v,rfl⟩
     |some p=>
      obtain⟨d,st4⟩:=p;rw[hoh]at hv;obtain⟨⟨v,b1,rfl,hd,hnd⟩,hl4,hat4,hn4⟩:=hv;obtain⟨g4,c4,rfl⟩:=hd.cells;have hat5:st2.at_≤st4.at_:=hat4;have hn5:st2.n < st4.n:=hn4;have hown4:ak w4 w.heap.size 28 7 g7 i k7 vs:=by
       have h9:=HL.out.kv.own;rw[HL.out.len]at h9;exact h9.an fun x hx=>hb4.block _ (h9.gY x hx) (by have h8:=HL.out.kv.mem x.block (by rw[hx];simp[aB]);have h7:=HL.out.blt;omega) (fun e=>by cases e)
      have HB4:=hid hb4;have HD4:=hid hd;have HND:=hid hnd;have HL4:=hid hl4;have HAT:=hid hat5;have HNN:=hid hn5;have HO4:=hid hown4;have HBS:=hid (show w.heap.size≤w4.heap.size from Nat.le_trans HL.out.but.size hb4.size);have hbx:ae (w4.alloc (.cells #[.string {data:= #[]},.int .i64 0,.int .i64 0,.int .i64 0,.int .i64 0,.string {data:= #[]},.slice none 0 0] 28)) w4.heap.size 0 28 [.string {data:= #[]},.int .i64 0,.int .i64 0,.int .i64 0,.int .i64 0,.string {data:= #[]},.slice none 0 0]:=ae.new w4 28 #[.string {data:= #[]},.int .i64 0,.int .i64 0,.int .i64 0,.int .i64 0,.string {data:= #[]},.slice none 0 0];have y0:=hbx.cell0 0 (by simp);have z0:=hbx.frozen0 0 (by simp);have y1:=hbx.cell0 1 (by simp);have z1:=hbx.frozen0 1 (by simp);have y2:=hbx.cell0 2 (by simp);have z2:=hbx.frozen0 2 (by simp);have y3:=hbx.cell0 3 (by simp);have z3:=hbx.frozen0 3 (by simp);have y4:=hbx.cell0 4 (by simp);have z4:=hbx.frozen0 4 (by simp);have y5:=hbx.cell0 5 (by simp);have z5:=hbx.frozen0 5 (by simp);have y6:=hbx.cell0 6 (by simp);have z6:=hbx.frozen0 6 (by simp);simp only[Z0,Z1]at y0 y1 y2 y3 y4 y5 y6;obtain⟨V,hV⟩:∃V,V=w4.alloc (.cells #[.string (aa d.name),.int .i64 (d.kind:Nat),.int .i64 (d.at_:Nat),.int .i64 (d.size:Nat),.int .i64 d.val,.string (aa d.text),.slice g4 d.kids.len c4] 28):=⟨_,rfl⟩;have hvb:Below w4.heap.size w4 V:=by rw[hV];exact(Y4 _ _).alloc (Z5 _) _
      have hrV:ae V gb (i * 13) 70 (Tm.ag h cv):=(HROW.out.of_heap (HB4.out.block gb HROW.out.lt hgb (fun e=>by cases e))).below hvb (Nat.lt_of_lt_of_le HROW.out.lt HB4.out.size);have hboxV:ae V w4.heap.size 0 28 [.string (aa d.name),.int .i64 (d.kind:Nat),.int .i64 (d.at_:Nat),.int .i64 (d.size:Nat),.int .i64 d.val,.string (aa d.text),.slice g4 d.kids.len c4]:=by rw[hV];exact ae.new w4 _ _
      have k0:=hrV.cell 0 (by simp[Tm.aj]);have hd6:NdV V wr.heap.size b1 d (.agg ([.string (aa d.name),.int .i64 (d.kind:Nat),.int .i64 (d.at_:Nat),.int .i64 (d.size:Nat),.int .i64 d.val,.string (aa d.text),.slice g4 d.kids.len c4]).toArray):=hd.an fun g hg=>hvb.block g (hd.mem g hg).2
      have HD6:=hid hd6;have HO6:=hid (hown4.below hvb (Z5 _));have HBS6:=hid (show w.heap.size≤V.heap.size from Nat.le_trans HBS.out hvb.size);have HL6:=hid (show LR V b (.map (some fb)) s st4 from hl4.an (hvb.block b hl4.row.lt));have HBOX:=hid hboxV;have hh:hdR S s N2 h st2=some (d,st4):=HHD.out.trans hoh;have hstep:bO S s (l.drop i) N2 st2=(bO S s (l.drop (i+1)) (if Tm.single h then upd N2 h.name d.val else N2) st4).map fun q=>(d.put q.1,q.2):=by rw[HDR.out,qC hh,HNX.out]
      have hnmV:NmM V m n2 N2:=(HL.out.rd.nm.an (hb4.block m HL.out.rd.nm.lt HL.out.rd.ne.2 (fun e=>by cases e))).an (hvb.block m (Nat.lt_of_lt_of_le HL.out.rd.nm.lt hb4.size));have HNMV:=hid hnmV;have HBV:=hid (show But wr V b none from hb4.trans (But.aA hvb));have HVS:=hid (show w4.heap.size < V.heap.size by rw[hV];simp);have HV:=hid hV;have HOH:=hid hoh;cases hk:h.k with
      |scalar wd=>
       have hkw:(Tm.kindOf wd).isSome=true:=by have:=HFH.out.1;rw[hk]at this;exact this
       have hval:Ex.InR d.val:=Hz hk hkw hoh;have hsg:Tm.single h=true:=zD hk HMB.out;rw[hsg]at hstep;have HSTEP:=hid (show bO S s (l.drop i) N2 st2=(bO S s (l.drop (i+1)) (upd N2 h.name d.val) st4).map fun q=>(d.put q.1,q.2)from hstep);have HVAL:=hid hval;have hnl2:h.name.length≤1000:=by have:=kr HFH.out.2.1.2;omega
       have HNL2:=hid hnl2;simp only[Tm.ag,hk,Tm.aJ,Z0,Z1,Y2]at k0;have k2:=hrV.cell 2 (by simp[Tm.aj]);simp only[Tm.ag,Z0,Z1]at k2;have v4:=hboxV.cell0 4 (by simp);simp only[Z0,Z1]at v4;rw[hV]at k0 k2 v4;clear hb4 hd hnd hl4 hat4 hn4 hat5 hn5 hoh hown4 hh hstep hbx hrV hboxV hd6 hnmV hkw hval hsg hnl2 hV hvb hk;go_wp2_with fail;rw[← HV.out]at k0 k2 v4⊢;go_still_tail 7,(by kernel_rfl);change wpList _ _ _ _ _ V.drew;refine si V.drew rfl _ _ _ rfl m n2 N2 rfl (HNMV.out.an (w':=V.drew) rfl) (by have h1:=HL.out.rd.few;have h2:=HL.out.rd.lr.few;show n2 < 9223372036854775807;omega) h.name HNL2.out d.val HVAL.out rfl rfl ?_;intro w6 hm6 hg6;clear k0 k2 v4 y0 y1 y2 y3 y4 y5 y6 z0 z1 z2 z3 z4 z5 z6;have hm0:=HL.out.mlt;have hw0:=HL.out.but.size;have hw4:=HB4.out.size;have hk6:∀g,g < V.heap.size→g≠m→w6.heap[g]? =V.heap[g]? :=fun g h1 h2=>hg6.block g h1 (fun e=>by injection e with e;exact h2 e)
       have hbox6:ae w6 w4.heap.size 0 28 [.string (aa d.name),.int .i64 (d.kind:Nat),.int .i64 (d.at_:Nat),.int .i64 (d.size:Nat),.int .i64 d.val,.string (aa d.text),.slice g4 d.kids.len c4]:=HBOX.out.of_heap (hk6 _ HVS.out (by omega))
       replace HBOX:=hid hbox6
       have hd7:NdV w6 wr.heap.size b1 d (.agg ([.string (aa d.name),.int .i64 (d.kind:Nat),.int .i64 (d.at_:Nat),.int .i64 (d.size:Nat),.int .i64 d.val,.string (aa d.text),.slice g4 d.kids.len c4]).toArray):=HD6.out.an fun g hg=>hk6 g (HD6.out.mem g hg).2 (by have:=(HD6.out.mem g hg).1;omega)
       replace HD6:=hid hd7
       have ho7:=HO6.out.an (w':=w6) fun x hx=>hk6 _ (HO6.out.gY x hx) (by have:=HL.out.kv.mem x.block (by rw[hx];simp[aB]);omega)
       replace HO6:=hid ho7
       replace HL6:=hid (show LR w6 b (.map (some fb)) s st4 from HL6.out.an (hk6 b HL6.out.row.lt (Ne.symm HL.out.rd.ne.2)))
       have HB6:=hid (show But wr w6 b (some m)from HBV.out.wide.trans ⟨hg6.os,hg6.tape,hg6.output,hg6.size,fun g h1 h2 h3=>hg6.block g h1 (fun e=>h3 e)⟩);have HNM6:=hid hm6;have HN6:=hid (show n2+1≤st4.n by have h1:=HL.out.rd.few;have h2:=HNN.out;omega)
       replace HBS6:=hid (show w.heap.size≤w6.heap.size from Nat.le_trans HBS6.out hg6.size)
       clear hm6 hg6 hk6 hbox6 hd7 ho7 hm0 hw0 hw4;have r0:=HBOX.out.cell0 0 (by simp);have r1:=HBOX.out.cell0 1 (by simp);have r2:=HBOX.out.cell0 2 (by simp);have r3:=HBOX.out.cell0 3 (by simp);have r4:=HBOX.out.cell0 4 (by simp);have r5:=HBOX.out.cell0 5 (by simp);have r6:=HBOX.out.cell0 6 (by simp);simp only[Z0,Z1]at r0 r1 r2 r3 r4 r5 r6;have hown5:=HO6.out;have hbase:=HBS6.out;obtain⟨hs1,hs2⟩:=fr (show i≤400 by have h1:=HL.out.few;have h2:=HL.out.rd.lr.few;omega);go_wp2_with (with_reducible refine bS w6 rfl _ _ 26 rfl w.heap.size 28 (.agg #[.string ByteArray.empty,.int .i64 0,.int .i64 0,.int .i64 0,.int .i64 0,.string ByteArray.empty,.slice none 0 0]) 7 88 Tryz.underlying26 de rfl (by decide) g7 i k7 _ rfl hown5 [.string (aa d.name),.int .i64 (d.kind:Nat),.int .i64 (d.at_:Nat),.int .i64 (d.size:Nat),.int .i64 d.val,.string (aa d.text),.slice g4 d.kids.len c4] rfl (by simp[Value.oneCell']) rfl hs1 hs2 hbase ?_;intro g8 k8 w6 hown6 hgrow6 hloc6 hsz6 hex6);have HL5:=hid (HL.out.push HSTEP.out HB6.out HL6.out HNM6.out HN6.out HD6.out HND.out HAT.out HNN.out hown6 hgrow6 (fun x hx=>hloc6 x hx));clear hown6 hgrow6 hloc6 hsz6 hex6 hs1 hs2 hbase hown5;clear r0 r1 r2 r3 r4 r5 r6;go_wp2_with fail;go_roundw
       case rel=>exact⟨i+1,_,st4,_,g8,k8,_,_,_,rfl,by first|rfl|rw[ff HL.out],by have:=HLT.out;omega,HL5⟩
       case measure=>(try rw[ff HL.out]);simp only[intOf];have:=HLT.out;omega
      |bytes=>
       have hsg:Tm.single h=false:=th (by rw[hk];trivial);rw[hsg]at hstep;have HSTEP:=hid (show bO S s (l.drop i) N2 st2=(bO S s (l.drop (i+1)) N2 st4).map fun q=>(d.put q.1,q.2)from hstep);simp only[Tm.ag,hk,Tm.aJ,Z0,Z1,Y2]at k0;rw[hV]at k0;have HB6:=hid (show But wr V b (some m)from HBV.out.wide);have HNM6:=HNMV;have HN6:=hid (show n2≤st4.n by have h1:=HL.out.rd.few;have h2:=HNN.out;omega);clear hb4 hd hnd hl4 hat4 hn4 hat5 hn5 hoh hown4 hh hstep hbx hrV hboxV hd6 hnmV hsg hvb hk;have r0:=HBOX.out.cell0 0 (by simp);have r1:=HBOX.out.cell0 1 (by simp);have r2:=HBOX.out.cell0 2 (by simp);have r3:=HBOX.out.cell0 3 (by simp);have r4:=HBOX.out.cell0 4 (by simp);have r5:=HBOX.out.cell0 5 (by simp);have r6:=HBOX.out.cell0 6 (by simp);simp only[Z0,Z1]at r0 r1 r2 r3 r4 r5 r6;rw[hV]at r0 r1 r2 r3 r4 r5 r6;clear hV;have hown5:=HO6.out;have hbase:=HBS6.out;obtain⟨hs1,hs2⟩:=fr (show i≤400 by have h1:=HL.out.few;have h2:=HL.out.rd.lr.few;omega)
       go_upto_region 11 with fail
       rw[← HV.out]at r0 r1 r2 r3 r4 r5 r6⊢;go_wp2_with (with_reducible refine bS V rfl _ _ 26 rfl w.heap.size 28 (.agg #[.string ByteArray.empty,.int .i64 0,.int .i64 0,.int .i64 0,.int .i64 0,.string ByteArray.empty,.slice none 0 0]) 7 88 Tryz.underlying26 de rfl (by decide) g7 i k7 _ rfl hown5 [.string (aa d.name),.int .i64 (d.kind:Nat),.int .i64 (d.at_:Nat),.int .i64 (d.size:Nat),.int .i64 d.val,.string (aa d.text),.slice g4 d.kids.len c4] rfl (by simp[Value.oneCell']) rfl hs1 hs2 hbase ?_;intro g8 k8 w6 hown6 hgrow6 hloc6 hsz6 hex6);have HL5:=hid (HL.out.push HSTEP.out HB6.out HL6.out HNM6.out HN6.out HD6.out HND.out HAT.out HNN.out hown6 hgrow6 (fun x hx=>hloc6 x hx));clear hown6 hgrow6 hloc6 hsz6 hex6 hs1 hs2 hbase hown5;clear r0 r1 r2 r3 r4 r5 r6;go_wp2_with fail;go_roundw
       case rel=>exact⟨i+1,_,st4,_,g8,k8,_,_,_,rfl,by first|rfl|rw[ff HL.out],by have:=HLT.out;omega,HL5⟩
       case measure=>(try rw[ff HL.out]);simp only[intOf];have:=HLT.out;omega
      |struct t=>
       have hsg:Tm.single h=false:=th (by rw[hk];trivial);rw[hsg]at hstep;have HSTEP:=hid (show bO S s (l.drop i) N2 st2=(bO S s (l.drop (i+1)) N2 st4).map fun q=>(d.put q.1,q.2)from hstep);simp only[Tm.ag,hk,Tm.aJ,Z0,Z1,Y2]at k0;rw[hV]at k0;have HB6:=hid (show But wr V b (some m)from HBV.out.wide);have HNM6:=HNMV;have HN6:=hid (show n2≤st4.n by have h1:=HL.out.rd.few;have h2:=HNN.out;omega);clear hb4 hd hnd hl4 hat4 hn4 hat5 hn5 hoh hown4 hh hstep hbx hrV hboxV hd6 hnmV hsg hvb hk;have r0:=HBOX.out.cell0 0 (by simp);have r1:=HBOX.out.cell0 1 (by simp);have r2:=HBOX.out.cell0 2 (by simp);have r3:=HBOX.out.cell0 3 (by simp);have r4:=HBOX.out.cell0 4 (by simp);have r5:=HBOX.out.cell0 5 (by simp);have r6:=HBOX.out.cell0 6 (by simp);simp only[Z0,Z1]at r0 r1 r2 r3 r4 r5 r6;rw[hV]at r0 r1 r2 r3 r4 r5 r6;clear hV;have hown5:=HO6.out;have hbase:=HBS6.out;obtain⟨hs1,hs2⟩:=fr (show i≤400 by have h1:=HL.out.few;have h2:=HL.out.rd.lr.few;omega)
       go_upto_region 11 with fail
       rw[← HV.out]at r0 r1 r2 r3 r4 r5 r6⊢;go_wp2_with (with_reducible refine bS V rfl _ _ 26 rfl w.heap.size 28 (.agg #[.string ByteArray.empty,.int .i64 0,.int .i64 0,.int .i64 0,.int .i64 0,.string ByteArray.empty,.slice none 0 0]) 7 88 Tryz.underlying26 de rfl (by decide) g7 i k7 _ rfl hown5 [.string (aa d.name),.int .i64 (d.kind:Nat),.int .i64 (d.at_:Nat),.int .i64 (d.size:Nat),.int .i64 d.val,.string (aa d.text),.slice g4 d.kids.len c4] rfl (by simp[Value.oneCell']) rfl hs1 hs2 hbase ?_;intro g8 k8 w6 hown6 hgrow6 hloc6 hsz6 hex6);have HL5:=hid (HL.out.push HSTEP.out HB6.out HL6.out HNM6.out HN6.out HD6.out HND.out HAT.out HNN.out hown6 hgrow6 (fun x hx=>hloc6 x hx));clear hown6 hgrow6 hloc6 hsz6 hex6 hs1 hs2 hbase hown5;clear r0 r1 r2 r3 r4 r5 r6;go_wp2_with fail;go_roundw
       case rel=>exact⟨i+1,_,st4,_,g8,k8,_,_,_,rfl,by first|rfl|rw[ff HL.out],by have:=HLT.out;omega,HL5⟩
       case measure=>(try rw[ff HL.out]);simp only[intOf];have:=HLT.out;omega
   ·obtain⟨cb,gc,capc,bsc,hxc,hoc,hec,hrow,hnx⟩:=Tm.bu.wh ho2 HEN.out hdr;rw[hdr]at HFD;have hfx:=HFD.out.1;have hrw:=hrow.below HL.out.rd.bel hrow.lt;have HROW:=hid hrw;have HDR:=hid hdr;have HNX:=hid hnx;have HWH:=hid (Fk A S s bd (HW.out i a c bd r hdr) b m n2 rb fb cb a gb (i * 13) st2 N2 c gc capc bsc U wr HL.out.rd hs hfx.1 hxc hoc hec hrw);have c7:=hrw.cell 7 (by simp[Tm.bh]);simp only[Tm.au,Z0,Z1,Y2]at c7;have hgb:gb≠b:=by
     rintro rfl;exact absurd (hrw.ty HL.out.rd.lr.row) (by decide)
    have hgm:gb≠m:=fun e=>HL.out.rd.nm.ne hrw e.symm
    clear hrow hdr hnx hrw hlt hki hi ho2 hxc hoc hec hfx;go_wp2_with fail;refine HWH.out.mono ?_;unfold AZ;rintro e w4 ⟨hb4,hv⟩;clear c7;cases hoh:fp S s N2 c bd st2 with
    |none=>
     rw[hoh]at hv;obtain⟨t,v,he⟩:=hv;unfold bC at he;subst he;have HO2:=hid (show bO S s l N st=none by rw[HL.out.rep,HDR.out,jC,hoh];rfl);have HB4:=hid hb4;clear hb4 hoh;go_wp2_with fail;refine⟨rfl,HL.out.but.trans HB4.out,?_⟩;rw[HO2.out];exact⟨t,v,rfl⟩
    |some p=>
     obtain⟨d,N4,st4⟩:=p;rw[hoh]at hv;obtain⟨⟨v,b1,rfl,hd,hnd⟩,hl4,⟨hat4,hn4⟩,n4,hN4,hn44⟩:=hv;obtain⟨g4,c4,rfl⟩:=hd.cells;have hat5:st2.at_≤st4.at_:=hat4;have hn5:st2.n < st4.n:=hn4;have hown4:ak w4 w.heap.size 28 7 g7 i k7 vs:=by
      have h9:=HL.out.kv.own;rw[HL.out.len]at h9;exact h9.an fun x hx=>hb4.block _ (h9.gY x hx) (by have h8:=HL.out.kv.mem x.block (by rw[hx];simp[aB]);have h7:=HL.out.blt;omega) (fun e=>by injection e with e;have h8:=HL.out.kv.mem x.block (by rw[hx];simp[aB]);have h7:=HL.out.mlt;omega)
     have HB4:=hid hb4;have HD4:=hid hd;have HND:=hid hnd;have HL4:=hid hl4;have HAT:=hid hat5;have HNN:=hid hn5;have HO4:=hid hown4;have HBS:=hid (show w.heap.size≤w4.heap.size from Nat.le_trans HL.out.but.size hb4.size);have hbx:ae (w4.alloc (.cells #[.string {data:= #[]},.int .i64 0,.int .i64 0,.int .i64 0,.int .i64 0,.string {data:= #[]},.slice none 0 0] 28)) w4.heap.size 0 28 [.string {data:= #[]},.int .i64 0,.int .i64 0,.int .i64 0,.int .i64 0,.string {data:= #[]},.slice none 0 0]:=ae.new w4 28 #[.string {data:= #[]},.int .i64 0,.int .i64 0,.int .i64 0,.int .i64 0,.string {data:= #[]},.slice none 0 0];have y0:=hbx.cell0 0 (by simp);have z0:=hbx.frozen0 0 (by simp);have y1:=hbx.cell0 1 (by simp);have z1:=hbx.frozen0 1 (by simp);have y2:=hbx.cell0 2 (by simp);have z2:=hbx.frozen0 2 (by simp);have y3:=hbx.cell0 3 (by simp);have z3:=hbx.frozen0 3 (by simp);have y4:=hbx.cell0 4 (by simp);have z4:=hbx.frozen0 4 (by simp);have y5:=hbx.cell0 5 (by simp);have z5:=hbx.frozen0 5 (by simp);have y6:=hbx.cell0 6 (by simp);have z6:=hbx.frozen0 6 (by simp);simp only[Z0,Z1]at y0 y1 y2 y3 y4 y5 y6;obtain⟨V,hV⟩:∃V,V=w4.alloc (.cells #[.string (aa d.name),.int .i64 (d.kind:Nat),.int .i64 (d.at_:Nat),.int .i64 (d.size:Nat),.int .i64 d.val,.string (aa d.text),.slice g4 d.kids.len c4] 28):=⟨_,rfl⟩;have hvb:Below w4.heap.size w4 V:=by rw[hV];exact(Y4 _ _).alloc (Z5 _) _
     have hrV:ae V gb (i * 13) 70 (Tm.au a (.pointer (some ⟨cb,0,none⟩)) (.slice gc bd.len capc)):=(HROW.out.of_heap (HB4.out.block gb HROW.out.lt hgb (fun e=>by injection e with e;exact hgm e))).below hvb (Nat.lt_of_lt_of_le HROW.out.lt HB4.out.size);have hboxV:ae V w4.heap.size 0 28 [.string (aa d.name),.int .i64 (d.kind:Nat),.int .i64 (d.at_:Nat),.int .i64 (d.size:Nat),.int .i64 d.val,.string (aa d.text),.slice g4 d.kids.len c4]:=by rw[hV];exact ae.new w4 _ _
     have k0:=hrV.cell 0 (by simp[Tm.bh]);have hd6:NdV V wr.heap.size b1 d (.agg ([.string (aa d.name),.int .i64 (d.kind:Nat),.int .i64 (d.at_:Nat),.int .i64 (d.size:Nat),.int .i64 d.val,.string (aa d.text),.slice g4 d.kids.len c4]).toArray):=hd.an fun g hg=>hvb.block g (hd.mem g hg).2
     have HD6:=hid hd6;have HO6:=hid (hown4.below hvb (Z5 _));have HBS6:=hid (show w.heap.size≤V.heap.size from Nat.le_trans HBS.out hvb.size);have HL6:=hid (show LR V b (.map (some fb)) s st4 from hl4.an (hvb.block b hl4.row.lt));have HBOX:=hid hboxV;have HSTEP:=hid (show bO S s (l.drop i) N2 st2=(bO S s (l.drop (i+1)) N4 st4).map fun q=>(d.put q.1,q.2) by rw[HDR.out,jC,hoh,HNX.out];rfl);have HNM6:=hid (show NmM V m n4 N4 from hN4.an (hvb.block m hN4.lt));have HB6:=hid (show But wr V b (some m)from hb4.trans (But.aA hvb));have HN6:=hid (show n4≤st4.n from hn44);have HV:=hid hV;simp only[Tm.au,Z0,Z1,Y2]at k0;rw[hV]at k0;clear hb4 hd hnd hl4 hat4 hn4 hat5 hn5 hoh hown4 hbx hrV hboxV hd6 hvb hN4 hn44;have r0:=HBOX.out.cell0 0 (by simp);have r1:=HBOX.out.cell0 1 (by simp);have r2:=HBOX.out.cell0 2 (by simp);have r3:=HBOX.out.cell0 3 (by simp);have r4:=HBOX.out.cell0 4 (by simp);have r5:=HBOX.out.cell0 5 (by simp);have r6:=HBOX.out.cell0 6 (by simp);simp only[Z0,Z1]at r0 r1 r2 r3 r4 r5 r6;rw[hV]at r0 r1 r2 r3 r4 r5 r6;clear hV;have hown5:=HO6.out;have hbase:=HBS6.out;obtain⟨hs1,hs2⟩:=fr (show i≤400 by have h1:=HL.out.few;have h2:=HL.out.rd.lr.few;omega)
     go_upto_region 11 with fail
     rw[← HV.out]at r0 r1 r2 r3 r4 r5 r6⊢;go_wp2_with (with_reducible refine bS V rfl _ _ 26 rfl w.heap.size 28 (.agg #[.string ByteArray.empty,.int .i64 0,.int .i64 0,.int .i64 0,.int .i64 0,.string ByteArray.empty,.slice none 0 0]) 7 88 Tryz.underlying26 de rfl (by decide) g7 i k7 _ rfl hown5 [.string (aa d.name),.int .i64 (d.kind:Nat),.int .i64 (d.at_:Nat),.int .i64 (d.size:Nat),.int .i64 d.val,.string (aa d.text),.slice g4 d.kids.len c4] rfl (by simp[Value.oneCell']) rfl hs1 hs2 hbase ?_;intro g8 k8 w6 hown6 hgrow6 hloc6 hsz6 hex6);have HL5:=hid (HL.out.push HSTEP.out HB6.out HL6.out HNM6.out HN6.out HD6.out HND.out HAT.out HNN.out hown6 hgrow6 (fun x hx=>hloc6 x hx));clear hown6 hgrow6 hloc6 hsz6 hex6 hs1 hs2 hbase hown5;clear r0 r1 r2 r3 r4 r5 r6;go_wp2_with fail;go_roundw
     case rel=>exact⟨i+1,_,st4,_,g8,k8,_,_,_,rfl,by first|rfl|rw[ff HL.out],by have:=HLT.out;omega,HL5⟩
     case measure=>(try rw[ff HL.out]);simp only[intOf];have:=HLT.out;omega
  ·have q1:decide ((i:Int) < (nl:Int))=false:=Y9 (by omega);have q2:decide (i < nl)=false:=Y9 hlt;have HEQ:=hid (show i=nl by omega);have HO2:=hid (show bO S s l N st=some (ks,N2,st2) by
    rw[HL.out.rep,HEQ.out,HNL.out,Tm.df];show some (ks.app .nil,N2,st2)=_;rw[Nds.fe])
   clear hlt hi;go_wp2_with fail;go_ret;refine⟨HL.out.but,?_⟩;rw[HO2.out];refine⟨⟨g7,k7,bl,vs,?_,HL.out.kv⟩,HL.out.rd.lr,⟨HL.out.at_,?_⟩,n2,HL.out.rd.nm,HL.out.rd.few⟩
   ·show _=Ending.returned (.slice g7 ks.len k7);rw[HL.out.len];rfl
   ·show st.n+ks.len≤st2.n;rw[HL.out.len];exact HL.out.few
end
end Go.Proofs.YtlomecfhobehnaaGreatDoor
