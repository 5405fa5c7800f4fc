import Derived.Deep.RegionHeld3
import Derived.Test.YtlomecfhobehnaaGreatDoorMgFixDrops2
set_option linter.all false
set_option maxRecDepth 100000
set_option maxHeartbeats 4000000
namespace Go.Proofs.YtlomecfhobehnaaGreatDoor
open Lib (hid)
section
open Go.RowKit
open Rd
namespace Rd
theorem uk(T:List Tok):(cd T).length=T.length * 2:=by
 induction T with
 |nil=>rfl
 |cons t T ih=>simp only[cd,List.flatMap_cons,Z7,Z6]at ih⊢;rw[ih];simp[fc];omega
theorem um:∀(T:List Tok) (k:Nat),k < T.length→(cd T)[k * 2]? =some (.string (aa (T.getD k ([],0)).1))∧(cd T)[k * 2+1]? =some (.int .i64 ((T.getD k ([],0)).2:Nat)):=by
 intro T
 induction T with
 |nil=>intro k h;simp at h
 |cons t T ih=>
  intro k h;have e:cd (t::T)=fc t++cd T:=by simp[cd]
  cases k with
  |zero=>rw[e];simp[fc]
  |succ k=>
   have:=ih k (by simpa using h);rw[e,List.getD_cons_succ,show(k+1) * 2=(fc t).length+k * 2 by simp[fc];omega,List.getElem?_append_right (by omega),show(fc t).length+k * 2+1=(fc t).length+(k * 2+1) by omega,List.getElem?_append_right (by omega)];simpa using this
theorem Cg{w:World}{B n cap rb:Nat}{a:Option Addr}{T:List Tok}(h:ak w B 162 2 a n cap (cd T))(hrb:w.heap.size≤rb):AF w rb a T:=by
 cases a with
 |none=>
  have h3:=h.aS.2.2;left;cases T with
  |nil=>rfl
  |cons t T=>simp[cd,fc]at h3
 |some x=>
  obtain⟨h1,h2,h3,h4,h5⟩:=h.row;refine .inr ⟨x.block,0,by rw[← h1],Nat.lt_of_lt_of_le h5.lt hrb,fun j hj=> ?_⟩;obtain⟨g1,g2⟩:=um T j hj;have hl:=uk T;have c1:=h5.cell0 (j * 2) (by omega);have c2:=h5.cell0 (j * 2+1) (by omega);rw[Y1 (by omega:j * 2 < (cd T).length)]at g1;rw[Y1 (by omega:j * 2+1 < (cd T).length)]at g2;rw[Nat.zero_add];exact⟨by rw[c1];exact g1,by rw[c2];exact g2⟩
theorem yS{w:World}{B n cap:Nat}{a:Option Addr}{T:List Tok}(h:ak w B 162 2 a n cap (cd T)):∀(W:World) (rb:Nat),w.heap.size≤rb→(∀k,B≤k→k < w.heap.size→W.heap[k]? =w.heap[k]?)→AF W rb a T:=by
 intro W rb hrb hW;rcases Cg h hrb with h1|⟨g,off,h1,h2,h3⟩
 ·exact .inl h1
 ·subst h1;have hb:=hW g h.lt.1 h.lt.2;exact .inr ⟨g,off,rfl,h2,fun j hj=>⟨(World.cell?_of_block (a:=⟨g,off+j * 2,none⟩) hb).trans (h3 j hj).1,(World.cell?_of_block (a:=⟨g,off+j * 2+1,none⟩) hb).trans (h3 j hj).2⟩⟩
theorem aW{w:World}{B n cap:Nat}{a:Option Addr}{xs:List Value}{size:Nat}{e:TypeId}(h:ak w B e size a n cap xs):n≤cap:=by
 cases a with
 |none=>have:=h.aS;omega
 |some x=>exact h.row.2.2.1
end Rd
theorem vL(s:List UInt8)(w:World)(hs:s.length≤3000)(hm:ej w)(hn:Lex.cZ s 0=none):
  Calls Tryz.prog 48 #[.string (aa s)] w fun e w'=>(∃g,e= .returned (.tuple #[.pointer none,.iface 120 (.pointer (some ⟨g,0,none⟩))]))∧Below w.heap.size w w':=by
 have hL:Calls Tryz.prog 84 #[.string (aa s)] w fun e w'=>(∃g,e= .returned (.tuple #[.slice none 0 0,.iface 120 (.pointer (some ⟨g,0,none⟩))]))∧Below w.heap.size w w':=(AE s w hs hm).mono fun e w' ⟨hb,h⟩=>by
  rcases h with⟨T,a,cap,h1,_⟩|⟨_,g,h2⟩
  ·rw[hn]at h1;cases h1
  ·exact⟨⟨g,h2⟩,hb⟩
 have HL:=hid hL;clear hL hs hm hn;go_enter Tryz.func48,Tryz.ntmps48;go_wp2_with fail;refine HL.out.mono ?_;rintro e w1 ⟨⟨g,rfl⟩,hb⟩;go_wp2_with fail;go_ret2;exact⟨⟨g,rfl⟩,hb⟩
theorem yT(s:List UInt8)(T:List Rd.Tok)(w:World)(hs:s.length≤3000)(hm:ej w)(hn:Lex.cZ s 0=some T):
  Calls Tryz.prog 48 #[.string (aa s)] w fun e w'=>∃rb,e= .returned (.tuple #[.pointer (some ⟨rb,0,none⟩),.nilIface])∧(∀W:World,(∀k,w.heap.size≤k→k < w'.heap.size→W.heap[k]? =w'.heap[k]?)→Rdr W rb T s.length)∧w.heap.size≤rb∧rb < w'.heap.size∧Below w.heap.size w w':=by
 have hL:Calls Tryz.prog 84 #[.string (aa s)] w fun e w'=>∃a cap,e= .returned (.tuple #[.slice a T.length cap,.nilIface])∧T.length≤cap∧(∀(W:World) (rb:Nat),w'.heap.size≤rb→(∀k,w.heap.size≤k→k < w'.heap.size→W.heap[k]? =w'.heap[k]?)→AF W rb a T)∧Below w.heap.size w w':=(AE s w hs hm).mono fun e w' ⟨hb,h⟩=>by
  rcases h with⟨T',a,cap,h1,h2,h3⟩|⟨h1,_⟩
  ·rw[hn]at h1;cases h1;exact⟨a,cap,h2,aW h3,yS h3,hb⟩
  ·rw[hn]at h1;cases h1
 have HL:=hid hL;clear hL hs hm hn;go_enter Tryz.func48,Tryz.ntmps48;go_wp2_with fail;refine HL.out.mono ?_;rintro e w1 ⟨a,cap,rfl,hc,ht,hb⟩;have hrow:=ae.new w1 157 #[.slice a T.length cap,.int .i64 (s.length:Nat)];have hb2:=(Y4 w1.heap.size w1).alloc (Z5 _) (.cells #[.slice a T.length cap,.int .i64 (s.length:Nat)] 157);have HR:Hid ((∀W:World,(∀k,w.heap.size≤k→k < (w1.alloc (.cells #[.slice a T.length cap,.int .i64 (s.length:Nat)] 157)).heap.size→W.heap[k]? =(w1.alloc (.cells #[.slice a T.length cap,.int .i64 (s.length:Nat)] 157)).heap[k]?)→Rdr W w1.heap.size T s.length)∧w.heap.size≤w1.heap.size∧w1.heap.size < (w1.alloc (.cells #[.slice a T.length cap,.int .i64 (s.length:Nat)] 157)).heap.size∧Below w.heap.size w (w1.alloc (.cells #[.slice a T.length cap,.int .i64 (s.length:Nat)] 157))):=hid ⟨fun W hW=>⟨a,cap,hrow.of_heap (hW w1.heap.size hb.size (by simp)),hc,ht W w1.heap.size (Z5 _) fun k h1 h2=>(hW k h1 (by simp;omega)).trans (hb2.block k h2)⟩,hb.size,by simp,hb.trans (hb2.mono hb.size)⟩;clear hrow hb2 hc ht hb;go_wp2_with fail;go_ret2;exact⟨_,rfl,HR.out⟩
theorem fI(pb:Nat)(x:Value)(g:Nat)(older:List PanicEntry)(w:World)(hc:w.cell? ⟨pb,0,none⟩=some x)(hz:w.frozen? ⟨pb,0,none⟩=false)(hp:pb < w.heap.size):
  CallsD Tryz.prog 49 #[.pointer (some ⟨pb,0,none⟩)] (.panicking ({v:= .iface 159 (.agg #[.iface 120 (.pointer (some ⟨g,0,none⟩))]),recovered:=false}::older)) w fun e u' w'=>
   e= .returned (.tuple #[])∧u'= .panicking ({v:= .iface 159 (.agg #[.iface 120 (.pointer (some ⟨g,0,none⟩))]),recovered:=true}::older)∧∃o,w'=(w.setCell ⟨pb,0,none⟩ (.iface 120 (.pointer (some ⟨g,0,none⟩)))).alloc o:=by
 refine callsD_of_wpS Tryz.func49 rfl fun c₀ cs hu=> ?_
 simp only[Tryz.ntmps49,List.size_toArray,Z6,Y3,Nat.reduceAdd,Nat.reduceSub,Array.replicate_succ,Array.replicate_zero,List.push_toArray,List.append_toArray,List.nil_append,List.cons_append];apply wpS_seq;apply wpS_region;simp[wpOpsS,go_sem,recoverD,hu,Tryz.ntmps49,Exit.thenS];refine wpS_of_wp ?_;have hta:∀V:World,(Instr.typeAssert (.iface 159 (.agg #[.iface 120 (.pointer (some ⟨g,0,none⟩))])) 20 159 true).run Tryz.prog V= .ok (.tuple #[.agg #[.iface 120 (.pointer (some ⟨g,0,none⟩))],.bool true]) V:=fun V=>by kernel_rfl
 go_wp2_with fail;exact⟨rfl,_,rfl,.tuple #[],results_none rfl _ _ _,rfl,rfl,_,rfl⟩
theorem yU(pb:Nat)(w:World):
  CallsD Tryz.prog 49 #[.pointer (some ⟨pb,0,none⟩)] .returning w fun e u' w'=>e= .returned (.tuple #[])∧u'= .returning∧w'=w:=by
 refine callsD_of_wpS Tryz.func49 rfl fun c₀ cs hu=> ?_
 simp only[Tryz.ntmps49,List.size_toArray,Z6,Y3,Nat.reduceAdd,Nat.reduceSub,Array.replicate_succ,Array.replicate_zero,List.push_toArray,List.append_toArray,List.nil_append,List.cons_append];apply wpS_seq;apply wpS_region;simp[wpOpsS,go_sem,recoverD,hu,Tryz.ntmps49,Exit.thenS];refine wpS_of_wp ?_;go_wp2_with fail;cases c₀
 simp_all[bodyPostS,results,Tryz.results49]
end
section
open Go.RowKit
open Rd
open Ex (X)
theorem IsX.mono{w:World}{rb rb':Nat}(h:rb'≤rb):∀(x:X) (b:Nat),IsX w rb b x→IsX w rb' b x
 | .num a n,b,hx=>⟨Nat.lt_of_le_of_lt h hx.1,hx.2⟩
 | .name a s,b,hx=>⟨Nat.lt_of_le_of_lt h hx.1,hx.2⟩
 | .bin a op l r,b,hx=>by
  obtain⟨bl,br,h1,h2,h3,h4⟩:=hx;exact⟨bl,br,Nat.lt_of_le_of_lt h h1,h2,IsX.mono h l bl h3,IsX.mono h r br h4⟩
structure PS(w w2:World)(rb:Nat)(T:List Rd.Tok)(E:Nat):Prop where
 rd:Rdr w2 rb T E
 env:Env w2 rb
 box:ae w2 w.heap.size 0 30 [.nilIface]
 lt:w.heap.size < rb
 bel:Below w.heap.size w w2
theorem PS.mk'{w w1:World}{rb:Nat}{T:List Rd.Tok}{E:Nat}(he:Env w w.heap.size)(hr:∀W:World,(∀k,(w.alloc (.cells #[.nilIface] 30)).heap.size≤k→k < w1.heap.size→W.heap[k]? =w1.heap[k]?)→Rdr W rb T E)(h1:(w.alloc (.cells #[.nilIface] 30)).heap.size≤rb)(hb:Below (w.alloc (.cells #[.nilIface] 30)).heap.size (w.alloc (.cells #[.nilIface] 30)) w1):
  PS w (w1.setCell ⟨w.heap.size,0,none⟩ .nilIface) rb T E:=by
 have hbox:=(ae.new w 30 #[.nilIface]).below hb (by simp);have hbb:Below w.heap.size w w1:=((Y4 _ w).alloc (Z5 _) _).trans (hb.mono (by simp));have hset:=Below.setCell (p:=⟨w.heap.size,0,none⟩) hbb (Z5 _) .nilIface;simp only[World.size_alloc]at h1 hr;have key:∀(p:Addr),p.block < w.heap.size→(w1.setCell ⟨w.heap.size,0,none⟩ .nilIface).cell? p=w.cell? p:=fun p h=>hset.cell (p:=p) h
 refine⟨hr _ fun k hk _=>Below.heap_setCell w1 ⟨w.heap.size,0,none⟩ .nilIface k (by show k≠w.heap.size;omega),⟨⟨by have:=he.lv.1;omega,fun k hk=> ?_⟩,(key ⟨_,0,none⟩ he.eb).trans he.er,by have:=he.eb;omega⟩,hbox.ax 0 (by simp) .nilIface,by omega,hset⟩;obtain⟨gk,ck,e1,e2,e3⟩:=he.lv.2 k hk;exact⟨gk,ck,(key ⟨_,k,none⟩ he.lv.1).trans e1,by omega,fun j hj=>(key (gk.add j) (by rw[Addr.cH];exact e2)).trans (e3 j hj)⟩
end
section
open Go.RowKit
open Rd
open Ex (X levels)
theorem vM(k:Nat)(hk:k < 3)(a b c:Value)(w:World):(Instr.index 237 (.agg #[a,b,c]) (.int .i64 (k:Nat))).run Tryz.prog w= .ok (match k with|0=>a|1=>b|_=>c) w:=by
 rcases(by omega:k=0∨k=1∨k=2)with rfl|rfl|rfl
 ·kernel_rfl
 ·kernel_rfl
 ·kernel_rfl
structure Tab(w:World)(g:Nat→Addr)(c:Nat→Nat):Prop where
 cell:∀k,k < 3→w.cell? ⟨2,k,none⟩=some (.slice (some (g k)) (levels k).length (c k))
 row:∀k,k < 3→∀j,j < (levels k).length→w.cell? ((g k).add j)=some (.string (aa ((levels k).getD j [])))
theorem Jq{w:World}{rb:Nat}(h:da w rb):∃g c,Tab w g c:=by
 obtain⟨g0,c0,h0,_,r0⟩:=h.2 0 (by omega);obtain⟨g1,c1,h1,_,r1⟩:=h.2 1 (by omega);obtain⟨g2,c2,h2,_,r2⟩:=h.2 2 (by omega);refine⟨fun k=>match k with|0=>g0|1=>g1|_=>g2,fun k=>match k with|0=>c0|1=>c1|_=>c2,fun k hk=> ?_,fun k hk=> ?_⟩
 ·rcases(by omega:k=0∨k=1∨k=2)with rfl|rfl|rfl
  ·exact h0
  ·exact h1
  ·exact h2
 ·rcases(by omega:k=0∨k=1∨k=2)with rfl|rfl|rfl
  ·exact r0
  ·exact r1
  ·exact r2
def iK(g:Nat→Addr)(c:Nat→Nat)(k:Nat):Value:= .slice (some (g k)) (levels k).length (c k)
theorem Ch{w:World}{g:Nat→Addr}{c:Nat→Nat}(h:Tab w g c):∀j v,(#[iK g c 0,iK g c 1,iK g c 2]:Array Value).toList[j]? =some v→w.cell? ⟨2,j,none⟩=some v:=by
 intro j v hv;have hj:j < 3:=by
  rcases Nat.lt_or_ge j 3 with h|h
  ·exact h
  ·rw[List.getElem?_eq_none (by simpa using h)]at hv;cases hv
 rcases(by omega:j=0∨j=1∨j=2)with rfl|rfl|rfl
 ·cases hv;exact h.cell 0 (by omega)
 ·cases hv;exact h.cell 1 (by omega)
 ·cases hv;exact h.cell 2 (by omega)
theorem Ci(g:Nat→Addr)(c:Nat→Nat)(k:Nat)(hk:k < 3)(w:World):(Instr.index 237 (.agg #[iK g c 0,iK g c 1,iK g c 2]) (.int .i64 (k:Nat))).run Tryz.prog w= .ok (.slice (some (g k)) (levels k).length (c k)) w:=by
 rw[vM k hk];rcases(by omega:k=0∨k=1∨k=2)with rfl|rfl|rfl <;> rfl
theorem uo(op:List UInt8)(h:∀k,k < 3→op∉levels k):Ex.aG op=3:=by
 unfold Ex.aG;rw[if_neg (h 0 (by omega)),if_neg (h 1 (by omega)),if_neg (h 2 (by omega))]
theorem pW(b:Nat)(code:Int)(op:List UInt8)(g:Nat→Addr)(c:Nat→Nat)(w:World)(hT:Tab w g c)(h0:w.cell? ⟨b,0,none⟩=some (.int .i64 code))(h4:w.cell? ⟨b,4,none⟩=some (.string (aa op))):
  Calls Tryz.prog 134 #[.pointer (some ⟨b,0,none⟩)] w fun e w'=>e= .returned (.int .i64 ((if code=3 then Ex.aG op else 3:Nat):Int))∧w'=w:=by
 obtain⟨R,hR⟩:∃R,R=(if code=3 then Ex.aG op else 3):=⟨_,rfl⟩;have HR:=hid hR;rw[← hR];have HT:=hid hT;obtain⟨is3,h3⟩:∃is3:Bool,is3=(code==3):=⟨_,rfl⟩;have H3:=hid h3;have e3:(code==3)=is3:=h3.symm;clear hR hT h3;go_enter Tryz.func134,Tryz.ntmps134;go_wp2_with (with_reducible refine gP rfl 237 _ rfl 2 rfl #[iK g c 0,iK g c 1,iK g c 2] _ (Ch HT.out) Tryz.underlying237 rfl rfl ?_);go_loop [8] (fun v8=>∃k:Nat,v8= .int .i64 k∧k≤3∧Hid (is3=true→∀i,i < k→op∉levels i)) (fun v8=>3 - (intOf v8).toNat)
 case atStart=>exact⟨0,rfl,by omega,hid (fun _ i hi=>by omega)⟩
 case round=>
  obtain⟨k,rfl,hk,HK⟩:=hrel
  by_cases hlt:k < 3
  ·have d1:decide ((k:Int) < 3)=true:=Z9 (by omega);have d1n:decide (k < 3)=true:=Z9 hlt;have hidx:=Ci g c k hlt;have hrow:=HT.out.row k hlt;obtain⟨n,hn⟩:∃n,n=(levels k).length:=⟨_,rfl⟩;have hn4:n≤4:=by rw[hn];exact lW k
   rw[← hn]at hidx hrow;have HN:=hid hn;have HLT:=hid hlt;have HROW:=hid hrow;clear hn hlt hrow;go_wp2_with fail;go_loop [14] (fun v14=>∃j:Nat,v14= .int .i64 j∧j≤n∧Hid (is3=true→∀i,i < j→(levels k).getD i []≠op)) (fun v14=>n - (intOf v14).toNat)
   case atStart=>exact⟨0,rfl,by omega,hid (fun _ i hi=>by omega)⟩
   case round=>
    obtain⟨j,rfl,hj,HJ⟩:=hrel
    by_cases hjt:j < n
    ·have d2:decide ((j:Int) < (n:Int))=true:=Z9 (by omega);have d2n:decide (j < n)=true:=Z9 hjt;have hji:(j:Int) < (n:Int):=by omega
     have cj:=HROW.out j hjt;obtain⟨sj,hsj⟩:∃sj,sj=(levels k).getD j []:=⟨_,rfl⟩;have hsm:=(sJ k j (by rw[← HN.out];exact hjt)).2;rw[← hsj]at cj hsm;have HSJ:=hid hsj;have HSM:=hid hsm;have HJT:=hid hjt;clear hsj hsm hjt;cases is3 with
     |true=>
      by_cases hh:op=sj
      ·subst hh;have hRk:R=k:=by
        rw[HR.out,if_pos (by have:=H3.out;exact beq_iff_eq.1 this.symm)];exact(Ex.cJ k _ HSM.out).2.1
       have HRK:=hid hRk;clear hRk;go_wp2_with fail;go_ret;exact⟨by rw[HRK.out];rfl,rfl⟩
      ·have hne:(op==sj)=false:=by rw[Z8];exact hh
       have HNE:Hid (true=true→∀i,i < j+1→(levels k).getD i []≠op):=hid fun _ i hi=>by
        by_cases e:i=j
        ·rw[e,← HSJ.out];exact fun e=>hh e.symm
        ·exact HJ.out rfl i (by omega)
       clear hh;go_wp2_with fail;go_round
       case rel=>exact⟨j+1,by go_num,by have:=HJT.out;omega,hid (fun _=>HNE.out rfl)⟩
       case measure=>simp[intOf];have:=HJT.out;omega
     |false=>
      go_wp2_with fail;go_round
      case rel=>exact⟨j+1,by go_num,by have:=HJT.out;omega,hid (by intro h;cases h)⟩
      case measure=>simp[intOf];have:=HJT.out;omega
    ·obtain rfl:j=n:=by omega
     have d2:decide ((j:Int) < (j:Int))=false:=by simp
     go_wp2_with fail;go_round
     case rel=>
      refine⟨k+1,by go_num,by have:=HLT.out;omega,hid (fun h i hi=> ?_)⟩
      by_cases e:i=k
      ·rw[e];exact pV (fun a ha=>HJ.out h a (by rw[HN.out];exact ha))
      ·exact HK.out h i (by omega)
     case measure=>simp[intOf];have:=HLT.out;omega
  ·obtain rfl:k=3:=by omega
   have hR3:R=3:=by
    rw[HR.out];split
    ·rename_i h
     exact uo op (fun i hi=>HK.out (by rw[H3.out];exact beq_iff_eq.2 h) i hi)
    ·rfl
   have HR3:=hid hR3;clear hR3;go_wp2_with fail;go_ret;exact⟨by rw[HR3.out];rfl,rfl⟩
theorem EF{w:World}{rb b:Nat}{x:X}(hl:da w rb)(h:IsX w rb b x):Calls Tryz.prog 134 #[.pointer (some ⟨b,0,none⟩)] w fun e w'=>e= .returned (.int .i64 ((Ex.hold x:Nat):Int))∧w'=w:=by
 obtain⟨g,c,hT⟩:=Jq hl;cases x with
 |num a n=>
  have c0:=h.2.cell0 0 (by simp);have c4:=h.2.cell0 4 (by simp);exact pW b 1 [] g c w hT c0 c4
 |name a s=>
  have c0:=h.2.cell0 0 (by simp);have c4:=h.2.cell0 4 (by simp);exact pW b 2 [] g c w hT c0 c4
 |bin a op l r=>
  obtain⟨bl,br,h1,h2,_⟩:=h;have c0:=h2.cell0 0 (by simp);have c4:=h2.cell0 4 (by simp);exact pW b 3 op g c w hT c0 c4
def pX(x:X):Prop:=∀(w:World) (rb b:Nat),da w rb→rb≤w.heap.size→IsX w rb b x→(Ex.pr Num.dec x).length≤1000000→
 Calls Tryz.prog 108 #[.pointer (some ⟨b,0,none⟩)] w fun e w'=>e= .returned (.string (aa (Ex.pr Num.dec x)))∧Below w.heap.size w w'
def partOf(x:X)(least:Nat):List UInt8:=if Ex.hold x < least then 40::(Ex.pr Num.dec x++[41])else Ex.pr Num.dec x
theorem vN(x:X)(least:Nat)(w:World)(rb b:Nat)(h:pX x)(hl:da w rb)(hrb:rb≤w.heap.size)(hx:IsX w rb b x)(hp:(Ex.pr Num.dec x).length≤1000000)(h4:least≤4):
  Calls Tryz.prog 135 #[.pointer (some ⟨b,0,none⟩),.int .i64 (least:Nat)] w fun e w'=>e= .returned (.string (aa (partOf x least)))∧Below w.heap.size w w':=by
 have HH:=hid (EF hl hx);have HT:=hid (h w rb b hl hrb hx hp);unfold partOf;generalize Ex.hold x=k at *
 generalize Ex.pr Num.dec x=s at *
 clear h hl hrb hx;have z1:¬9223372036854775807 < 1+s.length:=by omega
 have z2:¬9223372036854775807 < 1+s.length+1:=by omega
 have z3:¬9223372036854775807 < s.length+1+1:=by omega
 have z4:¬9223372036854775807 < s.length+1:=by omega
 by_cases hk:k < least
 ·have d1:decide ((k:Int) < (least:Int))=true:=Z9 (by omega);have d1n:decide (k < least)=true:=Z9 hk;rw[if_pos hk];clear hk;go_enter Tryz.func135,Tryz.ntmps135;go_wp2_with fail;refine HH.out.mono ?_;rintro e w1 ⟨rfl,rfl⟩;go_wp2_with fail;refine HT.out.mono ?_;rintro e w2 ⟨rfl,hb⟩;go_wp2_with fail;go_ret;exact⟨rfl,hb⟩
 ·have d1:decide ((k:Int) < (least:Int))=false:=Y9 (by omega);have d1n:decide (k < least)=false:=Y9 hk;rw[if_neg hk];clear hk;go_enter Tryz.func135,Tryz.ntmps135;go_wp2_with fail;refine HH.out.mono ?_;rintro e w1 ⟨rfl,rfl⟩;go_wp2_with fail;refine HT.out.mono ?_;rintro e w2 ⟨rfl,hb⟩;go_wp2_with fail;go_ret;exact⟨rfl,hb⟩
end
section
namespace Ex
variable{num:js}{dec:Dec}{E:Nat}
def Stop(k:Nat)(R:List Tok):Prop:=∀t T',R=t::T'→∀j,k≤j→t.1∉levels j
theorem Stop.mono{k j:Nat}{R:List Tok}(h:Stop k R)(hj:k≤j):Stop j R:=fun t T' e i hi=>h t T' e i (by omega)
theorem Stop.done{k:Nat}{R:List Tok}(h:Stop k R)(x:X)(d:Nat):Par num E (.loop k x) d R (.ok x R):= .done fun t T' e=>h t T' e k (Z5 _)
theorem sK(k:Nat)(u:Tok)(R:List Tok)(h:u.1=[41]):Stop k (u::R):=by
 intro t T' e j _ hm;cases e;rw[h]at hm;exact absurd (cJ j _ hm).1 (by
  intro _;have:=(cJ j _ hm).2.1;have h2:=(cJ j _ hm).2.2;have h3:aG [41]=3:=by decide
  omega)
theorem GY(k:Nat)(u:Tok)(R:List Tok)(h:aG u.1 < k):Stop k (u::R):=by
 intro t T' e j hj hm;cases e;have:=(cJ j _ hm).2.1;omega
theorem lift{T R:List Tok}{y:X}{d:Nat}:∀(n k j:Nat),j=k+n→j≤2→Stop (k+1) R→(∀o,Par num E (.loop j y) d R o→Par num E (.lev j) d T o)→∀o,Par num E (.loop k y) d R o→Par num E (.lev k) d T o
 |0,k,j,hj,_,_,h,o,ho=>by subst hj;exact h o ho
 |n+1,k,j,hj,h2,hs,h,o,ho=>by
  have:=lift n (k+1) j (by omega) h2 (hs.mono (by omega)) h (.ok y R) (hs.done y d);exact .lev (by omega) this ho
theorem EG{T R:List Tok}{y:X}{d k:Nat}(hk:k≤2)(hs:Stop (k+1) R)(h:Par num E .one d T (.ok y R)):∀o,Par num E (.loop k y) d R o→Par num E (.lev k) d T o:=
 lift (2 - k) k 2 (by omega) (by omega) hs fun o ho=> .lev (by omega) (.top h) ho
def Bk(num:js)(dec:Dec)(E:Nat)(x:X):Prop:=∀(d:Nat) (S R:List Tok) (k:Nat),d+aZ dec x≤8→S.map Prod.fst=pt dec x→k≤2→k≤hold x→Stop (k+1) R→
 ∃y,gI x y∧∀o,Par num E (.loop k y) d R o→Par num E (.lev k) d (S++R) o
def Bk3(num:js)(dec:Dec)(E:Nat)(x:X):Prop:=∀(d:Nat) (S R:List Tok),S.map Prod.fst=pt dec x→3≤hold x→∃y,gI x y∧Par num E .one d (S++R) (.ok y R)
theorem pY{x:X}(h:Bk num dec E x){d:Nat}{S R:List Tok}(hd:d+(aZ dec x+1)≤8)(hS:S.map Prod.fst=[40]::(pt dec x++[[41]])):∃y,gI x y∧Par num E .one d (S++R) (.ok y R):=by
 obtain⟨a,S1,rfl,ha,h1⟩:=List.map_eq_cons_iff.1 hS;obtain⟨S2,S3,rfl,h2,h3⟩:=List.map_eq_append_iff.1 h1;obtain⟨b,S4,rfl,hb,h4⟩:=List.map_eq_cons_iff.1 h3;obtain rfl:=List.map_eq_nil_iff.1 h4;obtain⟨y,hy,hp⟩:=h (d+1) S2 (b::R) 0 (by omega) h2 (by omega) (by omega) (sK 1 b R hb);refine⟨y,hy,?_⟩;have:=hp _ ((sK 0 b R hb).done y (d+1));have e:(a::(S2++[b]))++R=a::(S2++b::R):=by simp
 rw[e];exact .paren ha (by omega) this hb
theorem sL{x:X}(h:Bk num dec E x)(h3:Bk3 num dec E x){d least:Nat}{S R:List Tok}(hd:d+(if hold x < least then aZ dec x+1 else aZ dec x)≤8)(hS:S.map Prod.fst=if hold x < least then [40]::(pt dec x++[[41]])else pt dec x)(hl:least≤3):
  (∀k,k≤2→k≤least→Stop (k+1) R→∃y,gI x y∧∀o,Par num E (.loop k y) d R o→Par num E (.lev k) d (S++R) o)∧(∀k,k≤3→k≤least→Stop k R→∃y,gI x y∧Par num E (.lev k) d (S++R) (.ok y R)):=by
 have key:∀k,k≤2→k≤least→Stop (k+1) R→∃y,gI x y∧∀o,Par num E (.loop k y) d R o→Par num E (.lev k) d (S++R) o:=by
  intro k hk hkl hs
  by_cases hp:hold x < least
  ·rw[if_pos hp]at hd hS;obtain⟨y,hy,ho⟩:=pY h hd hS (R:=R);exact⟨y,hy,EG hk hs ho⟩
  ·rw[if_neg hp]at hd hS;exact h d S R k hd hS hk (by omega) hs
 refine⟨key,fun k hk hkl hs=> ?_⟩
 by_cases hk2:k≤2
 ·obtain⟨y,hy,ho⟩:=key k hk2 hkl (hs.mono (by omega));exact⟨y,hy,ho _ (hs.done y d)⟩
 ·obtain rfl:k=3:=by omega
  by_cases hp:hold x < least
  ·rw[if_pos hp]at hd hS;obtain⟨y,hy,ho⟩:=pY h hd hS (R:=R);exact⟨y,hy,.top ho⟩
  ·rw[if_neg hp]at hS;obtain⟨y,hy,ho⟩:=h3 d S R hS (by omega);exact⟨y,hy,.top ho⟩
theorem AI{S:List Tok}{t:List UInt8}(h:S.map Prod.fst=[t]):∃a,S=[(t,a)]:=by
 obtain⟨a,S1,rfl,ha,h1⟩:=List.map_eq_cons_iff.1 h;obtain rfl:=List.map_eq_nil_iff.1 h1;exact⟨a.2,by rw[← ha]⟩
theorem vO{l:List UInt8}(h1:l≠[])(h2:∀c∈l,Lex.digit c.toNat=true):∃c r,l=c::r∧Lex.digit c.toNat=true:=by
 cases l with
 |nil=>exact absurd rfl h1
 |cons c r=>exact⟨c,r,rfl,h2 c (by simp)⟩
theorem back:∀x:X,kK num dec x→Bk num dec E x∧Bk3 num dec E x
 | .num a n,h=>by
  have key:Bk3 num dec E (.num a n):=by
   intro d S R hS _;obtain⟨b,rfl⟩:=AI hS;obtain⟨c,r,hc,hd⟩:=vO h.1 h.2.1;exact⟨.num b n,.num a b n,.num (t:=(dec n,b)) hc hd h.2.2⟩
  refine⟨fun d S R k _ hS hk _ hs=> ?_,key⟩;obtain⟨y,hy,ho⟩:=key d S R hS (Z5 _);exact⟨y,hy,EG hk hs ho⟩
 | .name a s,h=>by
  have key:Bk3 num dec E (.name a s):=by
   intro d S R hS _;obtain⟨b,rfl⟩:=AI hS;obtain⟨c,r,hc,hd⟩:=h.2.2.2;exact⟨.name b s,.name a b s,.name (t:=(s,b)) hc hd h.2.1⟩
  refine⟨fun d S R k _ hS hk _ hs=> ?_,key⟩;obtain⟨y,hy,ho⟩:=key d S R hS (Z5 _);exact⟨y,hy,EG hk hs ho⟩
 | .bin a op l r,h=>by
  obtain⟨h1,h2,h3⟩:=h;obtain⟨bl,bl3⟩:=back l h2;obtain⟨br,br3⟩:=back r h3;refine⟨fun d S R k hd hS hk hkh hs=> ?_,fun d S R hS h9=>absurd h9 (by show ¬3≤aG op;omega)⟩;have hkh':k≤aG op:=hkh;unfold pt at hS;unfold aZ at hd;obtain⟨SL,S1,rfl,hl,h4⟩:=List.map_eq_append_iff.1 hS;obtain⟨t,SR,rfl,ht,hr⟩:=List.map_eq_cons_iff.1 h4;have hdl:d+(if hold l < aG op then aZ dec l+1 else aZ dec l)≤8:=by
   have:=Nat.le_max_left (if hold l < aG op then aZ dec l+1 else aZ dec l) (if hold r < aG op+1 then aZ dec r+1 else aZ dec r);omega
  have hdr:d+(if hold r < aG op+1 then aZ dec r+1 else aZ dec r)≤8:=by
   have:=Nat.le_max_right (if hold l < aG op then aZ dec l+1 else aZ dec l) (if hold r < aG op+1 then aZ dec r+1 else aZ dec r);omega
  have hop:=lV op h1;obtain⟨yl,syl,cl⟩:=(sL bl bl3 (R:=t::(SR++R)) hdl hl (by omega)).1 (aG op) (by omega) (Z5 _) (GY _ t _ (by rw[ht];omega));obtain⟨yr,syr,cr⟩:=(sL br br3 (R:=R) hdr hr (by omega)).2 (aG op+1) (by omega) (Z5 _) (hs.mono (by omega));refine⟨.bin t.2 op yl yr,.bin a t.2 op syl syr,?_⟩;have e:(SL++t::SR)++R=SL++t::(SR++R):=by simp
  rw[e];refine lift (aG op - k) k (aG op) (by omega) (by omega) hs fun o ho=>cl o ?_
  refine .more (by rw[ht];exact hop) cr ?_;rw[ht];exact ho
theorem Cj{c:Cat}{d:Nat}{T:List Tok}{o:Out}(h:Par num E c d T o):d≤8→∀x R,o= .ok x R→(∀k y,c= .loop k y→k < 3∧d+(if hold y < k then aZ dec y+1 else aZ dec y)≤8)→
  d+(if hold x < (match c with| .lev k=>k| .loop k _=>k| .one=>3)then aZ dec x+1 else aZ dec x)≤8:=by
 induction h with
 |top _ ih=>intro h8 x R e _;exact ih h8 x R e (by intro k y e;cases e)
 |@lev k d T T' y o hk _ _ ih1 ih2=>
  intro h8 x R e _;have h1:=ih1 h8 _ _ rfl (by intro k y e;cases e);refine ih2 h8 x R e ?_;intro k' y' e';cases e';refine⟨hk,?_⟩;simp only at h1;split at h1 <;> split <;> omega
 |gZ=>intro h8 x R e;cases e
 |done _=>intro h8 x R e h;cases e;exact(h _ _ rfl).2
 |@more k y d t T T' z o ht _ _ ih1 ih2=>
  intro h8 x R e h;have h1:=ih1 h8 _ _ rfl (by intro k y e;cases e);obtain⟨hk,h2⟩:=h _ _ rfl;refine ih2 h8 x R e ?_;intro k' y' e';cases e';refine⟨hk,?_⟩;have ho:=(cJ k _ ht).2.1;have e1:hold (.bin t.2 t.1 y z)=k:=ho;have e2:aZ dec (.bin t.2 t.1 y z)=max (if hold y < k then aZ dec y+1 else aZ dec y) (if hold z < k+1 then aZ dec z+1 else aZ dec z):=by
   rw[← ho];rfl
  rw[e1,e2,if_neg (Nat.lt_irrefl _)];simp only at h1;generalize(if hold y < k then aZ dec y+1 else aZ dec y)=u at h2⊢;generalize(if hold z < k+1 then aZ dec z+1 else aZ dec z)=v at h1⊢;omega
 |dQ=>intro h8 x R e;cases e
 |@paren d t T u T' y h1 h2 _ _ ih=>
  intro h8 x R e _;cases e;have:=ih (by omega) _ _ rfl (by intro k y e;cases e);simp only[Nat.not_lt_zero,if_false]at this;show d+(if hold y < 3 then aZ dec y+1 else aZ dec y)≤8;split <;> omega
 |bK=>intro h8 x R e;cases e
 |cz=>intro h8 x R e;cases e
 |deep=>intro h8 x R e;cases e
 |name=>intro h8 x R e _;cases e;simp only[hold,aZ,Nat.lt_irrefl,if_false];omega
 |cA=>intro h8 x R e;cases e
 |none=>intro h8 x R e;cases e
 |mark=>intro h8 x R e;cases e
 |num=>intro h8 x R e _;cases e;simp only[hold,aZ,Nat.lt_irrefl,if_false];omega
 |ed=>intro h8 x R e;cases e
theorem Ck(hnum:∀l n,num l= .inl n→dec n≠[]∧(∀c∈dec n,Lex.digit c.toNat=true)∧num (dec n)= .inl n){c:Cat}{d:Nat}{T:List Tok}{o:Out}(h:Par num E c d T o):∀x R,o= .ok x R→(∀t∈T,∀c r,t.1=c::r→Lex.word c=true→∀b∈t.1,Lex.word b=true)→(∀k y,c= .loop k y→kK num dec y)→kK num dec x:=by
 induction h with
 |top _ ih=>intro x R e hT _;exact ih x R e hT (by intro k y e;cases e)
 |@lev k d T T' y o hk hp _ ih1 ih2=>
  intro x R e hT _;have hs:=(hp.less _ _ rfl).1;exact ih2 x R e (fun t ht=>hT t (hs.subset ht)) (by intro k' y' e';cases e';exact ih1 _ _ rfl hT (by intro k y e;cases e))
 |gZ=>intro x R e;cases e
 |done _=>intro x R e _ h;cases e;exact h _ _ rfl
 |@more k y d t T T' z o ht hp _ ih1 ih2=>
  intro x R e hT h;have hs:=(hp.less _ _ rfl).1;refine ih2 x R e (fun u hu=>hT u (List.mem_cons_of_mem _ (hs.subset hu))) ?_;intro k' y' e';cases e';have hm:=cJ k _ ht;refine⟨by rw[hm.2.1];exact hm.2.2,h _ _ rfl,ih1 _ _ rfl (fun u hu=>hT u (by simp[hu])) (by intro k y e;cases e)⟩
 |dQ=>intro x R e;cases e
 |paren _ _ _ _ ih=>
  intro x R e hT _;cases e;exact ih _ _ rfl (fun u hu=>hT u (by simp[hu])) (by intro k y e;cases e)
 |bK=>intro x R e;cases e
 |cz=>intro x R e;cases e
 |deep=>intro x R e;cases e
 |@name d t T c r h1 h2 h3=>
  intro x R e hT _;cases e;exact⟨by rw[h1];simp,h3,hT t (by simp) c r h1 (by unfold Lex.word;rw[h2,Bool.true_or]),c,r,h1,h2⟩
 |cA=>intro x R e;cases e
 |none=>intro x R e;cases e
 |mark=>intro x R e;cases e
 |num h1 h2 h3=>intro x R e _ _;cases e;exact hnum _ _ h3
 |ed=>intro x R e;cases e
end Ex
namespace Ex
theorem EH:∀l n,Num.numOf l= .inl n→Num.dec n≠[]∧(∀c∈Num.dec n,Lex.digit c.toNat=true)∧Num.numOf (Num.dec n)= .inl n:=by
 intro l n h;have hn:=Num.pN h;refine⟨Num.Er n (by omega),fun c hc=> ?_,Num.sG n hn⟩;have:=(Num.lh n c hc).2;unfold Lex.digit;exact Z9 this
theorem words:∀(n:Nat) (l:List UInt8) (i:Nat) (T:List Tok),l.length≤n→Lex.cZ l i=some T→∀t∈T,t.1≠[]∧∀c r,t.1=c::r→Lex.word c=true→∀b∈t.1,Lex.word b=true:=by
 intro n
 induction n with
 |zero=>
  intro l i T h hT;obtain rfl:=List.eq_nil_of_length_eq_zero (Nat.le_zero.1 h);rw[Lex.jr]at hT;cases hT;intro t ht;cases ht
 |succ n ih=>
  intro l i T h hT;cases l with
  |nil=>rw[Lex.jr]at hT;cases hT;intro t ht;cases ht
  |cons c l=>
   rw[Z6]at h
   by_cases h1:c=32∨c=10∨c=9
   ·rw[Lex.fX c l i h1]at hT;exact ih l _ T (by omega) hT
   ·by_cases h2:c=35
    ·subst h2;rw[Lex.nz]at hT;exact ih _ _ T (by rw[List.length_drop,Z6];have:=Lex.jq l;omega) hT
    ·by_cases h3:Lex.next (c::l)=0
     ·rw[Lex.pF c l i h1 h2 h3]at hT;cases hT
     ·rw[Lex.lS c l i h1 h2 h3,Option.map_eq_some_iff]at hT;obtain⟨T',hT',rfl⟩:=hT;intro t ht;rcases List.mem_cons.1 ht with rfl|ht
      ·constructor
       ·intro e;have:=congrArg List.length e;rw[List.length_take,Z6,Y3]at this;omega
       ·intro d r hd hw b hb;have hdc:d=c:=by
         obtain⟨k,hk⟩:∃k,Lex.next (c::l)=k+1:=⟨Lex.next (c::l) - 1,by omega⟩;simp only[hk,List.take_succ_cons]at hd;cases hd;rfl
        subst hdc;simp only at hb;rw[Lex.nw,if_pos hw]at hb;have hp:=List.takeWhile_prefix Lex.word (l:=d::l);rw[← List.prefix_iff_eq_take.1 hp]at hb;exact Lex.gX Lex.word _ b hb
      ·exact ih _ _ T' (by rw[List.length_drop,Z6];omega) hT' t ht
def kQ(z:Int):Int:=IntKind.i64.wrap z
def pZ(b:Bool):Int:=if b then 1 else 0
def opv(op:List UInt8)(a b:Int):Int:=
 if op=[43]then kQ (a+b)else if op=[45]then kQ (a - b)else if op=[42]then kQ (a * b)else if op=[38]then bits .and .i64 a b else if op=[124]then bits .or .i64 a b else
 if op=[61,61]then pZ (decide (a=b))else if op=[33,61]then pZ (!decide (a=b))else if op=[60]then pZ (decide (a < b))else pZ (decide (b < a))
abbrev Names:=List UInt8→Option Int
def ev(N:Names):X→Option Int
 | .num _ n=>some n
 | .name _ s=>N s
 | .bin _ op l r=>(ev N l).bind fun a=>(ev N r).map fun b=>opv op a b
theorem gI.ev{N:Names}{x y:X}(h:gI x y):Ex.ev N x=Ex.ev N y:=by
 induction h with
 |num=>rfl
 |name=>rfl
 |bin a b op _ _ ih1 ih2=>unfold Ex.ev;rw[ih1,ih2]
def InR(v:Int):Prop:= -9223372036854775808≤v∧v≤9223372036854775807
theorem oD(z:Int):InR (kQ z):=by
 unfold InR kQ;rw[IntKind.wrap_i64];omega
theorem vP(b:Bool):InR (pZ b):=by cases b <;> (unfold InR pZ;simp)
theorem Cl(op:List UInt8)(a b:Int):InR (opv op a b):=by
 unfold opv;have hb:∀o x y,InR (bits o .i64 x y):=fun o x y=>oD _
 repeat' split
 all_goals first|exact oD _|exact hb _ _ _|exact vP _
theorem vQ{N:Names}(hN:∀s v,N s=some v→InR v):∀x:X,kK Num.numOf Num.dec x→∀v,ev N x=some v→InR v
 | .num _ n,h,v,e=>by
  have:=Num.pN h.2.2;unfold ev at e;cases e;unfold InR;omega
 | .name _ s,h,v,e=>hN s v e
 | .bin _ op l r,h,v,e=>by
  unfold ev at e;rw[Option.bind_eq_some_iff]at e;obtain⟨a,_,e⟩:=e;rw[Option.map_eq_some_iff]at e;obtain⟨b,_,rfl⟩:=e;exact Cl op a b
end Ex
end
section
open Go.RowKit
open Rd
open Ex (X levels)
theorem Cm(n:Nat)(w:World)(hn:n < 18446744073709551616):Calls Tryz.prog 133 #[.int .u64 (n:Nat),.int .i64 10,.int .i64 0] w fun e w'=>e= .returned (.tuple #[.string (aa (Num.dec n)),.nilIface])∧Below w.heap.size w w':=by
 refine(Cb n 10 0 w hn (by decide) (by decide) (by decide)).mono ?_;rintro e w' ⟨⟨J,hJ,rfl⟩,hb⟩;have:J=Num.wdt n:=Digits.uf.unique hJ (Num.pO n hn);subst this;exact⟨rfl,hb⟩
theorem EI(a n:Nat)(hn:n < 9223372036854775808):pX (.num a n):=by
 intro w rb b hl hrb hx hp;have c0:=hx.2.cell0 0 (by simp);have c2:=hx.2.cell0 2 (by simp);simp only[Z0,Z1]at c0 c2;have HP:=hid (Cm n w (by omega));have hw:IntKind.u64.wrap (n:Int)=(n:Int):=by rw[IntKind.wrap_u64];omega
 clear hx hl hp;show Calls _ _ _ _ fun e w'=>e= .returned (.string (aa (Num.dec n)))∧Below w.heap.size w w'
 go_enter Tryz.func108,Tryz.ntmps108;go_wp2_with fail;refine HP.out.mono ?_;rintro e w1 ⟨rfl,hb⟩;go_wp2_with fail;go_ret;exact⟨rfl,hb⟩
theorem Cn(a:Nat)(s:List UInt8):pX (.name a s):=by
 intro w rb b hl hrb hx hp;have c0:=hx.2.cell0 0 (by simp);have c3:=hx.2.cell0 3 (by simp);simp only[Z0,Z1]at c0 c3;clear hx hl hp;show Calls _ _ _ _ fun e w'=>e= .returned (.string (aa s))∧Below w.heap.size w w'
 go_enter Tryz.func108,Tryz.ntmps108;go_wp2_with fail;go_ret;exact⟨rfl,Y4 _ _⟩
theorem EJ(a:Nat)(op:List UInt8)(l r:X):Ex.pr Num.dec (.bin a op l r)=partOf l (Ex.aG op)++32::(op++32::partOf r (Ex.aG op+1)):=rfl
theorem AJ(x:X)(k:Nat):(Ex.pr Num.dec x).length≤(partOf x k).length:=by
 unfold partOf;split
 ·simp only[Z6,Z7];omega
 ·exact Z5 _
abbrev TS(w:World)(b bl br:Nat)(op:List UInt8)(w1:World):Prop:=w1.cell? ⟨b,5,none⟩=some (.pointer (some ⟨bl,0,none⟩))∧w1.cell? ⟨b,4,none⟩=some (.string (aa op))∧w1.cell? ⟨b,6,none⟩=some (.pointer (some ⟨br,0,none⟩))∧Below w.heap.size w w1
theorem TS.an{w w1 w2:World}{b bl br:Nat}{op:List UInt8}(h:TS w b bl br op w1)(hb:b < w.heap.size)(h2:Below w1.heap.size w1 w2):TS w b bl br op w2:=by
 have hlt:b < w1.heap.size:=Nat.lt_of_lt_of_le hb h.2.2.2.size;exact⟨(h2.cell (p:=⟨b,5,none⟩) hlt).trans h.1,(h2.cell (p:=⟨b,4,none⟩) hlt).trans h.2.1,(h2.cell (p:=⟨b,6,none⟩) hlt).trans h.2.2.1,h.2.2.2.trans (h2.mono h.2.2.2.size)⟩
theorem TS.drew{w w1:World}{b bl br:Nat}{op:List UInt8}(h:TS w b bl br op w1):TS w b bl br op w1.drew:=⟨h.1,h.2.1,h.2.2.1,h.2.2.2.drew⟩
theorem EK(a:Nat)(op:List UInt8)(l r:X)(hop:Ex.aG op < 3)(hL:pX l)(hR:pX r):pX (.bin a op l r):=by
 intro w rb b hl hrb hx hp;have HH:=hid (EF hl hx);have hh:Ex.hold (.bin a op l r)=Ex.aG op:=rfl;rw[hh]at HH;obtain⟨bl,br,h1,h2,h3,h4⟩:=hx;have c0:=h2.cell0 0 (by simp);have c4:=h2.cell0 4 (by simp);have c5:=h2.cell0 5 (by simp);have c6:=h2.cell0 6 (by simp);simp only[Z0,Z1]at c0 c4 c5 c6;rw[EJ]at hp⊢;have hpl:=AJ l (Ex.aG op);have hpr:=AJ r (Ex.aG op+1);simp only[Z7,Z6]at hp;obtain⟨k,hk⟩:∃k,k=Ex.aG op:=⟨_,rfl⟩;rw[← hk]at hpl hpr hp HH hop⊢;have hblt:=h2.lt;have hlv:∀W,Below w.heap.size w W→da W rb:=fun W hB=>by
  refine⟨hl.1,fun i hi=> ?_⟩;obtain⟨gk,ck,e1,e2,e3⟩:=hl.2 i hi;exact⟨gk,ck,(hB.cell (p:=⟨_,i,none⟩) (Nat.lt_of_lt_of_le hl.1 hrb)).trans e1,e2,fun j hj=>(hB.cell (p:=gk.add j) (by rw[Addr.cH];exact Nat.lt_of_lt_of_le e2 hrb)).trans (e3 j hj)⟩
 have HPL:Hid (∀W,TS w b bl br op W→Calls Tryz.prog 135 #[.pointer (some ⟨bl,0,none⟩),.int .i64 (k:Nat)] W fun e w'=>e= .returned (.string (aa (partOf l k)))∧TS w b bl br op w'):=hid fun W hW=>
  (vN l k W rb bl hL (hlv W hW.2.2.2) (Nat.le_trans hrb hW.2.2.2.size) (IsX.grown (ar hW.2.2.2 _) l bl h3) (by omega) (by omega)).mono fun e w' ⟨h,hb⟩=>⟨h,hW.an hblt hb⟩
 have HPR:Hid (∀W,TS w b bl br op W→Calls Tryz.prog 135 #[.pointer (some ⟨br,0,none⟩),.int .i64 ((k:Int)+1)] W fun e w'=>e= .returned (.string (aa (partOf r (k+1))))∧TS w b bl br op w'):=hid fun W hW=>
  (vN r (k+1) W rb br hR (hlv W hW.2.2.2) (Nat.le_trans hrb hW.2.2.2.size) (IsX.grown (ar hW.2.2.2 _) r br h4) (by omega) (by omega)).mono fun e w' ⟨h,hb⟩=>⟨h,hW.an hblt hb⟩
 have hS0:TS w b bl br op w:=⟨c5,c4,c6,Y4 _ _⟩;generalize partOf l k=p at *
 generalize partOf r (k+1)=q at *
 have z1:¬9223372036854775807 < p.length+1:=by omega
 have z2:¬9223372036854775807 < p.length+1+op.length:=by omega
 have z3:¬9223372036854775807 < p.length+1+op.length+1:=by omega
 have z4:¬9223372036854775807 < p.length+1+op.length+1+q.length:=by omega
 have z5:¬9223372036854775807 < p.length+(op.length+1):=by omega
 have hkw:IntKind.i64.wrap ((k:Int)+1)=(k:Int)+1:=by rw[IntKind.wrap_i64];omega
 clear hlv hL hR hl h2 h3 h4 hpl hpr hh hk hp;go_enter Tryz.func108,Tryz.ntmps108;go_wp2_with fail;refine HH.out.mono ?_;rintro e w ⟨rfl,rfl⟩;go_wp2_with fail;go_region_held3 (fun w1=>w1.cell? ⟨b,5,none⟩=some (.pointer (some ⟨bl,0,none⟩))∧w1.cell? ⟨b,4,none⟩=some (.string (aa op))∧w1.cell? ⟨b,6,none⟩=some (.pointer (some ⟨br,0,none⟩))∧Below w.heap.size w w1)
  (first
   |exact hS0
   |exact TS.drew (by assumption)
   |assumption)
  (first
   |(go_at_call 135;(with_reducible refine(HPL.out _ ?_).mono ?_);(next=>(first|assumption|exact hS0));(rintro e w9 ⟨rfl,hS9⟩))
   |((try rw[hkw]);go_at_call 135;(with_reducible refine(HPR.out _ ?_).mono ?_);(next=>(first|assumption|exact hS0));(rintro e w9 ⟨rfl,hS9⟩)))
 all_goals
  go_wp2_with fail;go_ret;have hst:aa p++{data:= #[32]}++aa op++{data:= #[32]}++aa q=aa (p++32::(op++32::q)):=by
   rw[show({data:= #[32]}:ByteArray)=aa [32]from rfl];simp only[gN,List.append_assoc];rfl
  exact⟨by rw[← hst];rfl,hS9.2.2.2⟩
theorem yV:∀x:X,Ex.kK Num.numOf Num.dec x→pX x
 | .num a n,h=>EI a n (Num.pN h.2.2)
 | .name a s,_=>Cn a s
 | .bin a op l r,h=>EK a op l r h.1 (yV l h.2.1) (yV r h.2.2)
theorem vR(l:List UInt8)(w:World):Calls Tryz.prog 24 #[.string (aa l)] w fun e w'=>e= .returned (.bool (decide (900 < l.length)))∧w=w':=by
 by_cases h:900 < l.length
 ·have d1:decide ((900:Int) < (l.length:Int))=true:=Z9 (by omega);rw[Z9 h];go_enter Tryz.func24,Tryz.ntmps24;go_wp2_with fail;go_ret;exact⟨rfl,rfl⟩
 ·have d1:decide ((900:Int) < (l.length:Int))=false:=Y9 (by omega);rw[Y9 h];go_enter Tryz.func24,Tryz.ntmps24;go_wp2_with fail;go_ret;exact⟨rfl,rfl⟩
def nodes:X→Nat
 | .bin _ _ l r=>nodes l+nodes r+1
 |_=>1
theorem yW{num:Ex.js}{E:Nat}{c:Ex.Cat}{d:Nat}{T:List Rd.Tok}{o:Ex.Out}(h:Ex.Par num E c d T o):∀x R,o= .ok x R→nodes x+R.length≤T.length+(match c with| .loop _ y=>nodes y|_=>0):=by
 induction h with
 |top _ ih=>intro x R e;exact ih x R e
 |lev _ _ _ ih1 ih2=>
  intro x R e;have h1:=ih1 _ _ rfl;have h2:=ih2 x R e;simp only at h1 h2⊢;omega
 |gZ=>intro x R e;cases e
 |done _=>intro x R e;cases e;simp only;omega
 |more _ _ _ ih1 ih2=>
  intro x R e;have h1:=ih1 _ _ rfl;have h2:=ih2 x R e;simp only[nodes,Z6]at h1 h2⊢;omega
 |dQ=>intro x R e;cases e
 |paren _ _ _ _ ih=>
  intro x R e;cases e;have h1:=ih _ _ rfl;simp only[Z6]at h1⊢;omega
 |bK=>intro x R e;cases e
 |cz=>intro x R e;cases e
 |deep=>intro x R e;cases e
 |name=>intro x R e;cases e;simp only[nodes,Z6];omega
 |cA=>intro x R e;cases e
 |none=>intro x R e;cases e
 |mark=>intro x R e;cases e
 |num=>intro x R e;cases e;simp only[nodes,Z6];omega
 |ed=>intro x R e;cases e
theorem vS(k:Nat):∀m∈levels k,m.length≤2:=by
 intro m hm;exact(Lex.vw m (Ex.cJ k m hm).1).2
theorem Jr(n:Nat):Num.wdt n≤24:=by
 unfold Num.wdt;cases h:(List.range 25).find? (fun j=>decide (1≤j)&&decide (n < 10 ^ j))with
 |none=>simp
 |some j=>
  have:=List.mem_of_find?_eq_some h;rw[List.mem_range]at this;simp only[Option.getD_some];omega
theorem nD:∀x:X,Ex.kK Num.numOf Num.dec x→(Ex.pr Num.dec x).length≤30 * nodes x
 | .num _ n,h=>by
  have:=Jr n;show(Num.dec n).length≤_;rw[Num.dec,Digits.jZ];simp only[nodes];omega
 | .name _ s,h=>by
  have:=h.2.1;show s.length≤_;simp only[nodes];omega
 | .bin _ op l r,h=>by
  have h1:=nD l h.2.1;have h2:=nD r h.2.2;have h3:=vS _ op (Ex.lV op h.1);have pl:∀(y:X) k,(partOf y k).length≤(Ex.pr Num.dec y).length+2:=by
   intro y k;unfold partOf;split
   ·simp
   ·omega
  have e1:=pl l (Ex.aG op);have e2:=pl r (Ex.aG op+1);rw[EJ];simp only[Z7,Z6,nodes];omega
theorem AK:∀(n:Nat) (l:List UInt8) (i:Nat) (T:List Rd.Tok),l.length≤n→Lex.cZ l i=some T→T.length≤l.length∧∀t∈T,t.1.length≤l.length:=by
 intro n
 induction n with
 |zero=>
  intro l i T h hT;obtain rfl:=List.eq_nil_of_length_eq_zero (Nat.le_zero.1 h);rw[Lex.jr]at hT;cases hT;exact⟨Z5 _,fun t ht=>by cases ht⟩
 |succ n ih=>
  intro l i T h hT;cases l with
  |nil=>rw[Lex.jr]at hT;cases hT;exact⟨Z5 _,fun t ht=>by cases ht⟩
  |cons c l=>
   rw[Z6]at h
   by_cases h1:c=32∨c=10∨c=9
   ·rw[Lex.fX c l i h1]at hT;have:=ih l _ T (by omega) hT;exact⟨by rw[Z6];omega,fun t ht=>by have:=this.2 t ht;rw[Z6];omega⟩
   ·by_cases h2:c=35
    ·subst h2;rw[Lex.nz]at hT;have hp:=Lex.jq l;have:=ih _ _ T (by rw[List.length_drop,Z6];omega) hT;rw[List.length_drop]at this;exact⟨by omega,fun t ht=>by have:=this.2 t ht;omega⟩
    ·by_cases h3:Lex.next (c::l)=0
     ·rw[Lex.pF c l i h1 h2 h3]at hT;cases hT
     ·rw[Lex.lS c l i h1 h2 h3,Option.map_eq_some_iff]at hT;obtain⟨T',hT',rfl⟩:=hT;have:=ih _ _ T' (by rw[List.length_drop,Z6];omega) hT';rw[List.length_drop]at this;refine⟨by rw[Z6,Z6];rw[Z6]at this;omega,fun t ht=> ?_⟩;rcases List.mem_cons.1 ht with rfl|ht
      ·simp only[List.length_take];omega
      ·have:=this.2 t ht;omega
theorem EL{s:List UInt8}{T:List Rd.Tok}(hs:s.length≤3000)(h:Lex.cZ s 0=some T):∀t∈T,t.1.length≤100000:=fun t ht=>by
 have:=(AK s.length s 0 T (Z5 _) h).2 t ht;omega
theorem Js{w w':World}{B:Nat}(h:Env w B)(hb:Below w.heap.size w w')(hB:B≤w.heap.size):Env w' B:=by
 have key:∀(p:Addr),p.block < B→w'.cell? p=w.cell? p:=fun p hlt=>hb.cell (p:=p) (Nat.lt_of_lt_of_le hlt hB)
 refine⟨⟨h.lv.1,fun k hk=> ?_⟩,(key ⟨_,0,none⟩ h.eb).trans h.er,h.eb⟩;obtain⟨gk,ck,h1,h2,h3⟩:=h.lv.2 k hk;exact⟨gk,ck,(key ⟨_,k,none⟩ h.lv.1).trans h1,h2,fun j hj=>(key (gk.add j) (by rw[Addr.cH];exact h2)).trans (h3 j hj)⟩
theorem Jt{w:World}{B B':Nat}(h:Env w B)(hB:B≤B'):Env w B':=by
 refine⟨⟨Nat.lt_of_lt_of_le h.lv.1 hB,fun k hk=> ?_⟩,h.er,Nat.lt_of_lt_of_le h.eb hB⟩;obtain⟨gk,ck,h1,h2,h3⟩:=h.lv.2 k hk;exact⟨gk,ck,h1,Nat.lt_of_lt_of_le h2 hB,h3⟩
structure ll(w:World):Prop where
 env:Env w w.heap.size
 mks:ej w
theorem ll.up{w w':World}(h:ll w)(hb:Below w.heap.size w w'):ll w':=⟨Jt (Js h.env hb (Z5 _)) hb.size,h.mks.below hb (Z5 _)⟩
end
section
open Go.RowKit
open Rd
theorem Co(w:World):Calls Tryz.prog 86 #[.string (aa [])] w fun e w'=>e= .returned (.bool false)∧w=w':=by
 go_enter Tryz.func86,Tryz.ntmps86;go_wp2_with fail;go_ret;exact⟨rfl,rfl⟩
def isName:List UInt8→Bool
 |[]=>false
 |c::_=>Lex.letter c.toNat
theorem vT(s:List UInt8)(w:World):Calls Tryz.prog 86 #[.string (aa s)] w fun e w'=>e= .returned (.bool (isName s))∧w=w':=by
 cases s with
 |nil=>exact Co w
 |cons c r=>exact ik c r w
end
section
namespace Tm
open Ex
abbrev Wd:=List UInt8
def bp:List (Wd×Nat×Nat×Bool):=
 [([117,56],1,0,false),([105,56],1,0,true),
  ([117,49,54,108,101],2,0,false),([117,49,54,98,101],2,1,false),([105,49,54,108,101],2,0,true),([105,49,54,98,101],2,1,true),
  ([117,51,50,108,101],4,0,false),([117,51,50,98,101],4,1,false),([105,51,50,108,101],4,0,true),([105,51,50,98,101],4,1,true),
  ([105,54,52,108,101],8,0,true),([105,54,52,98,101],8,1,true)]
def kindOf(w:Wd):Option (Nat×Nat×Bool):=(bp.find? fun p=>p.1==w).map (·.2)
def cS:Wd:=[115,116,114,117,99,116]
def cD:Wd:=[98,121,116,101,115]
def dD:Wd:=[119,104,101,110]
def dE:Wd:=[115,105,122,101]
def cw:Wd:=[99,111,117,110,116]
def bN:Wd:=[99,104,101,99,107]
def fS:List Wd:=[cS,cD,dD,dE,cw,bN]
def kR(w:Wd):Bool:=(kindOf w).isSome||fS.contains w
def jt:Wd→Bool
 |[]=>false
 |c::_=>Lex.letter c.toNat
def aP(w:Wd):Bool:=jt w&& !kR w&&decide (w.length≤12)
inductive Rl where
 |none
 |size (f:Wd)
 |count (f:Wd)
 |check (f l:Wd)
inductive Knd where
 |scalar (w:Wd)
 |bytes
 |struct (t:Wd)
structure Hd where
 at_:Nat
 k:Knd
 name:Wd
 cnt:Option X
 ay:Rl
inductive Its where
 |nil
 |cons (h:Hd) (l:Its)
 |when (a:Nat) (c:X) (b l:Its)
structure Ty where
 name:Wd
 at_:Nat
 items:Its
abbrev eK(E:Nat)(T:List Tok)(x:X)(R:List Tok):Prop:=Par Num.numOf E (.lev 0) 0 T (.ok x R)
def al:List Tok→Wd
 |[]=>[]
 |t::_=>t.1
inductive Cnt(E:Nat):List Tok→Option X→List Tok→Prop where
 |no {T}:al T≠[91]→Cnt E T none T
 |yes {t u:Tok} {T R:List Tok} {c:X}:t.1=[91]→eK E T c (u::R)→u.1=[93]→Cnt E (t::T) (some c) R
inductive ea:List Tok→Rl→List Tok→Prop where
 |size {t u:Tok} {R:List Tok}:t.1=dE→aP u.1=true→ea (t::u::R) (.size u.1) R
 |count {t u:Tok} {R:List Tok}:t.1=cw→aP u.1=true→ea (t::u::R) (.count u.1) R
 |eL {t u:Tok} {R:List Tok}:t.1=bN→aP u.1=true→al R=[59]→ea (t::u::R) (.check u.1 u.1) R
 |eM {t u v:Tok} {R:List Tok}:t.1=bN→aP u.1=true→v.1≠[59]→aP v.1=true→ea (t::u::v::R) (.check u.1 v.1) R
inductive lX(E:Nat):Knd→List Tok→Option X→Rl→List Tok→Prop where
 |cnt {k:Knd} {T R:List Tok} {c:Option X}:Cnt E T c R→(k= .bytes→c≠none)→lX E k T c .none R
 |ay {w:Wd} {t:Tok} {T R:List Tok} {r:Rl}:t.1=[61]→ea T r R→lX E (.scalar w) (t::T) none r R
inductive nE:Tok→Knd→Prop where
 |scalar {t:Tok}:(kindOf t.1).isSome=true→nE t (.scalar t.1)
 |bytes {t:Tok}:t.1=cD→nE t .bytes
 |struct {t:Tok}:aP t.1=true→nE t (.struct t.1)
inductive HdP(E:Nat):List Tok→Hd→List Tok→Prop where
 |mk {t n s:Tok} {T R:List Tok} {k:Knd} {c:Option X} {r:Rl}:nE t k→aP n.1=true→lX E k T c r (s::R)→s.1=[59]→HdP E (t::n::T) ⟨t.2,k,n.1,c,r⟩ R
inductive Blk(E:Nat):Nat→Nat→List Tok→Its→List Tok→Prop where
 |fin {d n:Nat} {t:Tok} {R:List Tok}:t.1=[125]→Blk E d n (t::R) .nil R
 |item {d n:Nat} {T R1 R:List Tok} {h:Hd} {l:Its}:n < 16→HdP E T h R1→Blk E d (n+1) R1 l R→Blk E d n T (.cons h l) R
 |when {d n:Nat} {t b:Tok} {T T2 R1 R:List Tok} {c:X} {body l:Its}:n < 16→t.1=dD→eK E T c (b::T2)→b.1=[123]→d+1≤8→Blk E (d+1) 0 T2 body R1→Blk E d (n+1) R1 l R→Blk E d n (t::T) (.when t.2 c body l) R
inductive Tys(E:Nat):Nat→List Tok→List Ty→Prop where
 |fin {n:Nat}:Tys E n [] []
 |one {n:Nat} {t m b:Tok} {T R:List Tok} {l:Its} {r:List Ty}:n < 8→t.1=cS→aP m.1=true→b.1=[123]→Blk E 1 0 T l R→Tys E (n+1) R r→Tys E n (t::m::b::T) (⟨m.1,m.2,l⟩::r)
def vU:Option X→Option X→Prop
 |none,none=>True
 |some a,some b=>gI a b
 |_,_=>False
def jh(a b:Hd):Prop:=a.k=b.k∧a.name=b.name∧vU a.cnt b.cnt∧a.ay=b.ay
inductive eC:Its→Its→Prop where
 |nil:eC .nil .nil
 |cons {h h':Hd} {l l':Its}:jh h h'→eC l l'→eC (.cons h l) (.cons h' l')
 |when {a a':Nat} {c c':X} {b b' l l':Its}:gI c c'→eC b b'→eC l l'→eC (.when a c b l) (.when a' c' b' l')
def Km(a b:Ty):Prop:=a.name=b.name∧eC a.items b.items
inductive cy:List Ty→List Ty→Prop where
 |nil:cy [] []
 |cons {a b:Ty} {l m:List Ty}:Km a b→cy l m→cy (a::l) (b::m)
def pad(d:Nat):Wd:=List.replicate (2 * d) 32
def prX(x:X):Wd:=pr Num.dec x
def ptX(x:X):List Wd:=pt Num.dec x
def kL:Knd→Wd
 | .scalar w=>w
 | .bytes=>cD
 | .struct t=>t
def bt(c:Option X)(r:Rl):Wd:=match c with
 |some c=>91::(prX c++[93])
 |none=>match r with
  | .none=>[]
  | .size f=>[32,61,32]++dE++32::f
  | .count f=>[32,61,32]++cw++32::f
  | .check f l=>if l=f then [32,61,32]++bN++32::f else [32,61,32]++bN++32::(f++32::l)
def qb(c:Option X)(r:Rl):List Wd:=match c with
 |some c=>[91]::(ptX c++[[93]])
 |none=>match r with
  | .none=>[]
  | .size f=>[[61],dE,f]
  | .count f=>[[61],cw,f]
  | .check f l=>if l=f then [[61],bN,f]else [[61],bN,f,l]
def prH(d:Nat)(h:Hd):Wd:=pad d++kL h.k++32::(h.name++(bt h.cnt h.ay++[59,10]))
def ptH(h:Hd):List Wd:=kL h.k::h.name::(qb h.cnt h.ay++[[59]])
def prI(d:Nat):Its→Wd
 | .nil=>[]
 | .cons h l=>prH d h++prI d l
 | .when _ c b l=>pad d++(dD++32::(prX c++[32,123,10]))++(prI (d+1) b++(pad d++([125,10]++prI d l)))
def ptI:Its→List Wd
 | .nil=>[]
 | .cons h l=>ptH h++ptI l
 | .when _ c b l=>dD::(ptX c++[123]::(ptI b++[125]::ptI l))
def prT(t:Ty):Wd:=cS++32::(t.name++[32,123,10])++(prI 1 t.items++[125,10])
def ptT(t:Ty):List Wd:=cS::t.name::[123]::(ptI t.items++[[125]])
def cY(l:List Ty):Wd:=l.flatMap prT
def EM(l:List Ty):List Wd:=l.flatMap ptT
def iL(w:Wd):Prop:=w≠[]∧∀c∈w,Lex.word c=true
def eN(w:Wd):Prop:=iL w∧aP w=true
def il(x:X):Prop:=kK Num.numOf Num.dec x∧aZ Num.dec x≤8
def AL:Knd→Prop
 | .scalar w=>(kindOf w).isSome=true
 | .bytes=>True
 | .struct t=>eN t
def AM:Rl→Prop
 | .none=>True
 | .size f=>eN f
 | .count f=>eN f
 | .check f l=>eN f∧eN l
def ju(h:Hd):Prop:=AL h.k∧eN h.name∧(∀c,h.cnt=some c→il c∧h.ay= .none)∧AM h.ay∧(h.k= .bytes→h.cnt≠none)∧(h.ay≠.none→∃w,h.k= .scalar w)
def bG:Its→Prop
 | .nil=>True
 | .cons h l=>ju h∧bG l
 | .when _ c b l=>il c∧bG b∧bG l
def bg(t:Ty):Prop:=eN t.name∧bG t.items
theorem EN:∀p∈bp,iL p.1∧jt p.1=true:=by
 unfold iL;decide
theorem Cp{w:Wd}(h:(kindOf w).isSome=true):iL w∧jt w=true:=by
 unfold kindOf at h;rw[Option.isSome_map]at h;obtain⟨p,hp⟩:=Option.isSome_iff_exists.1 h;have h1:=List.mem_of_find?_eq_some hp;have h2:=List.find?_some hp;rw[beq_iff_eq]at h2;rw[← h2];exact EN p h1
theorem qd:∀w∈fS,iL w∧jt w=true∧kR w=true:=by
 unfold iL;decide
theorem GZ{k:Knd}(h:AL k):iL (kL k):=by
 cases k with
 |scalar w=>exact(Cp h).1
 |bytes=>exact(qd cD (by decide)).1
 |struct t=>exact h.1
def yX(r:Wd):Prop:=r=[]∨∃c t,r=c::t∧Lex.word c=false
theorem eh{x r:Wd}{i:Nat}(hx:iL x)(hr:yX r):texts (x++r) i=(texts r 0).map (x:: ·):=by
 refine yH x r i hx.1 hx.2 ?_;rcases hr with h|h
 ·exact .inl (.inl h)
 ·exact .inr h
theorem kc:∀(x:X),kK Num.numOf Num.dec x→∀(r:Wd) (i:Nat),yX r→texts (prX x++r) i=(texts r 0).map (ptX x++ ·)
 | .num _ n,h,r,i,hr=>by
  unfold prX ptX pr pt;exact eh ⟨h.1,fun c hc=>yK c (h.2.1 c hc)⟩ hr
 | .name _ s,h,r,i,hr=>by
  unfold prX ptX pr pt;exact eh ⟨h.1,h.2.2.1⟩ hr
 | .bin _ op l r',h,r,i,hr=>by
  obtain⟨h1,h2,h3⟩:=h;have part:∀(x:X) (b:Bool),kK Num.numOf Num.dec x→(∀(r:List UInt8) (i:Nat),yX r→texts (prX x++r) i=(texts r 0).map (ptX x++ ·))→∀(r:List UInt8) (i:Nat),yX r→
    texts ((if b then 40::(prX x++[41])else prX x)++r) i=(texts r 0).map ((if b then [40]::(ptX x++[[41]])else ptX x)++ ·):=by
   intro x b hx ih r i hr;cases b with
   |false=>exact ih r i hr
   |true=>
    simp only[if_true];rw[List.cons_append,yI,List.append_assoc,List.singleton_append,ih _ _ (.inr ⟨41,_,rfl,by decide⟩),yJ,Option.map_map,Option.map_map]
    congr 1
    funext z
    simp
  have pl:=part l (decide (hold l < aG op)) h2 (kc l h2);have pr':=part r' (decide (hold r' < aG op+1)) h3 (kc r' h3);simp only[decide_eq_true_eq]at pl pr';unfold prX ptX at *
  unfold pr pt;rw[List.append_assoc,List.cons_append,pl _ _ (.inr ⟨32,_,rfl,by decide⟩),bT,List.append_assoc,List.cons_append,Ej _ _ _ h1,pr' _ _ hr,Option.map_map,Option.map_map]
  congr 1
  funext z
  simp
theorem jv(l:Wd)(i:Nat):texts (10::l) i=texts l 0:=by
 unfold texts;rw[Lex.fX 10 l i (.inr (.inl rfl))];exact eu l _ _
theorem ke:∀(n:Nat) (l:Wd) (i:Nat),texts (List.replicate n 32++l) i=texts l 0
 |0,l,i=>by rw[List.replicate_zero,List.nil_append];exact eu l _ _
 |n+1,l,i=>by rw[List.replicate_succ,List.cons_append,bT];exact ke n l 0
theorem EO(r:Wd)(i:Nat):texts (91::r) i=(texts r 0).map ([91]:: ·):=fG [91] 91 [] r i rfl (by decide) (by decide) (by decide) rfl
theorem EP(r:Wd)(i:Nat):texts (93::r) i=(texts r 0).map ([93]:: ·):=fG [93] 93 [] r i rfl (by decide) (by decide) (by decide) rfl
theorem vV(r:Wd)(i:Nat):texts (123::r) i=(texts r 0).map ([123]:: ·):=fG [123] 123 [] r i rfl (by decide) (by decide) (by decide) rfl
theorem vW(r:Wd)(i:Nat):texts (125::r) i=(texts r 0).map ([125]:: ·):=fG [125] 125 [] r i rfl (by decide) (by decide) (by decide) rfl
theorem yY(r:Wd)(i:Nat):texts (59::r) i=(texts r 0).map ([59]:: ·):=fG [59] 59 [] r i rfl (by decide) (by decide) (by decide) rfl
theorem ER(r:Wd)(i:Nat):texts (61::32::r) i=(texts r 0).map ([61]:: ·):=by
 have:=fG [61] 61 [] (32::r) i rfl (by decide) (by decide) (by decide) (Lex.pH [61] (by decide) 32 r (.inl rfl));rw[show(61::32::r:Wd)=[61]++32::r from rfl,this,bT]
end Tm
namespace Tm
open Ex
theorem uq(o:Option (List Wd))(a b:List Wd):(o.map (b++ ·)).map (a++ ·)=o.map ((a++b)++ ·):=by
 rw[Option.map_map];congr 1;funext z;simp
theorem Ha(o:Option (List Wd))(a b:List Wd):(o.map (b++ ·)).map (a++ ·)=o.map ((a++b)++ ·):=uq o a b
theorem map_nil(o:Option (List Wd)):o.map (([]:List Wd)++ ·)=o:=by cases o <;> rfl
theorem eD(c:UInt8)(t:Wd)(h:Lex.word c=false):yX (c::t):= .inr ⟨c,t,rfl,h⟩
theorem ur{w:Wd}(h:w∈fS):iL w:=(qd w h).1
theorem gQ{w f r:Wd}{i:Nat}(hw:w∈fS)(hf:eN f)(hr:yX r):texts ([32,61,32]++w++32::f++r) i=(texts r 0).map ([[61],w,f]++ ·):=by
 have e:[32,61,32]++w++32::f++r=32::61::32::(w++32::(f++r)):=by simp
 rw[e,bT,ER,eh (ur hw) (eD 32 _ (by decide)),bT,eh hf.1 hr,Option.map_map,Option.map_map];rfl
theorem yZ{h:Hd}(hh:ju h)(r:Wd)(i:Nat)(hr:∃t,r=59::t):texts (bt h.cnt h.ay++r) i=(texts r 0).map (qb h.cnt h.ay++ ·):=by
 obtain⟨t,rfl⟩:=hr;have hs:yX (59::t):=eD 59 t (by decide);obtain⟨at_,k,name,cnt,ay⟩:=h;obtain⟨h1,h2,h3,h4,h5⟩:=hh;simp only[]at *
 cases cnt with
 |some c=>
  have hc:=(h3 c rfl).1.1;show texts (91::(prX c++[93])++59::t) i=_;rw[List.cons_append,EO,List.append_assoc,List.singleton_append,kc c hc _ _ (eD 93 _ (by decide)),EP,Option.map_map,Option.map_map]
  congr 1
  funext z
  show _=([91]::(ptX c++[[93]]))++z;simp
 |none=>
  cases ay with
  |none=>show texts (59::t) i=(texts (59::t) 0).map (([]:List Wd)++ ·);rw[map_nil];exact eu _ _ _
  |size f=>exact gQ (by decide) h4 hs
  |count f=>exact gQ (by decide) h4 hs
  |check f l=>
   unfold bt qb;simp only[]
   by_cases e:l=f
   ·rw[if_pos e,if_pos e];exact gQ (by decide) h4.1 hs
   ·rw[if_neg e,if_neg e];have:=gQ (w:=bN) (f:=f) (r:=32::(l++59::t)) (i:=i) (by decide) h4.1 (eD 32 _ (by decide));have e2:[32,61,32]++bN++32::(f++32::l)++59::t=[32,61,32]++bN++32::f++32::(l++59::t):=by simp
    rw[e2,this,bT,eh h4.2.1 hs,Option.map_map];rfl
theorem Cq{h:Hd}(hh:ju h)(d:Nat)(r:Wd)(i:Nat):texts (prH d h++r) i=(texts r 0).map (ptH h++ ·):=by
 have e:prH d h++r=List.replicate (2 * d) 32++(kL h.k++32::(h.name++(bt h.cnt h.ay++59::10::r))):=by unfold prH pad;simp
 rw[e,ke,eh (GZ hh.1) (eD 32 _ (by decide)),bT,eh hh.2.1.1,yZ hh _ _ ⟨_,rfl⟩,yY,jv,Option.map_map,Option.map_map,Option.map_map]
 ·congr 1
  funext z
  unfold ptH;simp
 ·obtain⟨at_,k,name,cnt,ay⟩:=h;simp only[];cases cnt with
  |some c=>exact eD 91 _ (by decide)
  |none=>
   cases ay with
   |none=>exact eD 59 _ (by decide)
   |size f=>exact eD 32 _ (by decide)
   |count f=>exact eD 32 _ (by decide)
   |check f l=>
    unfold bt;simp only[];split <;> exact eD 32 _ (by decide)
theorem kf:∀(l:Its),bG l→∀(d:Nat) (r:Wd) (i:Nat),texts (prI d l++r) i=(texts r 0).map (ptI l++ ·)
 | .nil,h,d,r,i=>by
  show texts r i=(texts r 0).map (([]:List Wd)++ ·);rw[map_nil];exact eu _ _ _
 | .cons h l,hf,d,r,i=>by
  show texts (prH d h++prI d l++r) i=_;rw[List.append_assoc,Cq hf.1,kf l hf.2,Ha];rfl
 | .when a c b l,hf,d,r,i=>by
  have e:prI d (.when a c b l)++r=List.replicate (2 * d) 32++(dD++32::(prX c++32::123::10::(prI (d+1) b++(List.replicate (2 * d) 32++125::10::(prI d l++r))))):=by
   rw[prI];unfold pad;simp
  rw[e,ke,eh (ur (by decide)) (eD 32 _ (by decide)),bT,kc c hf.1.1 _ _ (eD 32 _ (by decide)),bT,vV,jv,kf b hf.2.1,ke,vW,jv,kf l hf.2.2];simp only[Option.map_map]
  congr 1
  funext z
  rw[show ptI (.when a c b l)=dD::(ptX c++[123]::(ptI b++[125]::ptI l))from rfl];simp
theorem Cr{t:Ty}(ht:bg t)(r:Wd)(i:Nat):texts (prT t++r) i=(texts r 0).map (ptT t++ ·):=by
 have e:prT t++r=cS++32::(t.name++32::123::10::(prI 1 t.items++125::10::r)):=by unfold prT;simp
 rw[e,eh (ur (by decide)) (eD 32 _ (by decide)),bT,eh ht.1.1 (eD 32 _ (by decide)),bT,vV,jv,kf t.items ht.2,vW,jv];simp only[Option.map_map]
 congr 1
 funext z
 unfold ptT;simp
theorem ln:∀(l:List Ty),(∀t∈l,bg t)→texts (cY l) 0=some (EM l)
 |[],h=>rfl
 |t::l,h=>by
  show texts (prT t++cY l) 0=_;rw[Cr (h t (by simp)),ln l fun u hu=>h u (by simp[hu])];rfl
theorem vX{x y:X}(h:gI x y):prX x=prX y∧ptX x=ptX y:=by
 refine⟨h.pr.2,?_⟩
 induction h with
 |num=>rfl
 |name=>rfl
 |bin a b op h1 h2 ih1 ih2=>
  unfold ptX at *
  unfold pt;rw[ih1,ih2,(h1.pr (dec:=Num.dec)).1,(h2.pr (dec:=Num.dec)).1]
theorem Cs{c c':Option X}(h:vU c c')(r:Rl):bt c r=bt c' r:=by
 cases c with
 |none=>cases c' with
  |none=>rfl
  |some b=>exact h.elim
 |some a=>cases c' with
  |none=>exact h.elim
  |some b=>unfold bt;simp only[];rw[(vX h).1]
theorem ES{h h':Hd}(hs:jh h h')(d:Nat):prH d h=prH d h':=by
 unfold prH;rw[hs.1,hs.2.1,Cs hs.2.2.1,hs.2.2.2]
theorem ET{l l':Its}(h:eC l l'):∀d,prI d l=prI d l':=by
 induction h with
 |nil=>intro d;rfl
 |cons hh _ ih=>intro d;show prH d _++_=prH d _++_;rw[ES hh,ih]
 |when hc _ _ ih1 ih2=>intro d;rw[prI,prI,(vX hc).1,ih1,ih2]
theorem Ct{l l':List Ty}(h:cy l l'):cY l=cY l':=by
 induction h with
 |nil=>rfl
 |cons ht _ ih=>
  show prT _++cY _=prT _++cY _;rw[ih];unfold prT;rw[ht.1,ET ht.2]
end Tm
namespace Tm
open Ex
variable{E:Nat}
theorem eK.suf{T R:List Tok}{x:X}(h:eK E T x R):R <:+ T∧R.length < T.length:=by
 have:=h.less x R rfl;exact⟨this.1,this.2 (by intro k y e;cases e)⟩
theorem cK{t:Tok}{R T:List Tok}(h:R <:+ T):R <:+ t::T:=h.trans (List.suffix_cons _ _)
theorem Cnt.suf{T R:List Tok}{c:Option X}(h:Cnt E T c R):R <:+ T:=by
 cases h with
 |no _=>exact List.suffix_refl _
 |yes _ h _=>exact cK ((List.suffix_cons _ _).trans h.suf.1)
theorem ea.suf{T R:List Tok}{r:Rl}(h:ea T r R):R <:+ T:=by
 cases h with
 |size=>exact cK (List.suffix_cons _ _)
 |count=>exact cK (List.suffix_cons _ _)
 |eL=>exact cK (List.suffix_cons _ _)
 |eM=>exact cK (cK (List.suffix_cons _ _))
theorem lX.suf{k:Knd}{T R:List Tok}{c:Option X}{r:Rl}(h:lX E k T c r R):R <:+ T:=by
 cases h with
 |cnt h _=>exact h.suf
 |ay _ h=>exact cK h.suf
theorem HdP.suf{T R:List Tok}{h:Hd}(hh:HdP E T h R):R <:+ T∧R.length < T.length:=by
 cases hh with
 |@mk t n s T R k c r h1 h2 h3 h4=>
  have h5:=(List.suffix_cons s R).trans h3.suf;have h6:=h5.length_le;refine⟨cK (cK h5),?_⟩;simp only[Z6];omega
theorem Blk.suf{d n:Nat}{T R:List Tok}{l:Its}(h:Blk E d n T l R):R <:+ T∧R.length < T.length:=by
 induction h with
 |fin _=>exact⟨List.suffix_cons _ _,by simp⟩
 |item _ h1 _ ih=>
  have h2:=h1.suf;exact⟨ih.1.trans h2.1,by omega⟩
 |when _ _ h3 _ _ _ _ ih1 ih2=>
  have h4:=h3.suf;refine⟨cK (ih2.1.trans (ih1.1.trans ((List.suffix_cons _ _).trans h4.1))),?_⟩;simp only[Z6]at *;omega
theorem Par.det{num:js}{c:Cat}{d:Nat}{T:List Tok}{o:Out}(h:Par num E c d T o):∀o',Par num E c d T o'→o=o':=by
 induction h with
 |top _ ih=>
  intro o' h';cases h' with
  |top h=>exact ih _ h
  |lev hk=>omega
  |gZ hk=>omega
 |lev hk h1 h2 ih1 ih2=>
  intro o' h';cases h' with
  |top h=>omega
  |lev _ g1 g2=>cases ih1 _ g1;exact ih2 _ g2
  |gZ _ g1=>cases ih1 _ g1
 |gZ hk h1 ih1=>
  intro o' h';cases h' with
  |top h=>omega
  |lev _ g1 g2=>cases ih1 _ g1
  |gZ _ g1=>exact ih1 _ g1
 |done h=>
  intro o' h';cases h' with
  |done _=>rfl
  |more g=>exact absurd g (h _ _ rfl)
  |dQ g=>exact absurd g (h _ _ rfl)
 |more h h1 h2 ih1 ih2=>
  intro o' h';cases h' with
  |done g=>exact absurd h (g _ _ rfl)
  |more _ g1 g2=>cases ih1 _ g1;exact ih2 _ g2
  |dQ _ g1=>cases ih1 _ g1
 |dQ h h1 ih1=>
  intro o' h';cases h' with
  |done g=>exact absurd h (g _ _ rfl)
  |more _ g1 g2=>cases ih1 _ g1
  |dQ _ g1=>exact ih1 _ g1
 |paren h1 h2 h3 h4 ih=>
  intro o' h';cases h' with
  |paren _ _ g3 _=>cases ih _ g3;rfl
  |bK _ _ g3 g4=>cases ih _ g3;exact absurd h4 (g4 _ _ rfl)
  |cz _ _ g3=>cases ih _ g3
  |deep _=>omega
  |name g1 g2 _=>rw[h1]at g1;cases g1;exact absurd g2 (by decide)
  |cA g1 g2 _=>rw[h1]at g1;cases g1;exact absurd g2 (by decide)
  |mark _ _ _ g=>exact absurd h1 g
  |num g1 g2 _=>rw[h1]at g1;cases g1;exact absurd g2 (by decide)
  |ed g1 g2 _=>rw[h1]at g1;cases g1;exact absurd g2 (by decide)
 |bK h1 h2 h3 h4 ih=>
  intro o' h';cases h' with
  |paren _ _ g3 g4=>cases ih _ g3;exact absurd g4 (h4 _ _ rfl)
  |bK _ _ g3 g4=>cases ih _ g3;rfl
  |cz _ _ g3=>cases ih _ g3
  |deep _=>omega
  |name g1 g2 _=>rw[h1]at g1;cases g1;exact absurd g2 (by decide)
  |cA g1 g2 _=>rw[h1]at g1;cases g1;exact absurd g2 (by decide)
  |mark _ _ _ g=>exact absurd h1 g
  |num g1 g2 _=>rw[h1]at g1;cases g1;exact absurd g2 (by decide)
  |ed g1 g2 _=>rw[h1]at g1;cases g1;exact absurd g2 (by decide)
 |cz h1 h2 h3 ih=>
  intro o' h';cases h' with
  |paren _ _ g3 g4=>cases ih _ g3
  |bK _ _ g3 g4=>cases ih _ g3
  |cz _ _ g3=>cases ih _ g3;rfl
  |deep _=>omega
  |name g1 g2 _=>rw[h1]at g1;cases g1;exact absurd g2 (by decide)
  |cA g1 g2 _=>rw[h1]at g1;cases g1;exact absurd g2 (by decide)
  |mark _ _ _ g=>exact absurd h1 g
  |num g1 g2 _=>rw[h1]at g1;cases g1;exact absurd g2 (by decide)
  |ed g1 g2 _=>rw[h1]at g1;cases g1;exact absurd g2 (by decide)
 |deep h1=>
  intro o' h';cases h' with
  |paren _ g=>omega
  |bK _ g=>omega
  |cz _ g=>omega
  |deep _=>rfl
  |name g1 g2 _=>rw[h1]at g1;cases g1;exact absurd g2 (by decide)
  |cA g1 g2 _=>rfl
  |mark _ _ _ g=>exact absurd h1 g
  |num g1 g2 _=>rw[h1]at g1;cases g1;exact absurd g2 (by decide)
  |ed g1 g2 _=>rw[h1]at g1;cases g1;exact absurd g2 (by decide)
 |name h1 h2 h3=>
  intro o' h';cases h' with
  |paren g=>rw[h1]at g;cases g;exact absurd h2 (by decide)
  |bK g=>rw[h1]at g;cases g;exact absurd h2 (by decide)
  |cz g=>rw[h1]at g;cases g;exact absurd h2 (by decide)
  |deep g=>rw[h1]at g;cases g;exact absurd h2 (by decide)
  |name _ _ _=>rfl
  |cA _ _ _=>omega
  |mark g1 g2 _ _=>rw[h1]at g1;cases g1;rw[h2]at g2;cases g2
  |num g1 g2 _=>rw[h1]at g1;cases g1;exact absurd (gR h2 g2) id
  |ed g1 g2 _=>rw[h1]at g1;cases g1;exact absurd (gR h2 g2) id
 |cA h1 h2 h3=>
  intro o' h';cases h' with
  |paren g=>rw[h1]at g;cases g;exact absurd h2 (by decide)
  |bK g=>rw[h1]at g;cases g;exact absurd h2 (by decide)
  |cz g=>rw[h1]at g;cases g;exact absurd h2 (by decide)
  |deep g=>rfl
  |name _ _ _=>omega
  |cA _ _ _=>rfl
  |mark g1 g2 _ _=>rw[h1]at g1;cases g1;rw[h2]at g2;cases g2
  |num g1 g2 _=>rw[h1]at g1;cases g1;exact absurd (gR h2 g2) id
  |ed g1 g2 _=>rw[h1]at g1;cases g1;exact absurd (gR h2 g2) id
 |none=>intro o' h';cases h';rfl
 |mark h1 h2 h3 h4=>
  intro o' h';cases h' with
  |paren g=>exact absurd g h4
  |bK g=>exact absurd g h4
  |cz g=>exact absurd g h4
  |deep g=>exact absurd g h4
  |name g1 g2 _=>rw[h1]at g1;cases g1;rw[h2]at g2;cases g2
  |cA g1 g2 _=>rw[h1]at g1;cases g1;rw[h2]at g2;cases g2
  |mark _ _ _ _=>rfl
  |num g1 g2 _=>rw[h1]at g1;cases g1;rw[h3]at g2;cases g2
  |ed g1 g2 _=>rw[h1]at g1;cases g1;rw[h3]at g2;cases g2
 |num h1 h2 h3=>
  intro o' h';cases h' with
  |paren g=>rw[h1]at g;cases g;exact absurd h2 (by decide)
  |bK g=>rw[h1]at g;cases g;exact absurd h2 (by decide)
  |cz g=>rw[h1]at g;cases g;exact absurd h2 (by decide)
  |deep g=>rw[h1]at g;cases g;exact absurd h2 (by decide)
  |name g1 g2 _=>rw[h1]at g1;cases g1;exact absurd (gR g2 h2) id
  |cA g1 g2 _=>rw[h1]at g1;cases g1;exact absurd (gR g2 h2) id
  |mark g1 g2 g3 _=>rw[h1]at g1;cases g1;rw[h2]at g3;cases g3
  |num _ _ g3=>rw[h3]at g3;cases g3;rfl
  |ed _ _ g3=>rw[h3]at g3;cases g3
 |ed h1 h2 h3=>
  intro o' h';cases h' with
  |paren g=>rw[h1]at g;cases g;exact absurd h2 (by decide)
  |bK g=>rw[h1]at g;cases g;exact absurd h2 (by decide)
  |cz g=>rw[h1]at g;cases g;exact absurd h2 (by decide)
  |deep g=>rw[h1]at g;cases g;exact absurd h2 (by decide)
  |name g1 g2 _=>rw[h1]at g1;cases g1;exact absurd (gR g2 h2) id
  |cA g1 g2 _=>rw[h1]at g1;cases g1;exact absurd (gR g2 h2) id
  |mark g1 g2 g3 _=>rw[h1]at g1;cases g1;rw[h2]at g3;cases g3
  |num _ _ g3=>rw[h3]at g3;cases g3
  |ed _ _ g3=>rw[h3]at g3;cases g3;rfl
where
 gR {c:UInt8} (h:Lex.letter c.toNat=true) (g:Lex.digit c.toNat=true):False:=by
  unfold Lex.letter at h;unfold Lex.digit at g;simp only[Bool.or_eq_true,decide_eq_true_eq]at h g;omega
theorem eK.det{T R R':List Tok}{x x':X}(h:eK E T x R)(h':eK E T x' R'):x=x'∧R=R':=by
 have:=Par.det h _ h';cases this;exact⟨rfl,rfl⟩
end Tm
end
end Go.Proofs.YtlomecfhobehnaaGreatDoor
