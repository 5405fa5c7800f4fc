import Derived.Test.YtlomecfhobehnaaGreatDoorMgFixTwice0
import Derived.Test.YtlomecfhobehnaaGreatDoorMgFixTwice36
set_option linter.unusedVariables false
set_option linter.unusedSimpArgs false
namespace Go.Proofs.YtlomecfhobehnaaGreatDoor
open Lib (hid)
section
set_option maxRecDepth 100000
set_option maxHeartbeats 2000000
open Go.RowKit
open Rd
theorem vD:(Tryz.prog.info? 3).map (fun i=>(i.zero,i.size,i.bytes))=some (some (.int .i64 0),1,8):=by kernel_rfl
def zq(R:List Tm.Sk)(out:List Nat):Int:=match Fx.next R out with
 |some k=>(k:Int)
 |none=> -1
theorem ES{R:List Tm.Sk}{out:List Nat}{k:Nat}(hk:k < R.length)(h1:∀j,j < k→Fx.ready R out j=false)(h2:Fx.ready R out k=true):Fx.next R out=some k:=by
 unfold Fx.next
 rw[List.find?_range_eq_some]
 exact⟨h2,List.mem_range.2 hk,fun j hj=>by rw[h1 j hj];rfl⟩
theorem ET{R:List Tm.Sk}{out:List Nat}(h1:∀j,j < R.length→Fx.ready R out j=false):Fx.next R out=none:=by
 unfold Fx.next
 rw[List.find?_eq_none]
 intro j hj
 rw[h1 j (List.mem_range.1 hj)];simp
theorem Bo(V w:World)(rb cap n lb ob on oc B:Nat)(l:Tm.Its)(ga oa:Option Addr)(bs:List Value)(out:List Nat)(hn:n=Tm.Its.len l)(hn2:n≤100000)(hon:on≤100000)(hR:Fx.ju l.row)(h:OcS V w rb cap n l ga bs lb ob on oc B oa out):
  Calls Tryz.prog 120 #[.slice ga n cap,.func (.func 121) #[] #[.pointer (some ⟨lb,0,none⟩),.pointer (some ⟨ob,0,none⟩)]] w fun e w'=>e= .returned (.int .i64 (zq l.row out))∧Below w.heap.size w w':=by
 have hcap:n≤cap:=by rw[hn];exact aT h.it.own
 have HH:=hid h;have HN:=hid hn;have HR:=hid hR
 clear h hn hR
 go_enter Tryz.func120,Tryz.ntmps120
 go_wp2_with fail
 go_loopw [8] (fun v8 wr=>∃k:Nat,v8= .int .i64 k∧k≤n∧Hid (∀j,j < k→Fx.ready l.row out j=false)∧Hid (Below w.heap.size w wr)) (fun v8 _=>n - (intOf v8).toNat)
 case atStart=>exact⟨0,rfl,Nat.zero_le _,hid (fun j hj=>absurd hj (Nat.not_lt_zero _)),hid (Y4 _ _)⟩
 case round=>
  obtain⟨k,rfl,hk,HQ,HB⟩:=hrel
  by_cases hlt:k < n
  ·have hki:(k:Int) < (n:Int):=by omega
   have q1:decide ((k:Int) < (n:Int))=true:=Z9 hki
   have q2:decide (k < n)=true:=Z9 hlt
   obtain⟨x,rfl⟩:∃x,ga=some x:=by
    cases ga with
    |none=>have:=HH.out.it.own.aN.1;rw[← HN.out]at this;omega
    |some x=>exact⟨x,rfl⟩
   obtain⟨gb,rfl⟩:∃gb,x=⟨gb,0,none⟩:=⟨x.block,HH.out.it.own.row.1⟩
   have hW:=HH.out.up HB.out
   obtain⟨s,k0,k1,k4,k5,s3,b6,p8,a12,n12,c12,hs,hrow,hk0,hk4,hw4⟩:=hW.it.cells k (by rw[← HN.out];exact hlt)
   have HF:=hid (EO V wr rb cap n lb ob on oc B k l (some ⟨gb,0,none⟩) oa bs out HN.out hn2 hon hW s k0 k1 k4 k5 s3 b6 p8 a12 n12 c12 hk0 hk4 hs (fun hw=>HR.out.uniq k s hs hw) hlt)
   have HS:=hid hs
   have HLT:=hid hlt
   have c0:=hrow.cell 0 (by simp);have c1:=hrow.cell 1 (by simp);have c2:=hrow.cell 2 (by simp);have c3:=hrow.cell 3 (by simp);have c4:=hrow.cell 4 (by simp);have c5:=hrow.cell 5 (by simp);have c6:=hrow.cell 6 (by simp);have c7:=hrow.cell 7 (by simp);have c8:=hrow.cell 8 (by simp);have c9:=hrow.cell 9 (by simp);have c10:=hrow.cell 10 (by simp);have c11:=hrow.cell 11 (by simp);have c12:=hrow.cell 12 (by simp)
   simp only[aP,Z0,Z1,Y2]at c0 c1 c2 c3 c4 c5 c6 c7 c8 c9 c10 c11 c12
   clear hrow hs hk0 hk4 hw4 hW
   go_wp2_with fail
   refine HF.out.mono ?_
   rintro e w2 ⟨rfl,hb2⟩
   have HB2:=hid (HB.out.trans (hb2.mono HB.out.size))
   cases hc:Fx.ready l.row out k with
   |true=>
    have HC:=hid hc
    clear hc hb2
    go_wp2_with fail
    go_ret
    refine⟨?_,HB2.out⟩
    unfold zq
    rw[ES (by rw[Tm.cH,← HN.out];exact HLT.out) HQ.out HC.out]
    rfl
   |false=>
    have HC:=hid hc
    clear hc hb2
    go_wp2_with fail
    go_roundw
    case rel=>exact⟨k+1,by go_num,by omega,hid (fun j hj=>by
     by_cases hjk:j < k
     ·exact HQ.out j hjk
     ·have:j=k:=by omega
      rw[this];exact HC.out),HB2⟩
    case measure=>simp[intOf];omega
  ·obtain rfl:k=n:=by omega
   have hd:decide ((k:Int) < (k:Int))=false:=by simp
   have hd2:decide (k < k)=false:=by simp
   go_wp2_with fail
   go_ret
   refine⟨?_,HB.out⟩
   unfold zq
   rw[ET (fun j hj=>HQ.out j (by rw[HN.out,← Tm.cH];exact hj))]
   rfl
theorem vF(L:List Nat)(k:Nat):ed ((L++[k]).map fun(i:Nat)=>(i:Int))=ed (L.map fun(i:Nat)=>(i:Int))++[.int .i64 (k:Nat)]:=by simp[ed]
structure OrS(V w W:World)(rb cap n:Nat)(l:Tm.Its)(ga:Option Addr)(bs:List Value)(oa:Option Addr)(oc:Nat)(out:List Nat):Prop where
 base:Below V.heap.size V w
 bel:Below w.heap.size w W
 oc:OcS V W rb cap n l ga bs w.heap.size (w.heap.size+1) out.length oc (w.heap.size+2) oa out
theorem OrS.push{V w W W':World}{rb cap n:Nat}{l:Tm.Its}{ga:Option Addr}{bs:List Value}{oa oa':Option Addr}{oc oc' k:Nat}{out:List Nat}(h:OrS V w W rb cap n l ga bs oa oc out)(hw:w.heap.size+2≤W.heap.size)
  (ho:an W' (w.heap.size+2) 3 1 oa' (out.length+1) oc' (ed (out.map fun(i:Nat)=>(i:Int))++[.int .i64 (k:Nat)]))(hg:W.grownBy W' (blk oa))(hoff:∀x,oa=some x→w.heap.size+2≤x.block):
  OrS V w (W'.setCell ⟨w.heap.size+1,0,none⟩ (.slice oa' (out.length+1) oc')) rb cap n l ga bs oa' oc' (out++[k]):=by
 have hne:∀b,b < w.heap.size+2→some b≠blk oa:=fun b hb e=>by
  cases ha:oa with
  |none=>rw[ha]at e;cases e
  |some x=>rw[ha]at e;simp only[blk,Option.map_some]at e;injection e with e;have:=hoff x ha;omega
 have hkeep:∀b,b < w.heap.size+2→W'.heap[b]? =W.heap[b]? :=fun b hb=>hg.block b (by omega) (hne b hb)
 have hb2:Below (w.heap.size+2) W W':=⟨hg.os,hg.tape,hg.output,hg.size,hkeep⟩
 have hbel:Below w.heap.size w W':=h.bel.trans (hb2.mono (by omega))
 have hr2:=(h.oc.r2.of_heap (hkeep _ (by omega))).ax 0 (by simp) (.slice oa' (out.length+1) oc')
 have hbs:=hbel.setCell (p:=⟨w.heap.size+1,0,none⟩) (show w.heap.size≤w.heap.size+1 by omega) (.slice oa' (out.length+1) oc')
 refine⟨h.base,hbs,?_,?_,?_,?_,rfl⟩
 ·exact⟨h.oc.it.own,h.oc.it.enc,h.base.trans (hbs.mono h.base.size)⟩
 ·exact(h.oc.r1.of_heap (hkeep _ (by omega))).far (p:=⟨w.heap.size+1,0,none⟩) (show w.heap.size≠w.heap.size+1 by omega) _
 ·rw[Z7];exact hr2
 ·rw[vF,Z7]
  exact ho.far (p:=⟨w.heap.size+1,0,none⟩) (fun x hx=>by subst hx;have:=ho.lt.1;simp only[];omega) _
def FW(o:Option Value):Nat:=match o with
 |some (.slice _ n _)=>n
 |_=>0
theorem Gm{R:List Tm.Sk}{k:Nat}{s:Tm.Sk}(h:R[k]? =some s):Fx.j7 R k=Fx.vl s.ay:=by unfold Fx.j7;rw[h]
theorem Dd(p:Nat→Bool)(k:Nat):((List.range k).filter p).length≤k:=by
 have:=List.length_filter_le p (List.range k)
 simpa using this
theorem FX{R:List Tm.Sk}{m k:Nat}{out:List Nat}(h:Fx.lK R m out=Fx.ord R)(hk:Fx.next R out=some k):∃m',Fx.lK R m' (out++[k])=Fx.ord R:=by
 cases m with
 |zero=>
  have h2:out=Fx.ord R:=h
  rw[h2,Fx.EB]at hk
  cases hk
 |succ m=>
  refine⟨m,?_⟩
  rw[← h]
  conv=>rhs;unfold Fx.lK
  rw[hk]
theorem De{R:List Tm.Sk}{m:Nat}{out:List Nat}(h:Fx.lK R m out=Fx.ord R)(hk:Fx.next R out=none):out=Fx.ord R:=by
 rw[← h]
 cases m with
 |zero=>rfl
 |succ m=>unfold Fx.lK;rw[hk]
theorem pP{R:List Tm.Sk}{out:List Nat}(h:Fx.Good R out):out.length≤R.length:=by
 have h2:=List.Nodup.length_le_of_subset h.nodup (l₂:=List.range R.length) (fun i hi=>List.mem_range.2 (h.lt i hi))
 simpa using h2
theorem Bp(V w:World)(rb cap n:Nat)(l:Tm.Its)(ga:Option Addr)(bs:List Value)(hn:n=Tm.Its.len l)(hn2:n≤100000)(hR:Fx.ju l.row)(h:ItV V w rb l ga cap bs):
  Calls Tryz.prog 98 #[.slice ga n cap] w fun e w'=>Below w.heap.size w w'∧∃oa oc,e= .returned (.slice oa (Fx.ord l.row).length oc)∧an w' w.heap.size 3 1 oa (Fx.ord l.row).length oc (ed ((Fx.ord l.row).map fun(i:Nat)=>(i:Int))):=by
 have hcap:n≤cap:=by rw[hn];exact aT h.own
 obtain⟨V1,hV1⟩:∃V1,V1=(w.alloc (.cells #[.slice ga n cap] 63)).alloc (.cells #[.slice none 0 0] 40):=⟨_,rfl⟩
 have hb1:Below w.heap.size w V1:=by rw[hV1];exact((Y4 _ _).alloc (Z5 _) _).alloc (by simp) _
 have hs0:OrS V w V1 rb cap n l ga bs none 0 []:=by
  refine⟨h.bel,hb1,h.up hb1,?_,?_,an.nil _ _ _ _,rfl⟩ <;> rw[hV1]
  ·exact(ae.new w _ _).alloc _
  ·exact ae.iq _ _ (by simp) _ _
 have hz1:w.heap.size+2≤V1.heap.size:=by rw[hV1];simp
 have HS0:=hid hs0;have HV1:=hid hV1;have HN:=hid hn;have HR:=hid hR;have HZ1:=hid hz1
 have hq1:=hs0.oc.r1.cell0 0 (by simp)
 simp only[Z0]at hq1
 rw[hV1]at hq1
 have HIX:=hid (fun W on oc oa out (hon:on≤100000) hS=>Bo V W rb cap n w.heap.size (w.heap.size+1) on oc (w.heap.size+2) l ga oa bs out hn (by omega) hon hR hS)
 clear hV1 hs0 hb1 h hR hn hz1
 go_enter Tryz.func98,Tryz.ntmps98
 go_wp2_with fail
 rw[← HV1.out]
 go_loopw [8] (fun v8 wr=>∃(k:Nat) (oa:Option Addr) (oc:Nat),v8= .int .i64 k∧k≤n∧Hid (OrS V w wr rb cap n l ga bs oa oc ((List.range k).filter (Fx.j7 l.row)))∧Hid (w.heap.size+2≤wr.heap.size)) (fun v8 _=>n - (intOf v8).toNat)
 case atStart=>exact⟨0,none,0,rfl,Nat.zero_le _,HS0,HZ1⟩
 case round=>
  clear hq1
  obtain⟨k,oa,oc,rfl,hk,HS,HZ⟩:=hrel
  have g1:=HS.out.oc.r1.cell0 0 (by simp);have g2:=HS.out.oc.r2.cell0 0 (by simp)
  simp only[Z0]at g1 g2
  by_cases hlt:k < n
  ·have hki:(k:Int) < (n:Int):=by omega
   have q1:decide ((k:Int) < (n:Int))=true:=Z9 hki
   have q2:decide (k < n)=true:=Z9 hlt
   obtain⟨x,rfl⟩:∃x,ga=some x:=by
    cases ga with
    |none=>have:=HS.out.oc.it.own.aN.1;rw[← HN.out]at this;omega
    |some x=>exact⟨x,rfl⟩
   obtain⟨gb,rfl⟩:∃gb,x=⟨gb,0,none⟩:=⟨x.block,HS.out.oc.it.own.row.1⟩
   obtain⟨s,k0,k1,k4,k5,s3,b6,p8,a12,n12,c12,hs,hrow,hk0,hk4,hw4⟩:=HS.out.oc.it.cells k (by rw[← HN.out];exact hlt)
   have c9:=hrow.cell 9 (by simp)
   simp only[aP,Z0,Z1]at c9
   have HSC:=hid (Gm hs)
   have HLT:=hid hlt
   clear hrow hk0 hk4 hw4 hlt
   cases hsc:Fx.vl s.ay with
   |false=>
    have e9:(av s.ay).1=0∨(av s.ay).1=3:=by cases hr:s.ay <;> rw[hr]at hsc <;> simp[av,Fx.vl]at hsc⊢
    have q3:(((av s.ay).1:Nat):Int)≠1∧(((av s.ay).1:Nat):Int)≠2:=by omega
    have q4:((((av s.ay).1:Nat):Int)==1)=false:=Z8.2 q3.1
    have q5:((((av s.ay).1:Nat):Int)==2)=false:=Z8.2 q3.2
    have q6:((av s.ay).1==1)=false:=Z8.2 (by omega)
    have q7:((av s.ay).1==2)=false:=Z8.2 (by omega)
    have HF:=hid (show(List.range (k+1)).filter (Fx.j7 l.row)=(List.range k).filter (Fx.j7 l.row) by rw[List.range_succ,List.filter_append,List.filter_cons,HSC.out,hsc];simp)
    clear e9 q3 hs hsc
    go_wp2_with fail
    go_roundw
    case rel=>exact⟨k+1,oa,oc,by go_num,by have:=HLT.out;omega,hid (by rw[HF.out];exact HS.out),HZ⟩
    case measure=>have:=HLT.out;simp[intOf];omega
   |true=>
    have e9:(av s.ay).1=1∨(av s.ay).1=2:=by cases hr:s.ay <;> rw[hr]at hsc <;> simp[av,Fx.vl]at hsc⊢
    have HF:=hid (show(List.range (k+1)).filter (Fx.j7 l.row)=(List.range k).filter (Fx.j7 l.row)++[k] by rw[List.range_succ,List.filter_append,List.filter_cons,HSC.out,hsc];simp)
    obtain⟨out,hout⟩:∃out,out=(List.range k).filter (Fx.j7 l.row):=⟨_,rfl⟩
    rw[← hout]at HS HF g2
    have hol:out.length≤k:=by rw[hout];exact Dd _ _
    have hml:out.length+1≤maxLen:=by unfold maxLen;omega
    have hby:(out.length+1) * 8≤140737488355328:=by omega
    have HOW:=hid HS.out.oc.own
    have f2:=HS.out.oc.r2.frozen0 0 (by simp)
    obtain⟨m,hm⟩:∃m,m=out.length:=⟨_,rfl⟩
    rw[← hm]at g2 hml hby HOW
    have HM:=hid hm
    have HPU:=hid (fun a' c' W' ho hg=>HS.out.push (oa':=a') (oc':=c') (W':=W') (k:=k) HZ.out ho hg (fun x hx=>by have:=HS.out.oc.own;subst hx;exact this.lt.1))
    rw[← hm]at HPU
    have HKE:Hid (∀W',wr.grownBy W' (blk oa)→W'.cell? ⟨w.heap.size+1,0,none⟩=some (.slice oa m oc)∧W'.frozen? ⟨w.heap.size+1,0,none⟩=false∧w.heap.size+2≤W'.heap.size):=hid (fun W' hg=>by
     have hkeep:W'.heap[w.heap.size+1]? =wr.heap[w.heap.size+1]? :=hg.block _ (by have:=HZ.out;omega) (fun e=>by
      cases ha:oa with
      |none=>rw[ha]at e;cases e
      |some x=>
       rw[ha]at e;simp only[blk,Option.map_some]at e;injection e with e
       have:=HS.out.oc.own;rw[ha]at this;have:=this.lt.1;omega)
     have hr:=HS.out.oc.r2.of_heap hkeep
     have:=hr.cell0 0 (by simp)
     simp only[Z0]at this
     rw[← HM.out]at this
     exact⟨this,hr.frozen0 0 (by simp),Nat.le_trans HZ.out hg.size⟩)
    clear hs hsc hout hol hm
    rcases e9 with e9|e9
    all_goals
     rw[e9]at c9
     go_wp2_with (with_reducible refine bL _ rfl _ _ 40 rfl (w.heap.size+2) 3 (.int .i64 0) 1 8 Tryz.underlying40 vD rfl (by decide) oa m oc _ rfl HOW.out [.int .i64 (k:Nat)] rfl (by simp[Value.oneCell']) rfl hml hby HZ.out ?_;intro a' cap' w' hown' hgrow hloc hsz' hex;have HPS:=hid (HPU.out a' cap' w' hown' hgrow);obtain⟨y0,z0,hz⟩:=HKE.out w' hgrow;have HZZ:=hid hz;clear hown' hgrow hloc hsz' hex hz)
     go_roundw
     case rel=>exact⟨k+1,a',cap',by go_num,by have:=HLT.out;omega,hid (by rw[HF.out];exact HPS.out),hid (by simpa using HZZ.out)⟩
     case measure=>have:=HLT.out;simp[intOf];omega
  ·obtain rfl:k=n:=by omega
   have hd:decide ((k:Int) < (k:Int))=false:=by simp
   have hd2:decide (k < k)=false:=by simp
   have hrl:l.row.length=k:=by rw[Tm.cH,← HN.out]
   have h0:(List.range k).filter (Fx.j7 l.row)=Fx.Bb l.row:=by unfold Fx.Bb;rw[hrl]
   rw[h0]at HS g2
   have HG:=hid (And.intro (Fx.CZ l.row) (show ∃m,Fx.lK l.row m (Fx.Bb l.row)=Fx.ord l.row from⟨_,rfl⟩))
   have HRL:=hid hrl
   clear hrl h0
   go_wp2_with fail
   go_loopw [5] (fun v5 wt=>∃(out:List Nat) (oa:Option Addr) (oc:Nat),Hid (OrS V w wt rb cap k l ga bs oa oc out)∧Hid (Fx.Good l.row out∧∃m,Fx.lK l.row m out=Fx.ord l.row)∧Hid (w.heap.size+2≤wt.heap.size)) (fun _ wt=>k - FW (wt.cell? ⟨w.heap.size+1,0,none⟩))
   case atStart=>exact⟨_,oa,oc,HS,HG,HZ⟩
   case round=>
    clear g1 g2 HS HG HZ
    obtain⟨out,oa,oc,HS,HG,HZ⟩:=hrel
    have g1:=HS.out.oc.r1.cell0 0 (by simp);have g2:=HS.out.oc.r2.cell0 0 (by simp)
    simp only[Z0]at g1 g2
    have hol:out.length≤k:=by rw[← HRL.out];exact pP HG.out.1
    have HIC:=hid (fun(W:World) hS=>HIX.out W out.length oc oa out (by omega) hS)
    have HME:=hid g2
    obtain⟨nx,hnx⟩:∃nx,nx=Fx.next l.row out:=⟨_,rfl⟩
    have HNX:=hid hnx
    have HOL:=hid hol
    clear hnx hol
    go_wp2_with fail
    refine(HIC.out _ HS.out.oc).mono ?_
    rintro e w2 ⟨rfl,hb2⟩
    unfold zq
    rw[← HNX.out]
    have hS2:OrS V w w2 rb cap k l ga bs oa oc out:=⟨HS.out.base,HS.out.bel.trans (hb2.mono HS.out.bel.size),HS.out.oc.up hb2⟩
    have HS2:=hid hS2
    have g3:=hS2.oc.r2.cell0 0 (by simp)
    simp only[Z0]at g3
    have HZ2:=hid (Nat.le_trans HZ.out hb2.size)
    cases nx with
    |none=>
     have HST:=hid (De HG.out.2.choose_spec HNX.out.symm)
     clear hb2 hS2
     go_wp2_with fail
     go_ret
     refine⟨HS2.out.bel,oa,oc,by rw[HST.out];rfl,?_⟩
     rw[← HST.out]
     exact HS2.out.oc.own.mono (by omega)
    |some j=>
     obtain⟨m',hm'⟩:=FX HG.out.2.choose_spec HNX.out.symm
     have hgd:=Fx.mM HG.out.1 (Fx.mL HNX.out.symm)
     have HG2:=hid (And.intro hgd (show ∃m,Fx.lK l.row m (out++[j])=Fx.ord l.row from⟨m',hm'⟩))
     have hol2:out.length+1≤k:=by have:=pP hgd;rw[HRL.out,Z7]at this;exact this
     have q3:decide ((j:Int) < 0)=false:=Y9 (by omega)
     have hml:out.length+1≤maxLen:=by unfold maxLen;omega
     have hby:(out.length+1) * 8≤140737488355328:=by omega
     have HOW:=hid HS2.out.oc.own
     obtain⟨m,hm⟩:∃m,m=out.length:=⟨_,rfl⟩
     rw[← hm]at g3 hml hby HOW hol2 HME
     have HM:=hid hm
     have HO2:=hid hol2
     have HPU:=hid (fun a' c' W' ho hg=>HS2.out.push (oa':=a') (oc':=c') (W':=W') (k:=j) HZ2.out ho hg (fun x hx=>by have:=HS2.out.oc.own;subst hx;exact this.lt.1))
     rw[← hm]at HPU
     have HKE:Hid (∀W',w2.grownBy W' (blk oa)→W'.cell? ⟨w.heap.size+1,0,none⟩=some (.slice oa m oc)∧W'.frozen? ⟨w.heap.size+1,0,none⟩=false∧w.heap.size+2≤W'.heap.size):=hid (fun W' hg=>by
      have hkeep:W'.heap[w.heap.size+1]? =w2.heap[w.heap.size+1]? :=hg.block _ (by have:=HZ2.out;omega) (fun e=>by
       cases ha:oa with
       |none=>rw[ha]at e;cases e
       |some x=>
        rw[ha]at e;simp only[blk,Option.map_some]at e;injection e with e
        have:=HS2.out.oc.own;rw[ha]at this;have:=this.lt.1;omega)
      have hr:=HS2.out.oc.r2.of_heap hkeep
      have:=hr.cell0 0 (by simp)
      simp only[Z0]at this
      rw[← HM.out]at this
      exact⟨this,hr.frozen0 0 (by simp),Nat.le_trans HZ2.out hg.size⟩)
     clear hm' hgd hm hb2 hS2 hol2 g1 g2
     go_wp2_with (with_reducible refine bL _ rfl _ _ 40 rfl (w.heap.size+2) 3 (.int .i64 0) 1 8 Tryz.underlying40 vD rfl (by decide) oa m oc _ rfl HOW.out [.int .i64 (j:Nat)] rfl (by simp[Value.oneCell']) rfl hml hby HZ2.out ?_;intro a' cap' w' hown' hgrow hloc hsz' hex;have HPS:=hid (HPU.out a' cap' w' hown' hgrow);obtain⟨y0,z0,hz⟩:=HKE.out w' hgrow;have HZZ:=hid hz;clear hown' hgrow hloc hsz' hex hz)
     go_roundw
     case rel=>exact⟨out++[j],a',cap',HPS,HG2,hid (by simpa using HZZ.out)⟩
     case measure=>
      have e1:=HPS.out.oc.r2.cell0 0 (by simp)
      simp only[Z0]at e1
      rw[e1,HME.out]
      show k - (out++[j]).length < k - m
      rw[Z7,← HM.out]
      have:=HO2.out
      simp only[Z6,Y3]
      omega
end
section
set_option maxRecDepth 100000
set_option maxHeartbeats 2000000
open Go Go.RowKit
open Rd
open Ly
theorem vG(k:Tm.Knd):((Tm.aH k:Nat):Int)≠4∧Tm.aH k≠4:=by cases k <;> simp[Tm.aH]
theorem pQ(k:Tm.Knd):(((Tm.aH k:Nat):Int)==4)=false∧(Tm.aH k==4)=false:=⟨Z8.2 (vG k).1,Z8.2 (vG k).2⟩
theorem Br{k:Tm.Knd}(h:∀t,k≠.struct t):(((Tm.aH k:Nat):Int)==3)=false∧(Tm.aH k==3)=false∧(((Tm.aH k:Nat):Int)!=3)=true∧(Tm.aH k !=3)=true:=by
 cases k with
 |struct t=>exact absurd rfl (h t)
 |scalar w=>exact⟨rfl,rfl,rfl,rfl⟩
 |bytes=>exact⟨rfl,rfl,rfl,rfl⟩
theorem nF(U w:World)(rb n cap gi oi gn on B c2 m:Nat)(a g2:Option Addr)(b2:List Nat)(vs2:List Value)(cv:Value)(h:Tm.Hd)(ks:Nds)(hU:Below U.heap.size U w)(hrow:ae U gi oi 70 (Tm.ag h cv))(hk:∀t,h.k≠.struct t)(hK:aQ w B ks g2 c2 b2 vs2):
  Calls Tryz.prog 97 #[.agg #[.slice a n cap],.pointer (some ⟨gi,oi,none⟩),.pointer (some ⟨gn,on,none⟩)] w (ea w B g2 c2 b2 (some ks)):=by
 obtain⟨V1,hV1⟩:∃V1,V1=w.alloc (.cells #[.slice a n cap] 75):=⟨_,rfl⟩
 have hb1:Below w.heap.size w V1:=by rw[hV1];exact(Y4 _ _).alloc (Z5 _) _
 have hr1:=(hrow.below hU hrow.lt).below hb1 (Nat.lt_of_lt_of_le hrow.lt hU.size)
 have c0:=hr1.cell 0 (by simp[Tm.aj])
 simp only[Tm.ag,Z0,Z1,Y2]at c0
 rw[hV1]at c0
 obtain⟨q1,q2⟩:=pQ h.k
 obtain⟨q3,q4,q5,q6⟩:=Br hk
 have HFIN:=hid (show ea w B g2 c2 b2 (some ks) (.returned .nilIface) V1 from⟨Mut.az hb1,_,rfl,rfl,vs2,hK.al fun b _ hl=>hb1.block b hl⟩)
 have HV1:=hid hV1
 clear hU hrow hk hK hb1 hr1 hV1
 go_enter Tryz.func97,Tryz.ntmps97
 go_wp2_with fail
 go_ret
 have:=HFIN.out
 rw[HV1.out]at this
 exact this
theorem Bs(U w:World)(rb n cap gi oi gn on B c2 m ai:Nat)(a g2:Option Addr)(b2:List Nat)(vs2:List Value)(cv sv:Value)(d:Nd)(hU:Below U.heap.size U w)(hrow:ae U gi oi 70 (Tm.au ai cv sv))(hn:ae w gn on 28 (ad d.name d.kind d.at_ d.size 0 d.text (.slice g2 d.kids.len c2)))(hK:aQ w B d.kids g2 c2 b2 vs2):
  Calls Tryz.prog 97 #[.agg #[.slice a n cap],.pointer (some ⟨gi,oi,none⟩),.pointer (some ⟨gn,on,none⟩)] w (ea w B g2 c2 b2 (some d.kids)):=by
 obtain⟨V1,hV1⟩:∃V1,V1=w.alloc (.cells #[.slice a n cap] 75):=⟨_,rfl⟩
 have hb1:Below w.heap.size w V1:=by rw[hV1];exact(Y4 _ _).alloc (Z5 _) _
 have hr1:=(hrow.below hU hrow.lt).below hb1 (Nat.lt_of_lt_of_le hrow.lt hU.size)
 have c0:=hr1.cell 0 (by simp[Tm.au])
 have e4:=(hn.below hb1 hn.lt).cell 4 (by simp[ad])
 simp only[Tm.au,ad,Z0,Z1,Y2]at c0 e4
 rw[hV1]at c0 e4
 have HFIN:=hid (show ea w B g2 c2 b2 (some d.kids) (.returned .nilIface) V1 from⟨Mut.az hb1,_,rfl,rfl,vs2,hK.al fun b _ hl=>hb1.block b hl⟩)
 have HV1:=hid hV1
 clear hU hrow hK hb1 hr1 hV1 hn
 go_enter Tryz.func97,Tryz.ntmps97
 go_wp2_with fail
 go_ret
 have:=HFIN.out
 rw[HV1.out]at this
 exact this
theorem jV{U:World}{rb cap:Nat}{tys:List Tm.Ty}{a:Option Addr}(hE:FxE U rb tys a cap){t:Tm.Ty}(ht:t∈tys)(X:World)(hU:Below U.heap.size U X):
  Calls Tryz.prog 71 #[.agg #[.slice a tys.length cap],.string (aa t.name)] X fun e w'=>Below X.heap.size X w'∧∃ga capb bs,e= .returned (.slice ga t.items.len capb)∧an U (rb+1) 70 13 ga t.items.len capb bs∧Tm.bo U rb t.items bs:=by
 obtain⟨Bt,tvs,h1,h2⟩:=hE.ex
 refine(xY tys U X t.name hU rb cap Bt a tvs h1 h2 hE.few (List.mem_map.2 ⟨t,ht,rfl⟩)).mono ?_
 rintro e w' ⟨hb,t2,ht2,ga,capb,bs,hn,he,ho,hc⟩
 have:=hE.same ht2 ht hn
 subst this
 exact⟨hb,ga,capb,bs,he,ho,hc⟩
theorem Df(U w:World)(rb cap gi oi gn on B c2 ai capc:Nat)(tys:List Tm.Ty)(a g2 gc:Option Addr)(b2:List Nat)(vs2 bsc:List Value)(cv:Value)(d:Nd)(W:Wri)(F:Nds→Option Nds)(body:Tm.Its)(hC:vy U rb tys a cap W F body)(hU:Below U.heap.size U w)(hrow:ae U gi oi 70 (Tm.au ai cv (.slice gc body.len capc)))(hoc:an U (rb+1) 70 13 gc body.len capc bsc)(hec:Tm.bo U rb body bsc)
  (hn:ae w gn on 28 (ad d.name d.kind d.at_ d.size d.val d.text (.slice g2 d.kids.len c2)))(hv:d.val≠0)(hK:aQ w B d.kids g2 c2 b2 vs2)(hB:U.heap.size≤B)(hgn:gn∉aU g2++b2)(hok:d.kids.ok)(htot:d.kids.tot≤800000)(hw:(aG W body d.kids).isSome=true):
  Calls Tryz.prog 97 #[.agg #[.slice a tys.length cap],.pointer (some ⟨gi,oi,none⟩),.pointer (some ⟨gn,on,none⟩)] w (ea w B g2 c2 b2 (F d.kids)):=by
 obtain⟨n,hnn⟩:∃n,n=tys.length:=⟨_,rfl⟩
 obtain⟨m,hm⟩:∃m,m=d.kids.len:=⟨_,rfl⟩
 obtain⟨mb,hmb⟩:∃mb,mb=body.len:=⟨_,rfl⟩
 obtain⟨V1,hV1⟩:∃V1,V1=w.alloc (.cells #[.slice a n cap] 75):=⟨_,rfl⟩
 have hb1:Below w.heap.size w V1:=by rw[hV1];exact(Y4 _ _).alloc (Z5 _) _
 have hr0:ae V1 w.heap.size 0 75 [.slice a n cap]:=by rw[hV1];exact ae.new w _ _
 have hr1:=(hrow.below hU hrow.lt).below hb1 (Nat.lt_of_lt_of_le hrow.lt hU.size)
 have hn1:=hn.below hb1 hn.lt
 have c0:=hr1.cell 0 (by simp[Tm.au])
 have e4:=hn1.cell 4 (by simp[ad])
 simp only[Tm.au,ad,Z0,Z1,Y2]at c0 e4
 rw[hV1]at c0 e4
 have hmem:=hK.mem
 have hgiB:gi < U.heap.size:=hrow.lt
 have hgnw:gn < w.heap.size:=hn.lt
 have hSS:∀X,Mut V1 X (aU g2++b2)→X.cell? ⟨w.heap.size,0,none⟩=some (.slice a n cap)∧X.cell? ⟨gi,oi+12,none⟩=some (.slice gc mb capc)∧X.cell? ⟨gn,on+6,none⟩=some (.slice g2 m c2):=by
  intro X hX
  have k0:=(hr0.of_heap (hX.block w.heap.size hr0.lt (fun hm=>by have:=hmem _ hm;omega))).cell0 0 (by simp)
  have k1:=(hr1.of_heap (hX.block gi hr1.lt (fun hm=>by have:=hmem _ hm;omega))).cell 12 (by simp[Tm.au])
  have k2:=(hn1.of_heap (hX.block gn hn1.lt hgn)).cell 6 (by simp[ad])
  simp only[Tm.au,ad,Z0,Z1]at k0 k1 k2
  rw[hmb,hm]
  exact⟨k0,k1,k2⟩
 have HSS:=hid hSS
 have HBK:Hid (∀X,Below V1.heap.size V1 X→Calls Tryz.prog 70 #[.agg #[.slice a n cap],.slice gc mb capc,.slice g2 m c2] X (ea X B g2 c2 b2 (F d.kids))):=hid (fun X hX=>by
  have hwX:=hb1.trans (hX.mono hb1.size)
  rw[hnn,hmb,hm]
  exact hC X B c2 capc gc g2 bsc vs2 b2 d.kids (hU.trans (hwX.mono hU.size)) hoc hec (hK.al fun b _ hl=>hwX.block b hl) hB hok htot hw)
 have hS1:=hSS V1.drew (Mut.az (Y4 _ _).drew)
 rw[hV1]at hS1
 have q1:(d.val==0)=false:=Z8.2 hv
 have q2:(d.val !=0)=true:=by rw[bne,q1];rfl
 have HV1:=hid hV1
 have HB1:=hid hb1
 rw[← hnn]
 obtain⟨fk,hfk⟩:∃fk,fk=F d.kids:=⟨_,rfl⟩
 rw[← hfk]at HBK⊢
 obtain⟨dv,hdv⟩:∃dv,dv=d.val:=⟨_,rfl⟩
 rw[← hdv]at q1 q2 e4
 clear hC hU hrow hoc hec hn hv hK hB hgn hok htot hw hb1 hr0 hr1 hn1 hSS hV1 hmem hgiB hgnw hm hmb hnn hfk hdv
 go_enter Tryz.func97,Tryz.ntmps97
 go_wp2_with fail
 rw[← HV1.out]at hS1
 rw[← HV1.out]
 go_region_held3 (fun X=>X.cell? ⟨w.heap.size,0,none⟩=some (.slice a n cap)∧X.cell? ⟨gi,oi+12,none⟩=some (.slice gc mb capc)∧X.cell? ⟨gn,on+6,none⟩=some (.slice g2 m c2))
  (first
   |exact hS1
   |assumption)
  (first
   |(go_at_call 70;(with_reducible refine(HBK.out _ ?_).mono ?_);(next=>exact(Y4 V1.heap.size V1).drew);(rintro e w5 ⟨hm5,v,rfl,hv5⟩);(have HM5:=hid (Mut.trans (Mut.az (Y4 V1.heap.size V1).drew) hm5));(have HV5:=hid hv5);(have hS5:=HSS.out w5 HM5.out)))
 all_goals
  go_wp2_with fail
  go_ret
  exact⟨(Mut.az HB1.out).trans HM5.out,v,rfl,HV5.out⟩
end
section
set_option maxRecDepth 100000
set_option maxHeartbeats 2000000
open Go Go.RowKit
open Rd
open Ly
theorem Dg(U w:World)(rb cap gi oi gn on B c2:Nat)(tys:List Tm.Ty)(a g2:Option Addr)(hE:FxE U rb tys a cap)(b2:List Nat)(vs2:List Value)(cv:Value)(d:Nd)(W W':Wri)(F:Nds→Option Nds)(h:Tm.Hd)(t:Tm.Ty)(ht:t∈tys)(hk:h.k= .struct t.name)(hmany:Tm.aY h=false)(hC:vy U rb tys a cap W' F t.items)(hU:Below U.heap.size U w)(hrow:ae U gi oi 70 (Tm.ag h cv))
  (hn:ae w gn on 28 (ad d.name d.kind d.at_ d.size d.val d.text (.slice g2 d.kids.len c2)))(hK:aQ w B d.kids g2 c2 b2 vs2)(hB:U.heap.size≤B)(hgn:gn∉aU g2++b2)(hok:d.kids.ok)(htot:d.kids.tot≤800000)(hw:(aG W' t.items d.kids).isSome=true):
  Calls Tryz.prog 97 #[.agg #[.slice a tys.length cap],.pointer (some ⟨gi,oi,none⟩),.pointer (some ⟨gn,on,none⟩)] w (ea w B g2 c2 b2 (F d.kids)):=by
 obtain⟨n,hnn⟩:∃n,n=tys.length:=⟨_,rfl⟩
 obtain⟨m,hm⟩:∃m,m=d.kids.len:=⟨_,rfl⟩
 obtain⟨mb,hmb⟩:∃mb,mb=t.items.len:=⟨_,rfl⟩
 obtain⟨V1,hV1⟩:∃V1,V1=w.alloc (.cells #[.slice a n cap] 75):=⟨_,rfl⟩
 have hb1:Below w.heap.size w V1:=by rw[hV1];exact(Y4 _ _).alloc (Z5 _) _
 have hr0:ae V1 w.heap.size 0 75 [.slice a n cap]:=by rw[hV1];exact ae.new w _ _
 have hr1:=(hrow.below hU hrow.lt).below hb1 (Nat.lt_of_lt_of_le hrow.lt hU.size)
 have hn1:=hn.below hb1 hn.lt
 have c0:=hr1.cell 0 (by simp[Tm.aj]);have c7:=hr1.cell 7 (by simp[Tm.aj])
 simp only[Tm.ag,hk,hmany,Tm.aH,Z0,Z1,Y2]at c0 c7
 rw[hV1]at c0 c7
 have hmem:=hK.mem
 have hgiB:gi < U.heap.size:=hrow.lt
 have hgnw:gn < w.heap.size:=hn.lt
 have hSS:∀X,Mut V1 X (aU g2++b2)→X.cell? ⟨w.heap.size,0,none⟩=some (.slice a n cap)∧X.cell? ⟨gi,oi+3,none⟩=some (.string (aa t.name))∧X.cell? ⟨gn,on+6,none⟩=some (.slice g2 m c2):=by
  intro X hX
  have k0:=(hr0.of_heap (hX.block w.heap.size hr0.lt (fun hm=>by have:=hmem _ hm;omega))).cell0 0 (by simp)
  have k1:=(hr1.of_heap (hX.block gi hr1.lt (fun hm=>by have:=hmem _ hm;omega))).cell 3 (by simp[Tm.aj])
  have k2:=(hn1.of_heap (hX.block gn hn1.lt hgn)).cell 6 (by simp[ad])
  simp only[Tm.ag,hk,Tm.bp,ad,Z0,Z1]at k0 k1 k2
  rw[hm]
  exact⟨k0,k1,k2⟩
 have HSS:=hid hSS
 have HIT:Hid (∀X,Below V1.heap.size V1 X→Calls Tryz.prog 71 #[.agg #[.slice a n cap],.string (aa t.name)] X fun e w'=>Below X.heap.size X w'∧∃ga capb bs,e= .returned (.slice ga mb capb)∧an U (rb+1) 70 13 ga mb capb bs∧Tm.bo U rb t.items bs):=hid (fun X hX=>by
  have hwX:=hb1.trans (hX.mono hb1.size)
  rw[hnn,hmb]
  exact jV hE ht X (hU.trans (hwX.mono hU.size)))
 have HBK:Hid (∀X ga capb bs,Below V1.heap.size V1 X→an U (rb+1) 70 13 ga mb capb bs→Tm.bo U rb t.items bs→Calls Tryz.prog 70 #[.agg #[.slice a n cap],.slice ga mb capb,.slice g2 m c2] X (ea X B g2 c2 b2 (F d.kids))):=hid (fun X ga capb bs hX h1 h2=>by
  have hwX:=hb1.trans (hX.mono hb1.size)
  rw[hmb]at h1⊢
  rw[hnn,hm]
  exact hC X B c2 capb ga g2 bs vs2 b2 d.kids (hU.trans (hwX.mono hU.size)) h1 h2 (hK.al fun b _ hl=>hwX.block b hl) hB hok htot hw)
 have hS1:=hSS V1.drew (Mut.az (Y4 _ _).drew)
 rw[hV1]at hS1
 have HV1:=hid hV1
 have HB1:=hid hb1
 rw[← hnn]
 obtain⟨fk,hfk⟩:∃fk,fk=F d.kids:=⟨_,rfl⟩
 rw[← hfk]at HBK⊢
 obtain⟨tn,htn⟩:∃tn,tn=t.name:=⟨_,rfl⟩
 rw[← htn]at HIT hS1 HSS
 clear hC hU hrow hn hK hB hgn hok htot hw hb1 hr0 hr1 hn1 hSS hV1 hmem hgiB hgnw hm hmb hnn hfk hk hmany ht hE htn
 go_enter Tryz.func97,Tryz.ntmps97
 go_wp2_with fail
 rw[← HV1.out]at hS1
 rw[← HV1.out]
 go_region_held3 (fun X=>X.cell? ⟨w.heap.size,0,none⟩=some (.slice a n cap)∧X.cell? ⟨gi,oi+3,none⟩=some (.string (aa tn))∧X.cell? ⟨gn,on+6,none⟩=some (.slice g2 m c2))
  (first
   |exact hS1
   |assumption)
  (first
   |(go_at_call 71;(with_reducible refine(HIT.out _ ?_).mono ?_);(next=>exact(Y4 V1.heap.size V1).drew);(rintro e w2 ⟨hb2,ga,capb,bs,rfl,ho2,he2⟩);(have HB2:=hid (Below.trans (Y4 V1.heap.size V1).drew hb2));(have HOE:=hid (And.intro ho2 he2));(have hS2:=HSS.out w2 (Mut.az HB2.out)))
   |(go_at_call 70;(with_reducible refine(HBK.out _ ga capb bs HB2.out HOE.out.1 HOE.out.2).mono ?_);(rintro e w5 ⟨hm5,v,rfl,hv5⟩);(have HM5:=hid (Mut.trans (Mut.az HB2.out) hm5));(have HV5:=hid hv5);(have hS5:=HSS.out w5 HM5.out)))
 all_goals
  go_wp2_with fail
  go_ret
  exact⟨(Mut.az HB1.out).trans HM5.out,v,rfl,HV5.out⟩
structure EaS(V1 wr:World)(B:Nat)(g2:Option Addr)(c2 m k:Nat)(b2:List Nat)(vs2:List Value)(f:Nds→Option Nds)(kids q r:Nds)(W:Wri)(h:Tm.Hd):Prop where
 mu:Mut V1 wr b2
 own:an wr B 28 7 g2 m c2 vs2
 enc:aW wr B (q.app r) b2 vs2
 Dh:q.len=k
 len:q.len+r.len=m
 rest:Fx.vC f q r=Fx.du f kids
 wrt:(cG (ba W h) r).isSome=true
 ok:r.ok
 tot:r.tot≤800000
theorem Di{g:Nd→Option Tm.Wd}{d:Nd}{r:Nds}(h:(cG g (d.put r)).isSome=true):(g d).isSome=true∧(cG g r).isSome=true:=by
 have h2:((g d).bind fun u=>(cG g r).map (u++ ·)).isSome=true:=h
 cases h3:g d with
 |none=>rw[h3]at h2;cases h2
 |some u=>
  cases h4:cG g r with
  |none=>rw[h3,h4]at h2;cases h2
  |some v=>exact⟨rfl,rfl⟩
theorem EaS.step{V1 wr:World}{B c2 m k gb:Nat}{b2:List Nat}{vs2:List Value}{f:Nds→Option Nds}{kids q r:Nds}{W:Wri}{h:Tm.Hd}(hs:EaS V1 wr B (some ⟨gb,0,none⟩) c2 m k b2 vs2 f kids q r W h)(hnd:([gb]++b2).Nodup)(hlen:∀ks p,f ks=some p→p.len=ks.len)(hk:k < m):
  ∃(d:Nd) (r':Nds) (g3:Option Addr) (c3:Nat) (b3:List Nat) (vs3:List Value),r=d.put r'∧aQ wr B d.kids g3 c3 b3 vs3∧(∀x∈aU g3++b3,x∈b2)∧ae wr gb (k * 7) 28 (ad d.name d.kind d.at_ d.size d.val d.text (.slice g3 d.kids.len c3))∧(ba W h d).isSome=true∧d.kids.ok∧d.kids.tot≤800000∧
   (f d.kids=none→Fx.du f kids=none)∧∀(w5:World) (p:Nds) (vs3':List Value),f d.kids=some p→Mut wr w5 (aU g3++b3)→aQ w5 B p g3 c3 b3 vs3'→EaS V1 w5 B (some ⟨gb,0,none⟩) c2 m (k+1) b2 vs2 f kids (q.app (Nd.put {d with kids:=p} .nil)) r' W h:=by
 obtain⟨e1,e2,e3,rfl,e5,e6,e7,e8,e9⟩:=hs
 cases r with
 |nil=>exact absurd hk (by have:Nds.nil.len=0:=rfl;omega)
 |cons nm kd a sz v tx ks r'=>
  have hn2:=List.nodup_append.1 hnd
  obtain⟨g3,c3,b3,vs3,i1,i2,i3,i4⟩:=aW.focus q ⟨nm,kd,a,sz,v,tx,ks⟩ r' b2 vs2 e3 hn2.2.1
  have hrow:=e2.row.2.2.2.2.part (q.len * 7) 7
  rw[Nat.zero_add,i3]at hrow
  obtain⟨w1,w2⟩:=Di (d:=⟨nm,kd,a,sz,v,tx,ks⟩) e7
  have ht:=eN ⟨nm,kd,a,sz,v,tx,ks⟩ r'
  have ht2:(Nds.cons nm kd a sz v tx ks r').tot=(Nd.tot ⟨nm,kd,a,sz,v,tx,ks⟩)+r'.tot:=ht
  have ht3:ks.tot≤Nd.tot ⟨nm,kd,a,sz,v,tx,ks⟩:=by unfold Nd.tot;simp only[];omega
  refine⟨⟨nm,kd,a,sz,v,tx,ks⟩,r',g3,c3,b3,vs3,rfl,i1,i2,hrow,w1,e8.2.1,by simp only[];omega,fun hf=> ?_,fun w5 p vs3' hf hm hk5=> ?_⟩
  ·rw[← e6];exact Fx.yj (d:=⟨nm,kd,a,sz,v,tx,ks⟩) hf
  ·have hpl:p.len=ks.len:=hlen _ _ hf
   refine⟨e1.trans (hm.mono i2),e2.al fun x hx=>hm.block _ (e2.gE x hx) (fun hb=> ?_),?_,?_,?_,?_,w2,e8.2.2,by omega⟩
   ·cases hx
    exact hn2.2.2 gb (by simp) gb (i2 _ hb) rfl
   ·rw[Nds.dA]
    exact i4 w5 p vs3' hm hpl hk5
   ·rw[Nds.cQ];rfl
   ·rw[Nds.cQ]
    have:(Nds.cons nm kd a sz v tx ks r').len=r'.len+1:=rfl
    show q.len+1+r'.len=m
    omega
   ·rw[← e6]
    exact(Fx.yk (d:=⟨nm,kd,a,sz,v,tx,ks⟩) hf).symm
theorem ym(U w:World)(rb cap gi oi gn on B c2:Nat)(tys:List Tm.Ty)(a g2:Option Addr)(hE:FxE U rb tys a cap)(b2:List Nat)(vs2:List Value)(cv:Value)(d:Nd)(W W':Wri)(F:Nds→Option Nds)(h:Tm.Hd)(t:Tm.Ty)(ht:t∈tys)(hk:h.k= .struct t.name)(hmany:Tm.aY h=true)(hWW:∀ks,W t.name ks=aG W' t.items ks)(hC:vy U rb tys a cap W' F t.items)(hU:Below U.heap.size U w)(hrow:ae U gi oi 70 (Tm.ag h cv))
  (hlF:∀ks p,F ks=some p→p.len=ks.len)(hn:ae w gn on 28 (ad d.name d.kind d.at_ d.size d.val d.text (.slice g2 d.kids.len c2)))(hK:aQ w B d.kids g2 c2 b2 vs2)(hB:U.heap.size≤B)(hgn:gn∉aU g2++b2)(hok:d.kids.ok)(htot:d.kids.tot≤800000)(hw:(cG (ba W h) d.kids).isSome=true):
  Calls Tryz.prog 97 #[.agg #[.slice a tys.length cap],.pointer (some ⟨gi,oi,none⟩),.pointer (some ⟨gn,on,none⟩)] w (ea w B g2 c2 b2 (Fx.du F d.kids)):=by
 obtain⟨n,hnn⟩:∃n,n=tys.length:=⟨_,rfl⟩
 obtain⟨m,hm⟩:∃m,m=d.kids.len:=⟨_,rfl⟩
 obtain⟨mb,hmb⟩:∃mb,mb=t.items.len:=⟨_,rfl⟩
 have hm2:m≤100000:=by have:=iL d.kids;omega
 have hcap:m≤c2:=by rw[hm];exact aT hK.own
 obtain⟨V1,hV1⟩:∃V1,V1=w.alloc (.cells #[.slice a n cap] 75):=⟨_,rfl⟩
 have hb1:Below w.heap.size w V1:=by rw[hV1];exact(Y4 _ _).alloc (Z5 _) _
 have hr0:ae V1 w.heap.size 0 75 [.slice a n cap]:=by rw[hV1];exact ae.new w _ _
 have hr1:=(hrow.below hU hrow.lt).below hb1 (Nat.lt_of_lt_of_le hrow.lt hU.size)
 have hn1:=hn.below hb1 hn.lt
 have c0:=hr1.cell 0 (by simp[Tm.aj]);have c7:=hr1.cell 7 (by simp[Tm.aj])
 have d6:=hn1.cell 6 (by simp[ad])
 simp only[Tm.ag,hk,hmany,Tm.aH,ad,Z0,Z1,Y2]at c0 c7 d6
 rw[hV1]at c0 c7 d6
 rw[← hm]at d6
 have hmem:=hK.mem
 have hgiB:gi < U.heap.size:=hrow.lt
 have hgnw:gn < w.heap.size:=hn.lt
 have hSS:∀X,Mut V1 X b2→X.cell? ⟨w.heap.size,0,none⟩=some (.slice a n cap)∧X.cell? ⟨gi,oi+3,none⟩=some (.string (aa t.name))∧X.cell? ⟨gn,on+6,none⟩=some (.slice g2 m c2):=by
  intro X hX
  have hmb:∀x∈b2,x∈aU g2++b2:=fun x hx=>List.mem_append_right _ hx
  have k0:=(hr0.of_heap (hX.block w.heap.size hr0.lt (fun hm=>by have:=hmem _ (hmb _ hm);omega))).cell0 0 (by simp)
  have k1:=(hr1.of_heap (hX.block gi hr1.lt (fun hm=>by have:=hmem _ (hmb _ hm);omega))).cell 3 (by simp[Tm.aj])
  have k2:=(hn1.of_heap (hX.block gn hn1.lt (fun hm=>hgn (hmb _ hm)))).cell 6 (by simp[ad])
  simp only[Tm.ag,hk,Tm.bp,ad,Z0,Z1]at k0 k1 k2
  rw[hm]
  exact⟨k0,k1,k2⟩
 have HSS:=hid hSS
 have HIT:Hid (∀X,Mut V1 X b2→Calls Tryz.prog 71 #[.agg #[.slice a n cap],.string (aa t.name)] X fun e w'=>Below X.heap.size X w'∧∃ga capb bs,e= .returned (.slice ga mb capb)∧an U (rb+1) 70 13 ga mb capb bs∧Tm.bo U rb t.items bs):=hid (fun X hX=>by
  have hUX:Below U.heap.size U X:=(hX.below (hU.trans (hb1.mono hU.size)) (Nat.le_trans hU.size hb1.size) (fun b hb=>by have:=(hmem b (List.mem_append_right _ hb)).1;omega))
  rw[hnn,hmb]
  exact jV hE ht X hUX)
 have HBK:Hid (∀X ga capb bs (d':Nd) g3 c3 b3 vs3 m3,m3=d'.kids.len→Mut V1 X b2→an U (rb+1) 70 13 ga mb capb bs→Tm.bo U rb t.items bs→aQ X B d'.kids g3 c3 b3 vs3→d'.kids.ok→d'.kids.tot≤800000→(ba W h d').isSome=true→Calls Tryz.prog 70 #[.agg #[.slice a n cap],.slice ga mb capb,.slice g3 m3 c3] X (ea X B g3 c3 b3 (F d'.kids))):=hid (fun X ga capb bs d' g3 c3 b3 vs3 m3 hm3 hX h1 h2 hk3 ho3 ht3 hw3=>by
  have hUX:Below U.heap.size U X:=(hX.below (hU.trans (hb1.mono hU.size)) (Nat.le_trans hU.size hb1.size) (fun b hb=>by have:=(hmem b (List.mem_append_right _ hb)).1;omega))
  rw[hmb]at h1⊢
  rw[hnn,hm3]
  exact hC X B c3 capb ga g3 bs vs3 b3 d'.kids hUX h1 h2 hk3 hB ho3 ht3 (by rw[← hWW];exact Fx.bG hk hw3))
 have hE0:EaS V1 V1 B g2 c2 m 0 b2 vs2 F d.kids .nil d.kids W h:=by
  have hkv:=hK.al (w':=V1) fun b _ hl=>hb1.block b hl
  refine⟨Mut.refl _ _,by rw[hm];exact hkv.own,hkv.enc,rfl,by rw[hm];show 0+_=_;omega,?_,hw,hok,htot⟩
  unfold Fx.vC
  cases Fx.du F d.kids <;> rfl
 have HE0:=hid hE0
 have HND:=hid hK.nodup
 have HLF:=hid hlF
 have HV1:=hid hV1
 have HB1:=hid hb1
 rw[← hnn]
 obtain⟨ek,hek⟩:∃ek,ek=Fx.du F d.kids:=⟨_,rfl⟩
 rw[← hek]
 have HEK:=hid hek
 obtain⟨tn,htn⟩:∃tn,tn=t.name:=⟨_,rfl⟩
 rw[← htn]at HIT HSS
 clear hC hU hrow hn hK hB hgn hok htot hw hb1 hr0 hr1 hn1 hSS hV1 hmem hgiB hgnw hm hmb hnn hek hk hmany ht hE htn hlF hE0 hWW
 go_enter Tryz.func97,Tryz.ntmps97
 go_wp2_with fail
 rw[← HV1.out]
 go_loopw [61] (fun v61 wr=>∃(k:Nat) (q r:Nds),v61= .int .i64 k∧k≤m∧Hid (EaS V1 wr B g2 c2 m k b2 vs2 F d.kids q r W h)) (fun v61 _=>m - (intOf v61).toNat)
 case atStart=>exact⟨0,.nil,d.kids,rfl,Nat.zero_le _,HE0⟩
 case round=>
  clear c0 c7 d6
  obtain⟨k,q,r,rfl,hkm,HEA⟩:=hrel
  by_cases hlt:k < m
  ·have hki:(k:Int) < (m:Int):=by omega
   have q1:decide ((k:Int) < (m:Int))=true:=Z9 hki
   have q2:decide (k < m)=true:=Z9 hlt
   obtain⟨x,rfl⟩:∃x,g2=some x:=by
    cases g2 with
    |none=>have:=HEA.out.own.aN.1;omega
    |some x=>exact⟨x,rfl⟩
   obtain⟨gb,rfl⟩:∃gb,x=⟨gb,0,none⟩:=⟨x.block,HEA.out.own.row.1⟩
   obtain⟨⟨nm,kd,at_,sz,val,tx,ks⟩,r',g3,c3,b3,vs3,hr,hk3,hsub,hrow3,hw3,ho3,ht3,hnone,hstep⟩:=HEA.out.step HND.out HLF.out hlt
   simp only[]at hk3 hrow3 ho3 ht3 hnone hstep
   obtain⟨m3,hm3⟩:∃m3,m3=ks.len:=⟨_,rfl⟩
   rw[← hm3]at hrow3
   have hne:gb∉b2:=fun hb=>(List.nodup_append.1 HND.out).2.2 gb (by simp[aU]) gb hb rfl
   have HS3:Hid (∀X,Mut wr X b2→X.cell? ⟨w.heap.size,0,none⟩=some (.slice a n cap)∧X.cell? ⟨gi,oi+3,none⟩=some (.string (aa tn))∧X.cell? ⟨gn,on+6,none⟩=some (.slice (some ⟨gb,0,none⟩) m c2)∧X.cell? ⟨gb,k * 7+6,none⟩=some (.slice g3 m3 c3)):=hid (fun X hX=>by
    obtain⟨x1,x2,x3⟩:=HSS.out X (HEA.out.mu.trans hX)
    have x4:=(hrow3.of_heap (hX.block gb hrow3.lt hne)).cell 6 (by simp[ad])
    simp only[ad,Z0,Z1]at x4
    exact⟨x1,x2,x3,x4⟩)
   have HBK3:Hid (∀X ga capb bs,Below wr.heap.size wr X→an U (rb+1) 70 13 ga mb capb bs→Tm.bo U rb t.items bs→Calls Tryz.prog 70 #[.agg #[.slice a n cap],.slice ga mb capb,.slice g3 m3 c3] X (ea X B g3 c3 b3 (F ks))):=hid (fun X ga capb bs hX h1 h2=>HBK.out X ga capb bs ⟨nm,kd,at_,sz,val,tx,ks⟩ g3 c3 b3 vs3 m3 hm3 (HEA.out.mu.trans (Mut.az hX)) h1 h2 (hk3.al fun b _ hl=>hX.block b hl) ho3 ht3 hw3)
   have HIT3:=hid (fun X (hX:Below wr.heap.size wr X)=>HIT.out X (HEA.out.mu.trans (Mut.az hX)))
   have HSUB:=hid hsub;have HNONE:=hid hnone;have HSTEP:=hid hstep
   obtain⟨fo,hfo⟩:∃fo,fo=F ks:=⟨_,rfl⟩
   rw[← hfo]at HBK3 HNONE
   have HFO:=hid hfo
   have hS1:=HS3.out wr.drew (Mut.az (Y4 wr.heap.size wr).drew)
   have HLT:=hid hlt
   clear hr hk3 hsub hrow3 hw3 ho3 ht3 hnone hstep hm3 hne hfo hlt
   go_wp2_with fail
   go_region_held3 (fun X=>X.cell? ⟨w.heap.size,0,none⟩=some (.slice a n cap)∧X.cell? ⟨gi,oi+3,none⟩=some (.string (aa tn))∧X.cell? ⟨gn,on+6,none⟩=some (.slice (some ⟨gb,0,none⟩) m c2)∧X.cell? ⟨gb,k * 7+6,none⟩=some (.slice g3 m3 c3))
    (first
     |exact hS1
     |assumption)
    (first
     |(go_at_call 71;(with_reducible refine(HIT3.out _ ?_).mono ?_);(next=>exact(Y4 wr.heap.size wr).drew);(rintro e w2 ⟨hb2,ga,capb,bs,rfl,ho2,he2⟩);(have HB2:=hid (Below.trans (Y4 wr.heap.size wr).drew hb2));(have HOE:=hid (And.intro ho2 he2));(have hS2:=HS3.out w2 (Mut.az HB2.out)))
     |(go_at_call 70;(with_reducible refine(HBK3.out _ ga capb bs HB2.out HOE.out.1 HOE.out.2).mono ?_);(rintro e w5 ⟨hm5,v,rfl,hv5⟩);(have HM5:=hid (Mut.trans (Mut.az HB2.out) hm5));(have HV5:=hid hv5);(have hS5:=HS3.out w5 (HM5.out.mono HSUB.out))))
   all_goals
    have hv5:=HV5.out
    unfold EL at hv5
    cases fo with
    |none=>
     simp only[]at hv5
     subst hv5
     go_wp2_with fail
     go_ret
     refine⟨((Mut.az HB1.out).trans ((HEA.out.mu.trans (HM5.out.mono HSUB.out)).mono fun x hx=>List.mem_append_right _ hx)),_,rfl,?_⟩
     rw[HEK.out,HNONE.out (by trivial)]
     rfl
    |some p=>
     simp only[]at hv5
     obtain⟨rfl,vs5,hk5⟩:=hv5
     have HNX:=hid (HSTEP.out w5 p vs5 HFO.out.symm HM5.out hk5)
     clear hk5
     go_wp2_with fail
     go_roundw
     case rel=>exact⟨k+1,_,r',by first|rfl|rw[aw HLT.out hm2],by have:=HLT.out;omega,HNX⟩
     case measure=>(try rw[aw HLT.out hm2]);simp only[intOf];have:=HLT.out;omega
  ·obtain rfl:k=m:=by omega
   have hd:decide ((k:Int) < (k:Int))=false:=by simp
   have hd2:decide (k < k)=false:=by simp
   have hr0:r= .nil:=by
    have h1:=HEA.out.len;have h2:=HEA.out.Dh
    cases r with
    |nil=>rfl
    |cons=>exfalso;simp only[Nds.len]at h1;omega
   subst hr0
   have HQ:=hid (show ek=some q by
    rw[HEK.out,← HEA.out.rest]
    show some (q.app .nil)=some q
    rw[Nds.eL])
   go_wp2_with fail
   go_ret
   refine⟨((Mut.az HB1.out).trans (HEA.out.mu.mono fun x hx=>List.mem_append_right _ hx)),_,rfl,?_⟩
   rw[HQ.out]
   refine⟨rfl,vs2,?_,?_,HND.out⟩
   ·rw[HEA.out.Dh];exact HEA.out.own
   ·have:=HEA.out.enc;rw[Nds.eL]at this;exact this
end
end Go.Proofs.YtlomecfhobehnaaGreatDoor
