import Derived.Test.YtlomecfhobehnaaGreatDoorMgFixSets35
set_option linter.unusedVariables false
set_option linter.unusedSimpArgs false
set_option maxRecDepth 100000
set_option maxHeartbeats 2000000
namespace Go.Proofs.YtlomecfhobehnaaGreatDoor
open Lib (hid)
section
namespace Fx
open Ly Tm
structure jA(R:List Sk):Prop where
 ax:∀(i:Nat) (s:Sk),R[i]? =some s→bw R i s=none
 uniq:∀(i:Nat) (s:Sk),R[i]? =some s→s.wh=false→aV R s.name=(i:Int)
def kC:Its→Prop
 | .nil=>True
 | .cons _ l=>kC l
 | .when _ _ b l=>(jA b.row∧kC b)∧kC l
theorem nV{R:List Sk}:∀(l:List Sk) (b:Nat),dL R b l=none→∀(i:Nat) (s:Sk),l[i]? =some s→bw R (b+i) s=none
 |[],b,_,i,s,h=>by cases h
 |s0::l,b,hr,i,s,h=>by
  unfold dL at hr;cases h1:bw R b s0 with
  |some e=>rw[h1]at hr;cases hr
  |none=>
   rw[h1]at hr;cases i with
   |zero=>cases h;exact h1
   |succ i=>
    have:=nV l (b+1) hr i s h;rw[show b+(i+1)=b+1+i by omega];exact this
def GO(R:List Sk):Prop:=∀(i j:Nat) (s t:Sk),R[i]? =some s→R[j]? =some t→s.wh=false→t.wh=false→s.name=t.name→i=j
theorem Ca{R:List Sk}(h:GO R){i:Nat}{s:Sk}(hs:R[i]? =some s)(hw:s.wh=false):aV R s.name=(i:Int):=by
 have hi:=(List.getElem?_eq_some_iff.1 hs).1;have he:=(List.getElem?_eq_some_iff.1 hs).2;have:R.findIdx? (called s.name)=some i:=by
  rw[List.findIdx?_eq_some_iff_getElem];refine⟨hi,by rw[he];simp[called,hw],fun j hji=> ?_⟩;intro hc;unfold called at hc;simp only[Bool.and_eq_true,Bool.not_eq_true',beq_iff_eq]at hc;have:=h j i R[j] s (Y1 (by omega)) hs hc.1 hw hc.2;omega
 unfold aV;rw[this]
theorem nW{R:List Sk}(h:dr R=none)(hd:GO R):jA R:=by
 refine⟨fun i s hs=> ?_,fun i s hs hw=>Ca hd hs hw⟩;unfold dr at h;cases h1:dL R 0 R with
 |some e=>rw[h1]at h;cases h
 |none=>have:=nV R 0 h1 i s hs;rw[Nat.zero_add]at this;exact this
theorem j7{ts:List Wd}:∀(l:Its) (ns seen ns' seen':List Wd),bC ts l ns seen= .ok ns' seen'→(∀x∈ns,x∈ns')∧(∀s∈l.row,s.wh=false→s.name∉ns∧s.name∈ns')∧GO l.row∧kC l
 | .nil,ns,seen,ns',seen',e=>by
  unfold bC at e;injection e with e1 e2
  subst e1;exact⟨fun x hx=>hx,(fun s hs=>by cases hs),(fun i j s t h=>by cases h),trivial⟩
 | .cons h l,ns,seen,ns',seen',e=>by
  unfold bC at e;split at e
  ·cases e
  ·rename_i hn
   split at e
   ·cases e
   ·split at e
    ·obtain⟨h1,h2,h3,h4⟩:=j7 l _ _ _ _ e;have hn2:h.name∉ns:=by simpa using hn
     refine⟨fun x hx=>h1 x (List.mem_cons_of_mem _ hx),fun s hs hw=> ?_,fun i j s t hi hj ws wt hst=> ?_,h4⟩
     ·rcases List.mem_cons.1 hs with rfl|hs
      ·exact⟨hn2,h1 _ (by simp[skH])⟩
      ·have:=h2 s hs hw;exact⟨fun hm=>this.1 (List.mem_cons_of_mem _ hm),this.2⟩
     ·cases i with
      |zero=>
       cases j with
       |zero=>rfl
       |succ j=>
        cases hi;have:=(h2 t (List.mem_of_getElem? hj) wt).1;exact absurd (by rw[← hst];simp[skH]) this
      |succ i=>
       cases j with
       |zero=>
        cases hj;have:=(h2 s (List.mem_of_getElem? hi) ws).1;exact absurd (by rw[hst];simp[skH]) this
       |succ j=>rw[h3 i j s t hi hj ws wt hst]
    ·cases e
 | .when a c b l,ns,seen,ns',seen',e=>by
  unfold bC at e;split at e
  ·cases hb:bC ts b ns seen with
   |bad x=>rw[hb]at e;cases e
   |ok n2 s2=>
    rw[hb]at e;simp only[]at e;split at e
    ·cases e
    ·rename_i hr
     obtain⟨h1,h2,h3,h4⟩:=j7 b _ _ _ _ hb;obtain⟨g1,g2,g3,g4⟩:=j7 l _ _ _ _ e;refine⟨fun x hx=>g1 x (h1 x hx),fun s hs hw=> ?_,fun i j s t hi hj ws wt hst=> ?_,⟨⟨nW hr h3,h4⟩,g4⟩⟩
     ·rcases List.mem_cons.1 hs with rfl|hs
      ·cases hw
      ·have:=g2 s hs hw;exact⟨fun hm=>this.1 (h1 _ hm),this.2⟩
     ·cases i with
      |zero=>cases hi;cases ws
      |succ i=>
       cases j with
       |zero=>cases hj;cases wt
       |succ j=>rw[g3 i j s t hi hj ws wt hst]
  ·cases e
theorem DX:∀(l:List Ty) (ts:List Wd),chk ts l=none→∀t∈l,jA t.items.row∧kC t.items
 |[],ts,_,t,ht=>by cases ht
 |t0::l,ts,h,t,ht=>by
  unfold chk at h;split at h
  ·cases h
  ·cases hb:bC ts t0.items [] []with
   |bad x=>rw[hb]at h;cases h
   |ok n2 s2=>
    rw[hb]at h;simp only[]at h;split at h
    ·cases h
    ·rename_i hr
     obtain⟨h1,h2,h3,h4⟩:=j7 _ _ _ _ _ hb;rcases List.mem_cons.1 ht with rfl|ht
     ·exact⟨nW hr h3,h4⟩
     ·exact DX l _ h t ht
structure yV(R:List Sk)(i:Nat)(r:Rl)(a b:Nat):Prop where
 first:aV R (bg r)=(a:Int)
 last:dc R r=(b:Int)
 le:a≤b
 lt:b < R.length
theorem FJ{R:List Sk}(h:jA R){i:Nat}{s:Sk}(hs:R[i]? =some s)(hr:isNone s.ax=false):∃a b,yV R i s.ax a b:=by
 have h1:=h.ax i s hs;unfold bw at h1;rw[hr]at h1;simp only[Bool.false_eq_true,if_false]at h1;split at h1
 ·cases h1
 ·rename_i g1
  split at h1
  ·cases h1
  ·split at h1
   ·cases h1
   ·rename_i g2
    rw[not_or]at g1;have hb:dc R s.ax < R.length:=by
     unfold dc;split
     ·unfold aV;cases hf:R.findIdx? (called (cW s.ax))with
      |none=>simp only[];omega
      |some k=>have:=(List.findIdx?_eq_some_iff_getElem.1 hf).1;simp only[];omega
     ·unfold aV;cases hf:R.findIdx? (called (bg s.ax))with
      |none=>simp only[];omega
      |some k=>have:=(List.findIdx?_eq_some_iff_getElem.1 hf).1;simp only[];omega
    exact⟨(aV R (bg s.ax)).toNat,(dc R s.ax).toNat,by omega,by omega,by omega,by omega⟩
theorem sr{f:Nds→Option Nds}:∀(ks p:Nds),dD f ks=some p→p.len=ks.len
 | .nil,p,h=>by cases h;rfl
 | .cons a b c d e t g r,p,h=>by
  unfold dD at h;obtain⟨g',_,h2⟩:=Option.bind_eq_some_iff.1 h;obtain⟨q,h3,rfl⟩:=Option.map_eq_some_iff.1 h2;simp only[Nds.len,sr r q h3]
theorem DY{C:Wd→Nat}{W:Wri}{l:Its}{ks p:Nds}{i:Nat}(h:gp C W l ks i=some p):p.len=ks.len:=by
 unfold gp at h;split at h
 ·cases h;rfl
 ·split at h
  ·cases h;exact lY _ _ _
  ·cases h
theorem wb{C:Wd→Nat}{W:Wri}{l:Its}:∀(O:List Nat) (ks p:Nds),eE C W l O ks=some p→p.len=ks.len
 |[],ks,p,h=>by cases h;rfl
 |i::O,ks,p,h=>by
  unfold eE at h;obtain⟨q,h1,h2⟩:=Option.bind_eq_some_iff.1 h;rw[wb O q p h2,DY h1]
def DZ(B:Fxr):Prop:=∀nm ks p,B nm ks=some p→p.len=ks.len
theorem FK{B:Fxr}(hB:DZ B){h:Hd}{ks p:Nds}(hh:hdF B h ks=some p):p.len=ks.len:=by
 unfold hdF at hh;split at hh
 ·split at hh
  ·exact sr _ _ hh
  ·exact hB _ _ _ hh
 ·cases hh;rfl
theorem lh{C:Wd→Nat}{W:Wri}{B:Fxr}:∀(l:Its) (ks p:Nds),aM C W B l ks=some p→p.len=ks.len
 | .nil,ks,p,h=>by unfold aM at h;cases h;rfl
 | .cons h l,.nil,p,hh=>by unfold aM at hh;cases hh;rfl
 | .when ..,.nil,p,h=>by unfold aM at h;cases h;rfl
 | .cons h l,.cons a b c d e f g r,p,hh=>by
  unfold aM at hh;obtain⟨g',_,h2⟩:=Option.bind_eq_some_iff.1 hh;obtain⟨q,h3,rfl⟩:=Option.map_eq_some_iff.1 h2;simp only[Nds.len,lh l r q h3]
 | .when p0 q0 body l,.cons a b c d e f g r,p,hh=>by
  unfold aM at hh;obtain⟨g',_,h2⟩:=Option.bind_eq_some_iff.1 hh;obtain⟨q,h3,rfl⟩:=Option.map_eq_some_iff.1 h2;simp only[Nds.len,lh l r q h3]
theorem we{C:Wd→Nat}{W:Wri}{B:Fxr}{l:Its}{ks p:Nds}(h:fj C W B l ks=some p):p.len=ks.len:=by
 unfold fj at h;obtain⟨q,h1,h2⟩:=Option.bind_eq_some_iff.1 h;rw[wb _ _ _ h2,lh _ _ _ h1]
theorem qh{C:Wd→Nat}:∀L:List Ty,DZ (dj C L)
 |[],nm,ks,p,h=>by cases h;rfl
 |t::r,nm,ks,p,h=>by
  unfold dj at h;split at h
  ·exact we h
  ·exact qh r nm ks p h
def wj(f:Nds→Option Nds)(q r:Nds):Option Nds:=(dD f r).map (q.app ·)
theorem yW{f:Nds→Option Nds}{q r:Nds}{d:Nd}(h:f d.kids=none):wj f q (d.put r)=none:=by
 show((dD f (.cons d.name d.kind d.at_ d.size d.val d.text d.kids r)).map _)=none;unfold dD;rw[h];rfl
theorem yX{f:Nds→Option Nds}{q r g:Nds}{d:Nd}(h:f d.kids=some g):wj f q (d.put r)=wj f (q.app (Nd.put {d with kids:=g} .nil)) r:=by
 show((dD f (.cons d.name d.kind d.at_ d.size d.val d.text d.kids r)).map _)=(dD f r).map _
 conv=>lhs;unfold dD
 rw[h];simp only[Option.bind_some,Option.map_map]
 congr 1
 funext z
 simp only[Function.comp,Nds.dF];rfl
def whF(C:Wd→Nat)(W:Wri)(B:Fxr)(body:Its)(e:Int)(g:Nds):Option Nds:=if e=0 then some g else fj C W B body g
def mh(C:Wd→Nat)(W:Wri)(B:Fxr)(q:Nds)(l:Its)(r:Nds):Option Nds:=(aM C W B l r).map (q.app ·)
theorem qY{C:Wd→Nat}{W:Wri}{B:Fxr}{q r:Nds}{h:Hd}{l:Its}{d:Nd}(hh:hdF B h d.kids=none):mh C W B q (.cons h l) (d.put r)=none:=by
 show((aM C W B (.cons h l) (.cons d.name d.kind d.at_ d.size d.val d.text d.kids r)).map _)=none;unfold aM;rw[hh];rfl
theorem D0{C:Wd→Nat}{W:Wri}{B:Fxr}{q r g:Nds}{h:Hd}{l:Its}{d:Nd}(hh:hdF B h d.kids=some g):mh C W B q (.cons h l) (d.put r)=mh C W B (q.app (Nd.put {d with kids:=g} .nil)) l r:=by
 show((aM C W B (.cons h l) (.cons d.name d.kind d.at_ d.size d.val d.text d.kids r)).map _)=(aM C W B l r).map _
 conv=>lhs;unfold aM
 rw[hh];simp only[Option.bind_some,Option.map_map]
 congr 1
 funext z
 simp only[Function.comp,Nds.dF];rfl
theorem qZ{C:Wd→Nat}{W:Wri}{B:Fxr}{q r:Nds}{a:Nat}{c:Ex.X}{body l:Its}{d:Nd}(hh:whF C W B body d.val d.kids=none):mh C W B q (.when a c body l) (d.put r)=none:=by
 show((aM C W B (.when a c body l) (.cons d.name d.kind d.at_ d.size d.val d.text d.kids r)).map _)=none;unfold whF fj at hh
 conv=>lhs;unfold aM
 rw[hh];rfl
theorem D1{C:Wd→Nat}{W:Wri}{B:Fxr}{q r g:Nds}{a:Nat}{c:Ex.X}{body l:Its}{d:Nd}(hh:whF C W B body d.val d.kids=some g):mh C W B q (.when a c body l) (d.put r)=mh C W B (q.app (Nd.put {d with kids:=g} .nil)) l r:=by
 show((aM C W B (.when a c body l) (.cons d.name d.kind d.at_ d.size d.val d.text d.kids r)).map _)=(aM C W B l r).map _;unfold whF fj at hh
 conv=>lhs;unfold aM
 rw[hh];simp only[Option.bind_some,Option.map_map]
 congr 1
 funext z
 simp only[Function.comp,Nds.dF];rfl
end Fx
end
section
open Go.RowKit
open Rd
theorem wk:(Tryz.prog.info? 3).map (fun i=>(i.zero,i.size,i.bytes))=some (some (.int .i64 0),1,8):=by kernel_rfl
def Ah(R:List Tm.Sk)(out:List Nat):Int:=match Fx.next R out with
 |some k=>(k:Int)
 |none=> -1
theorem FL{R:List Tm.Sk}{out:List Nat}{k:Nat}(hk:k < R.length)(h1:∀j,j < k→Fx.ready R out j=false)(h2:Fx.ready R out k=true):Fx.next R out=some k:=by
 unfold Fx.next;rw[List.find?_range_eq_some];exact⟨h2,List.mem_range.2 hk,fun j hj=>by rw[h1 j hj];rfl⟩
theorem FM{R:List Tm.Sk}{out:List Nat}(h1:∀j,j < R.length→Fx.ready R out j=false):Fx.next R out=none:=by
 unfold Fx.next;rw[List.find?_eq_none];intro j hj;rw[h1 j (List.mem_range.1 hj)];simp
theorem Cb(V w:World)(rb cap n lb ob on oc B:Nat)(l:Tm.Its)(ga oa:Option Addr)(bs:List Value)(out:List Nat)(hn:n=Tm.Its.len l)(hn2:n≤100000)(hon:on≤100000)(hR:Fx.jA l.row)(h:OcS V w rb cap n l ga bs lb ob on oc B oa out):
  Calls Tryz.prog 120 #[.slice ga n cap,.func (.func 121) #[] #[.pointer (some ⟨lb,0,none⟩),.pointer (some ⟨ob,0,none⟩)]] w fun e w'=>e= .returned (.int .i64 (Ah l.row out))∧Below w.heap.size w w':=by
 have hcap:n≤cap:=by rw[hn];exact aT h.it.own
 have HH:=hid h;have HN:=hid hn;have HR:=hid hR;clear h hn hR;go_enter Tryz.func120,Tryz.ntmps120;go_wp2_with fail;go_loopw [8] (fun v8 wr=>∃k:Nat,v8= .int .i64 k∧k≤n∧Hid (∀j,j < k→Fx.ready l.row out j=false)∧Hid (Below w.heap.size w wr)) (fun v8 _=>n - (intOf v8).toNat)
 case atStart=>exact⟨0,rfl,Nat.zero_le _,hid (fun j hj=>absurd hj (Nat.not_lt_zero _)),hid (Y4 _ _)⟩
 case round=>
  obtain⟨k,rfl,hk,HQ,HB⟩:=hrel
  by_cases hlt:k < n
  ·have hki:(k:Int) < (n:Int):=by omega
   have q1:decide ((k:Int) < (n:Int))=true:=Z9 hki;have q2:decide (k < n)=true:=Z9 hlt;obtain⟨x,rfl⟩:∃x,ga=some x:=by
    cases ga with
    |none=>have:=HH.out.it.own.aO.1;rw[← HN.out]at this;omega
    |some x=>exact⟨x,rfl⟩
   obtain⟨gb,rfl⟩:∃gb,x=⟨gb,0,none⟩:=⟨x.block,HH.out.it.own.row.1⟩;have hW:=HH.out.up HB.out;obtain⟨s,k0,k1,k4,k5,s3,b6,p8,a12,n12,c12,hs,hrow,hk0,hk4,hw4⟩:=hW.it.cells k (by rw[← HN.out];exact hlt);have HF:=hid (FI V wr rb cap n lb ob on oc B k l (some ⟨gb,0,none⟩) oa bs out HN.out hn2 hon hW s k0 k1 k4 k5 s3 b6 p8 a12 n12 c12 hk0 hk4 hs (fun hw=>HR.out.uniq k s hs hw) hlt);have HS:=hid hs;have HLT:=hid hlt;have c0:=hrow.cell 0 (by simp);have c1:=hrow.cell 1 (by simp);have c2:=hrow.cell 2 (by simp);have c3:=hrow.cell 3 (by simp);have c4:=hrow.cell 4 (by simp);have c5:=hrow.cell 5 (by simp);have c6:=hrow.cell 6 (by simp);have c7:=hrow.cell 7 (by simp);have c8:=hrow.cell 8 (by simp);have c9:=hrow.cell 9 (by simp);have c10:=hrow.cell 10 (by simp);have c11:=hrow.cell 11 (by simp);have c12:=hrow.cell 12 (by simp);simp only[aP,Z0,Z1,Y2]at c0 c1 c2 c3 c4 c5 c6 c7 c8 c9 c10 c11 c12;clear hrow hs hk0 hk4 hw4 hW;go_wp2_with fail;refine HF.out.mono ?_;rintro e w2 ⟨rfl,hb2⟩;have HB2:=hid (HB.out.trans (hb2.mono HB.out.size));cases hc:Fx.ready l.row out k with
   |true=>
    have HC:=hid hc;clear hc hb2;go_wp2_with fail;go_ret;refine⟨?_,HB2.out⟩;unfold Ah;rw[FL (by rw[Tm.cP,← HN.out];exact HLT.out) HQ.out HC.out];rfl
   |false=>
    have HC:=hid hc;clear hc hb2;go_wp2_with fail;go_roundw
    case rel=>exact⟨k+1,by go_num,by omega,hid (fun j hj=>by
     by_cases hjk:j < k
     ·exact HQ.out j hjk
     ·have:j=k:=by omega
      rw[this];exact HC.out),HB2⟩
    case measure=>simp[intOf];omega
  ·obtain rfl:k=n:=by omega
   have hd:decide ((k:Int) < (k:Int))=false:=by simp
   have hd2:decide (k < k)=false:=by simp
   go_wp2_with fail;go_ret;refine⟨?_,HB.out⟩;unfold Ah;rw[FM (fun j hj=>HQ.out j (by rw[HN.out,← Tm.cP];exact hj))];rfl
theorem wm(L:List Nat)(k:Nat):ej ((L++[k]).map fun(i:Nat)=>(i:Int))=ej (L.map fun(i:Nat)=>(i:Int))++[.int .i64 (k:Nat)]:=by simp[ej]
structure OrS(V w W:World)(rb cap n:Nat)(l:Tm.Its)(ga:Option Addr)(bs:List Value)(oa:Option Addr)(oc:Nat)(out:List Nat):Prop where
 base:Below V.heap.size V w
 bel:Below w.heap.size w W
 oc:OcS V W rb cap n l ga bs w.heap.size (w.heap.size+1) out.length oc (w.heap.size+2) oa out
theorem OrS.push{V w W W':World}{rb cap n:Nat}{l:Tm.Its}{ga:Option Addr}{bs:List Value}{oa oa':Option Addr}{oc oc' k:Nat}{out:List Nat}(h:OrS V w W rb cap n l ga bs oa oc out)(hw:w.heap.size+2≤W.heap.size)
  (ho:an W' (w.heap.size+2) 3 1 oa' (out.length+1) oc' (ej (out.map fun(i:Nat)=>(i:Int))++[.int .i64 (k:Nat)]))(hg:W.grownBy W' (blk oa))(hoff:∀x,oa=some x→w.heap.size+2≤x.block):
  OrS V w (W'.setCell ⟨w.heap.size+1,0,none⟩ (.slice oa' (out.length+1) oc')) rb cap n l ga bs oa' oc' (out++[k]):=by
 have hne:∀b,b < w.heap.size+2→some b≠blk oa:=fun b hb e=>by
  cases ha:oa with
  |none=>rw[ha]at e;cases e
  |some x=>rw[ha]at e;simp only[blk,Option.map_some]at e;injection e with e;have:=hoff x ha;omega
 have hkeep:∀b,b < w.heap.size+2→W'.heap[b]? =W.heap[b]? :=fun b hb=>hg.block b (by omega) (hne b hb)
 have hb2:Below (w.heap.size+2) W W':=⟨hg.os,hg.tape,hg.output,hg.size,hkeep⟩;have hbel:Below w.heap.size w W':=h.bel.trans (hb2.mono (by omega));have hr2:=(h.oc.r2.of_heap (hkeep _ (by omega))).aw 0 (by simp) (.slice oa' (out.length+1) oc');have hbs:=hbel.setCell (p:=⟨w.heap.size+1,0,none⟩) (show w.heap.size≤w.heap.size+1 by omega) (.slice oa' (out.length+1) oc');refine⟨h.base,hbs,?_,?_,?_,?_,rfl⟩
 ·exact⟨h.oc.it.own,h.oc.it.enc,h.base.trans (hbs.mono h.base.size)⟩
 ·exact(h.oc.r1.of_heap (hkeep _ (by omega))).far (p:=⟨w.heap.size+1,0,none⟩) (show w.heap.size≠w.heap.size+1 by omega) _
 ·rw[Z7];exact hr2
 ·rw[wm,Z7];exact ho.far (p:=⟨w.heap.size+1,0,none⟩) (fun x hx=>by subst hx;have:=ho.lt.1;simp only[];omega) _
def GP(o:Option Value):Nat:=match o with
 |some (.slice _ n _)=>n
 |_=>0
theorem Hg{R:List Tm.Sk}{k:Nat}{s:Tm.Sk}(h:R[k]? =some s):Fx.kh R k=Fx.vL s.ax:=by unfold Fx.kh;rw[h]
theorem D2(p:Nat→Bool)(k:Nat):((List.range k).filter p).length≤k:=by
 have:=List.length_filter_le p (List.range k);simpa using this
theorem GQ{R:List Tm.Sk}{m k:Nat}{out:List Nat}(h:Fx.lX R m out=Fx.ord R)(hk:Fx.next R out=some k):∃m',Fx.lX R m' (out++[k])=Fx.ord R:=by
 cases m with
 |zero=>
  have h2:out=Fx.ord R:=h;rw[h2,Fx.Fu]at hk;cases hk
 |succ m=>
  refine⟨m,?_⟩;rw[← h]
  conv=>rhs;unfold Fx.lX
  rw[hk]
theorem D3{R:List Tm.Sk}{m:Nat}{out:List Nat}(h:Fx.lX R m out=Fx.ord R)(hk:Fx.next R out=none):out=Fx.ord R:=by
 rw[← h];cases m with
 |zero=>rfl
 |succ m=>unfold Fx.lX;rw[hk]
theorem qi{R:List Tm.Sk}{out:List Nat}(h:Fx.Good R out):out.length≤R.length:=by
 have h2:=List.Nodup.length_le_of_subset h.nodup (l₂:=List.range R.length) (fun i hi=>List.mem_range.2 (h.lt i hi));simpa using h2
theorem Cc(V w:World)(rb cap n:Nat)(l:Tm.Its)(ga:Option Addr)(bs:List Value)(hn:n=Tm.Its.len l)(hn2:n≤100000)(hR:Fx.jA l.row)(h:ItV V w rb l ga cap bs):
  Calls Tryz.prog 98 #[.slice ga n cap] w fun e w'=>Below w.heap.size w w'∧∃oa oc,e= .returned (.slice oa (Fx.ord l.row).length oc)∧an w' w.heap.size 3 1 oa (Fx.ord l.row).length oc (ej ((Fx.ord l.row).map fun(i:Nat)=>(i:Int))):=by
 have hcap:n≤cap:=by rw[hn];exact aT h.own
 obtain⟨V1,hV1⟩:∃V1,V1=(w.alloc (.cells #[.slice ga n cap] 63)).alloc (.cells #[.slice none 0 0] 40):=⟨_,rfl⟩;have hb1:Below w.heap.size w V1:=by rw[hV1];exact((Y4 _ _).alloc (Z5 _) _).alloc (by simp) _
 have hs0:OrS V w V1 rb cap n l ga bs none 0 []:=by
  refine⟨h.bel,hb1,h.up hb1,?_,?_,an.nil _ _ _ _,rfl⟩ <;> rw[hV1]
  ·exact(ad.new w _ _).alloc _
  ·exact ad.ix _ _ (by simp) _ _
 have hz1:w.heap.size+2≤V1.heap.size:=by rw[hV1];simp
 have HS0:=hid hs0;have HV1:=hid hV1;have HN:=hid hn;have HR:=hid hR;have HZ1:=hid hz1;have hq1:=hs0.oc.r1.cell0 0 (by simp);simp only[Z0]at hq1;rw[hV1]at hq1;have HIX:=hid (fun W on oc oa out (hon:on≤100000) hS=>Cb V W rb cap n w.heap.size (w.heap.size+1) on oc (w.heap.size+2) l ga oa bs out hn (by omega) hon hR hS);clear hV1 hs0 hb1 h hR hn hz1;go_enter Tryz.func98,Tryz.ntmps98;go_wp2_with fail;rw[← HV1.out];go_loopw [8] (fun v8 wr=>∃(k:Nat) (oa:Option Addr) (oc:Nat),v8= .int .i64 k∧k≤n∧Hid (OrS V w wr rb cap n l ga bs oa oc ((List.range k).filter (Fx.kh l.row)))∧Hid (w.heap.size+2≤wr.heap.size)) (fun v8 _=>n - (intOf v8).toNat)
 case atStart=>exact⟨0,none,0,rfl,Nat.zero_le _,HS0,HZ1⟩
 case round=>
  clear hq1;obtain⟨k,oa,oc,rfl,hk,HS,HZ⟩:=hrel;have g1:=HS.out.oc.r1.cell0 0 (by simp);have g2:=HS.out.oc.r2.cell0 0 (by simp);simp only[Z0]at g1 g2
  by_cases hlt:k < n
  ·have hki:(k:Int) < (n:Int):=by omega
   have q1:decide ((k:Int) < (n:Int))=true:=Z9 hki;have q2:decide (k < n)=true:=Z9 hlt;obtain⟨x,rfl⟩:∃x,ga=some x:=by
    cases ga with
    |none=>have:=HS.out.oc.it.own.aO.1;rw[← HN.out]at this;omega
    |some x=>exact⟨x,rfl⟩
   obtain⟨gb,rfl⟩:∃gb,x=⟨gb,0,none⟩:=⟨x.block,HS.out.oc.it.own.row.1⟩;obtain⟨s,k0,k1,k4,k5,s3,b6,p8,a12,n12,c12,hs,hrow,hk0,hk4,hw4⟩:=HS.out.oc.it.cells k (by rw[← HN.out];exact hlt);have c9:=hrow.cell 9 (by simp);simp only[aP,Z0,Z1]at c9;have HSC:=hid (Hg hs);have HLT:=hid hlt;clear hrow hk0 hk4 hw4 hlt;cases hsc:Fx.vL s.ax with
   |false=>
    have e9:(av s.ax).1=0∨(av s.ax).1=3:=by cases hr:s.ax <;> rw[hr]at hsc <;> simp[av,Fx.vL]at hsc⊢
    have q3:(((av s.ax).1:Nat):Int)≠1∧(((av s.ax).1:Nat):Int)≠2:=by omega
    have q4:((((av s.ax).1:Nat):Int)==1)=false:=Z8.2 q3.1;have q5:((((av s.ax).1:Nat):Int)==2)=false:=Z8.2 q3.2;have q6:((av s.ax).1==1)=false:=Z8.2 (by omega);have q7:((av s.ax).1==2)=false:=Z8.2 (by omega);have HF:=hid (show(List.range (k+1)).filter (Fx.kh l.row)=(List.range k).filter (Fx.kh l.row) by rw[List.range_succ,List.filter_append,List.filter_cons,HSC.out,hsc];simp);clear e9 q3 hs hsc;go_wp2_with fail;go_roundw
    case rel=>exact⟨k+1,oa,oc,by go_num,by have:=HLT.out;omega,hid (by rw[HF.out];exact HS.out),HZ⟩
    case measure=>have:=HLT.out;simp[intOf];omega
   |true=>
    have e9:(av s.ax).1=1∨(av s.ax).1=2:=by cases hr:s.ax <;> rw[hr]at hsc <;> simp[av,Fx.vL]at hsc⊢
    have HF:=hid (show(List.range (k+1)).filter (Fx.kh l.row)=(List.range k).filter (Fx.kh l.row)++[k] by rw[List.range_succ,List.filter_append,List.filter_cons,HSC.out,hsc];simp);obtain⟨out,hout⟩:∃out,out=(List.range k).filter (Fx.kh l.row):=⟨_,rfl⟩;rw[← hout]at HS HF g2;have hol:out.length≤k:=by rw[hout];exact D2 _ _
    have hml:out.length+1≤maxLen:=by unfold maxLen;omega
    have hby:(out.length+1) * 8≤140737488355328:=by omega
    have HOW:=hid HS.out.oc.own;have f2:=HS.out.oc.r2.frozen0 0 (by simp);obtain⟨m,hm⟩:∃m,m=out.length:=⟨_,rfl⟩;rw[← hm]at g2 hml hby HOW;have HM:=hid hm;have HPU:=hid (fun a' c' W' ho hg=>HS.out.push (oa':=a') (oc':=c') (W':=W') (k:=k) HZ.out ho hg (fun x hx=>by have:=HS.out.oc.own;subst hx;exact this.lt.1));rw[← hm]at HPU;have HKE:Hid (∀W',wr.grownBy W' (blk oa)→W'.cell? ⟨w.heap.size+1,0,none⟩=some (.slice oa m oc)∧W'.frozen? ⟨w.heap.size+1,0,none⟩=false∧w.heap.size+2≤W'.heap.size):=hid (fun W' hg=>by
     have hkeep:W'.heap[w.heap.size+1]? =wr.heap[w.heap.size+1]? :=hg.block _ (by have:=HZ.out;omega) (fun e=>by
      cases ha:oa with
      |none=>rw[ha]at e;cases e
      |some x=>
       rw[ha]at e;simp only[blk,Option.map_some]at e;injection e with e
       have:=HS.out.oc.own;rw[ha]at this;have:=this.lt.1;omega)
     have hr:=HS.out.oc.r2.of_heap hkeep;have:=hr.cell0 0 (by simp);simp only[Z0]at this;rw[← HM.out]at this;exact⟨this,hr.frozen0 0 (by simp),Nat.le_trans HZ.out hg.size⟩)
    clear hs hsc hout hol hm;rcases e9 with e9|e9
    all_goals
     rw[e9]at c9;go_wp2_with (with_reducible refine bP _ rfl _ _ 40 rfl (w.heap.size+2) 3 (.int .i64 0) 1 8 Tryz.underlying40 wk rfl (by decide) oa m oc _ rfl HOW.out [.int .i64 (k:Nat)] rfl (by simp[Value.oneCell']) rfl hml hby HZ.out ?_;intro a' cap' w' hown' hgrow hloc hsz' hex;have HPS:=hid (HPU.out a' cap' w' hown' hgrow);obtain⟨y0,z0,hz⟩:=HKE.out w' hgrow;have HZZ:=hid hz;clear hown' hgrow hloc hsz' hex hz);go_roundw
     case rel=>exact⟨k+1,a',cap',by go_num,by have:=HLT.out;omega,hid (by rw[HF.out];exact HPS.out),hid (by simpa using HZZ.out)⟩
     case measure=>have:=HLT.out;simp[intOf];omega
  ·obtain rfl:k=n:=by omega
   have hd:decide ((k:Int) < (k:Int))=false:=by simp
   have hd2:decide (k < k)=false:=by simp
   have hrl:l.row.length=k:=by rw[Tm.cP,← HN.out]
   have h0:(List.range k).filter (Fx.kh l.row)=Fx.BY l.row:=by unfold Fx.BY;rw[hrl]
   rw[h0]at HS g2;have HG:=hid (And.intro (Fx.DM l.row) (show ∃m,Fx.lX l.row m (Fx.BY l.row)=Fx.ord l.row from⟨_,rfl⟩));have HRL:=hid hrl;clear hrl h0;go_wp2_with fail;go_loopw [5] (fun v5 wt=>∃(out:List Nat) (oa:Option Addr) (oc:Nat),Hid (OrS V w wt rb cap k l ga bs oa oc out)∧Hid (Fx.Good l.row out∧∃m,Fx.lX l.row m out=Fx.ord l.row)∧Hid (w.heap.size+2≤wt.heap.size)) (fun _ wt=>k - GP (wt.cell? ⟨w.heap.size+1,0,none⟩))
   case atStart=>exact⟨_,oa,oc,HS,HG,HZ⟩
   case round=>
    clear g1 g2 HS HG HZ;obtain⟨out,oa,oc,HS,HG,HZ⟩:=hrel;have g1:=HS.out.oc.r1.cell0 0 (by simp);have g2:=HS.out.oc.r2.cell0 0 (by simp);simp only[Z0]at g1 g2;have hol:out.length≤k:=by rw[← HRL.out];exact qi HG.out.1
    have HIC:=hid (fun(W:World) hS=>HIX.out W out.length oc oa out (by omega) hS);have HME:=hid g2;obtain⟨nx,hnx⟩:∃nx,nx=Fx.next l.row out:=⟨_,rfl⟩;have HNX:=hid hnx;have HOL:=hid hol;clear hnx hol;go_wp2_with fail;refine(HIC.out _ HS.out.oc).mono ?_;rintro e w2 ⟨rfl,hb2⟩;unfold Ah;rw[← HNX.out];have hS2:OrS V w w2 rb cap k l ga bs oa oc out:=⟨HS.out.base,HS.out.bel.trans (hb2.mono HS.out.bel.size),HS.out.oc.up hb2⟩;have HS2:=hid hS2;have g3:=hS2.oc.r2.cell0 0 (by simp);simp only[Z0]at g3;have HZ2:=hid (Nat.le_trans HZ.out hb2.size);cases nx with
    |none=>
     have HST:=hid (D3 HG.out.2.choose_spec HNX.out.symm);clear hb2 hS2;go_wp2_with fail;go_ret;refine⟨HS2.out.bel,oa,oc,by rw[HST.out];rfl,?_⟩;rw[← HST.out];exact HS2.out.oc.own.mono (by omega)
    |some j=>
     obtain⟨m',hm'⟩:=GQ HG.out.2.choose_spec HNX.out.symm;have hgd:=Fx.nh HG.out.1 (Fx.ng HNX.out.symm);have HG2:=hid (And.intro hgd (show ∃m,Fx.lX l.row m (out++[j])=Fx.ord l.row from⟨m',hm'⟩));have hol2:out.length+1≤k:=by have:=qi hgd;rw[HRL.out,Z7]at this;exact this
     have q3:decide ((j:Int) < 0)=false:=Y9 (by omega);have hml:out.length+1≤maxLen:=by unfold maxLen;omega
     have hby:(out.length+1) * 8≤140737488355328:=by omega
     have HOW:=hid HS2.out.oc.own;obtain⟨m,hm⟩:∃m,m=out.length:=⟨_,rfl⟩;rw[← hm]at g3 hml hby HOW hol2 HME;have HM:=hid hm;have HO2:=hid hol2;have HPU:=hid (fun a' c' W' ho hg=>HS2.out.push (oa':=a') (oc':=c') (W':=W') (k:=j) HZ2.out ho hg (fun x hx=>by have:=HS2.out.oc.own;subst hx;exact this.lt.1));rw[← hm]at HPU;have HKE:Hid (∀W',w2.grownBy W' (blk oa)→W'.cell? ⟨w.heap.size+1,0,none⟩=some (.slice oa m oc)∧W'.frozen? ⟨w.heap.size+1,0,none⟩=false∧w.heap.size+2≤W'.heap.size):=hid (fun W' hg=>by
      have hkeep:W'.heap[w.heap.size+1]? =w2.heap[w.heap.size+1]? :=hg.block _ (by have:=HZ2.out;omega) (fun e=>by
       cases ha:oa with
       |none=>rw[ha]at e;cases e
       |some x=>
        rw[ha]at e;simp only[blk,Option.map_some]at e;injection e with e
        have:=HS2.out.oc.own;rw[ha]at this;have:=this.lt.1;omega)
      have hr:=HS2.out.oc.r2.of_heap hkeep;have:=hr.cell0 0 (by simp);simp only[Z0]at this;rw[← HM.out]at this;exact⟨this,hr.frozen0 0 (by simp),Nat.le_trans HZ2.out hg.size⟩)
     clear hm' hgd hm hb2 hS2 hol2 g1 g2;go_wp2_with (with_reducible refine bP _ rfl _ _ 40 rfl (w.heap.size+2) 3 (.int .i64 0) 1 8 Tryz.underlying40 wk rfl (by decide) oa m oc _ rfl HOW.out [.int .i64 (j:Nat)] rfl (by simp[Value.oneCell']) rfl hml hby HZ2.out ?_;intro a' cap' w' hown' hgrow hloc hsz' hex;have HPS:=hid (HPU.out a' cap' w' hown' hgrow);obtain⟨y0,z0,hz⟩:=HKE.out w' hgrow;have HZZ:=hid hz;clear hown' hgrow hloc hsz' hex hz);go_roundw
     case rel=>exact⟨out++[j],a',cap',HPS,HG2,hid (by simpa using HZZ.out)⟩
     case measure=>
      have e1:=HPS.out.oc.r2.cell0 0 (by simp);simp only[Z0]at e1;rw[e1,HME.out];show k - (out++[j]).length < k - m;rw[Z7,← HM.out];have:=HO2.out;simp only[Z6,Y3];omega
end
section
open Go Go.RowKit
open Rd
open Ly
theorem wo(k:Tm.Knd):((Tm.aI k:Nat):Int)≠4∧Tm.aI k≠4:=by cases k <;> simp[Tm.aI]
theorem qj(k:Tm.Knd):(((Tm.aI k:Nat):Int)==4)=false∧(Tm.aI k==4)=false:=⟨Z8.2 (wo k).1,Z8.2 (wo k).2⟩
theorem Cd{k:Tm.Knd}(h:∀t,k≠.struct t):(((Tm.aI k:Nat):Int)==3)=false∧(Tm.aI k==3)=false∧(((Tm.aI k:Nat):Int)!=3)=true∧(Tm.aI k !=3)=true:=by
 cases k with
 |struct t=>exact absurd rfl (h t)
 |scalar w=>exact⟨rfl,rfl,rfl,rfl⟩
 |bytes=>exact⟨rfl,rfl,rfl,rfl⟩
theorem nX(U w:World)(rb n cap gi oi gn on B c2 m:Nat)(a g2:Option Addr)(b2:List Nat)(vs2:List Value)(cv:Value)(h:Tm.Hd)(ks:Nds)(hU:Below U.heap.size U w)(hrow:ad U gi oi 70 (Tm.ag h cv))(hk:∀t,h.k≠.struct t)(hK:aQ w B ks g2 c2 b2 vs2):
  Calls Tryz.prog 97 #[.agg #[.slice a n cap],.pointer (some ⟨gi,oi,none⟩),.pointer (some ⟨gn,on,none⟩)] w (ef w B g2 c2 b2 (some ks)):=by
 obtain⟨V1,hV1⟩:∃V1,V1=w.alloc (.cells #[.slice a n cap] 75):=⟨_,rfl⟩;have hb1:Below w.heap.size w V1:=by rw[hV1];exact(Y4 _ _).alloc (Z5 _) _
 have hr1:=(hrow.below hU hrow.lt).below hb1 (Nat.lt_of_lt_of_le hrow.lt hU.size);have c0:=hr1.cell 0 (by simp[Tm.aj]);simp only[Tm.ag,Z0,Z1,Y2]at c0;rw[hV1]at c0;obtain⟨q1,q2⟩:=qj h.k;obtain⟨q3,q4,q5,q6⟩:=Cd hk;have HFIN:=hid (show ef w B g2 c2 b2 (some ks) (.returned .nilIface) V1 from⟨Mut.az hb1,_,rfl,rfl,vs2,hK.al fun b _ hl=>hb1.block b hl⟩);have HV1:=hid hV1;clear hU hrow hk hK hb1 hr1 hV1;go_enter Tryz.func97,Tryz.ntmps97;go_wp2_with fail;go_ret;have:=HFIN.out;rw[HV1.out]at this;exact this
theorem Ce(U w:World)(rb n cap gi oi gn on B c2 m ai:Nat)(a g2:Option Addr)(b2:List Nat)(vs2:List Value)(cv sv:Value)(d:Nd)(hU:Below U.heap.size U w)(hrow:ad U gi oi 70 (Tm.au ai cv sv))(hn:ad w gn on 28 (ae d.name d.kind d.at_ d.size 0 d.text (.slice g2 d.kids.len c2)))(hK:aQ w B d.kids g2 c2 b2 vs2):
  Calls Tryz.prog 97 #[.agg #[.slice a n cap],.pointer (some ⟨gi,oi,none⟩),.pointer (some ⟨gn,on,none⟩)] w (ef w B g2 c2 b2 (some d.kids)):=by
 obtain⟨V1,hV1⟩:∃V1,V1=w.alloc (.cells #[.slice a n cap] 75):=⟨_,rfl⟩;have hb1:Below w.heap.size w V1:=by rw[hV1];exact(Y4 _ _).alloc (Z5 _) _
 have hr1:=(hrow.below hU hrow.lt).below hb1 (Nat.lt_of_lt_of_le hrow.lt hU.size);have c0:=hr1.cell 0 (by simp[Tm.au]);have e4:=(hn.below hb1 hn.lt).cell 4 (by simp[ae]);simp only[Tm.au,ae,Z0,Z1,Y2]at c0 e4;rw[hV1]at c0 e4;have HFIN:=hid (show ef w B g2 c2 b2 (some d.kids) (.returned .nilIface) V1 from⟨Mut.az hb1,_,rfl,rfl,vs2,hK.al fun b _ hl=>hb1.block b hl⟩);have HV1:=hid hV1;clear hU hrow hK hb1 hr1 hV1 hn;go_enter Tryz.func97,Tryz.ntmps97;go_wp2_with fail;go_ret;have:=HFIN.out;rw[HV1.out]at this;exact this
theorem j8{U:World}{rb cap:Nat}{tys:List Tm.Ty}{a:Option Addr}(hE:FxE U rb tys a cap){t:Tm.Ty}(ht:t∈tys)(X:World)(hU:Below U.heap.size U X):
  Calls Tryz.prog 71 #[.agg #[.slice a tys.length cap],.string (aa t.name)] X fun e w'=>Below X.heap.size X w'∧∃ga capb bs,e= .returned (.slice ga t.items.len capb)∧an U (rb+1) 70 13 ga t.items.len capb bs∧Tm.bp U rb t.items bs:=by
 obtain⟨Bt,tvs,h1,h2⟩:=hE.ex;refine(yL tys U X t.name hU rb cap Bt a tvs h1 h2 hE.few (List.mem_map.2 ⟨t,ht,rfl⟩)).mono ?_;rintro e w' ⟨hb,t2,ht2,ga,capb,bs,hn,he,ho,hc⟩;have:=hE.same ht2 ht hn;subst this;exact⟨hb,ga,capb,bs,he,ho,hc⟩
theorem D4(U w:World)(rb cap gi oi gn on B c2 ai capc:Nat)(tys:List Tm.Ty)(a g2 gc:Option Addr)(b2:List Nat)(vs2 bsc:List Value)(cv:Value)(d:Nd)(W:Wri)(F:Nds→Option Nds)(body:Tm.Its)(hC:vY U rb tys a cap W F body)(hU:Below U.heap.size U w)(hrow:ad U gi oi 70 (Tm.au ai cv (.slice gc body.len capc)))(hoc:an U (rb+1) 70 13 gc body.len capc bsc)(hec:Tm.bp U rb body bsc)
  (hn:ad w gn on 28 (ae d.name d.kind d.at_ d.size d.val d.text (.slice g2 d.kids.len c2)))(hv:d.val≠0)(hK:aQ w B d.kids g2 c2 b2 vs2)(hB:U.heap.size≤B)(hgn:gn∉aU g2++b2)(hok:d.kids.ok)(htot:d.kids.tot≤800000)(hw:(aH W body d.kids).isSome=true):
  Calls Tryz.prog 97 #[.agg #[.slice a tys.length cap],.pointer (some ⟨gi,oi,none⟩),.pointer (some ⟨gn,on,none⟩)] w (ef w B g2 c2 b2 (F d.kids)):=by
 obtain⟨n,hnn⟩:∃n,n=tys.length:=⟨_,rfl⟩;obtain⟨m,hm⟩:∃m,m=d.kids.len:=⟨_,rfl⟩;obtain⟨mb,hmb⟩:∃mb,mb=body.len:=⟨_,rfl⟩;obtain⟨V1,hV1⟩:∃V1,V1=w.alloc (.cells #[.slice a n cap] 75):=⟨_,rfl⟩;have hb1:Below w.heap.size w V1:=by rw[hV1];exact(Y4 _ _).alloc (Z5 _) _
 have hr0:ad V1 w.heap.size 0 75 [.slice a n cap]:=by rw[hV1];exact ad.new w _ _
 have hr1:=(hrow.below hU hrow.lt).below hb1 (Nat.lt_of_lt_of_le hrow.lt hU.size);have hn1:=hn.below hb1 hn.lt;have c0:=hr1.cell 0 (by simp[Tm.au]);have e4:=hn1.cell 4 (by simp[ae]);simp only[Tm.au,ae,Z0,Z1,Y2]at c0 e4;rw[hV1]at c0 e4;have hmem:=hK.mem;have hgiB:gi < U.heap.size:=hrow.lt;have hgnw:gn < w.heap.size:=hn.lt;have hSS:∀X,Mut V1 X (aU g2++b2)→X.cell? ⟨w.heap.size,0,none⟩=some (.slice a n cap)∧X.cell? ⟨gi,oi+12,none⟩=some (.slice gc mb capc)∧X.cell? ⟨gn,on+6,none⟩=some (.slice g2 m c2):=by
  intro X hX;have k0:=(hr0.of_heap (hX.block w.heap.size hr0.lt (fun hm=>by have:=hmem _ hm;omega))).cell0 0 (by simp);have k1:=(hr1.of_heap (hX.block gi hr1.lt (fun hm=>by have:=hmem _ hm;omega))).cell 12 (by simp[Tm.au]);have k2:=(hn1.of_heap (hX.block gn hn1.lt hgn)).cell 6 (by simp[ae]);simp only[Tm.au,ae,Z0,Z1]at k0 k1 k2;rw[hmb,hm];exact⟨k0,k1,k2⟩
 have HSS:=hid hSS;have HBK:Hid (∀X,Below V1.heap.size V1 X→Calls Tryz.prog 70 #[.agg #[.slice a n cap],.slice gc mb capc,.slice g2 m c2] X (ef X B g2 c2 b2 (F d.kids))):=hid (fun X hX=>by
  have hwX:=hb1.trans (hX.mono hb1.size);rw[hnn,hmb,hm];exact hC X B c2 capc gc g2 bsc vs2 b2 d.kids (hU.trans (hwX.mono hU.size)) hoc hec (hK.al fun b _ hl=>hwX.block b hl) hB hok htot hw)
 have hS1:=hSS V1.drew (Mut.az (Y4 _ _).drew);rw[hV1]at hS1;have q1:(d.val==0)=false:=Z8.2 hv;have q2:(d.val !=0)=true:=by rw[bne,q1];rfl
 have HV1:=hid hV1;have HB1:=hid hb1;rw[← hnn];obtain⟨fk,hfk⟩:∃fk,fk=F d.kids:=⟨_,rfl⟩;rw[← hfk]at HBK⊢;obtain⟨dv,hdv⟩:∃dv,dv=d.val:=⟨_,rfl⟩;rw[← hdv]at q1 q2 e4;clear hC hU hrow hoc hec hn hv hK hB hgn hok htot hw hb1 hr0 hr1 hn1 hSS hV1 hmem hgiB hgnw hm hmb hnn hfk hdv;go_enter Tryz.func97,Tryz.ntmps97;go_wp2_with fail;rw[← HV1.out]at hS1;rw[← HV1.out];go_region_held3 (fun X=>X.cell? ⟨w.heap.size,0,none⟩=some (.slice a n cap)∧X.cell? ⟨gi,oi+12,none⟩=some (.slice gc mb capc)∧X.cell? ⟨gn,on+6,none⟩=some (.slice g2 m c2))
  (first
   |exact hS1
   |assumption)
  (first
   |(go_at_call 70;(with_reducible refine(HBK.out _ ?_).mono ?_);(next=>exact(Y4 V1.heap.size V1).drew);(rintro e w5 ⟨hm5,v,rfl,hv5⟩);(have HM5:=hid (Mut.trans (Mut.az (Y4 V1.heap.size V1).drew) hm5));(have HV5:=hid hv5);(have hS5:=HSS.out w5 HM5.out)))
 all_goals
  go_wp2_with fail;go_ret;exact⟨(Mut.az HB1.out).trans HM5.out,v,rfl,HV5.out⟩
end
end Go.Proofs.YtlomecfhobehnaaGreatDoor
