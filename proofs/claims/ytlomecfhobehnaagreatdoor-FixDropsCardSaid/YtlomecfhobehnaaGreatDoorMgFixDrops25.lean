import Derived.Test.YtlomecfhobehnaaGreatDoorMgFixDrops24
set_option linter.all false
set_option maxRecDepth 100000
set_option maxHeartbeats 2000000
namespace Go.Proofs.YtlomecfhobehnaaGreatDoor
open Lib (hid)
section
open Go.RowKit
open Rd
theorem zQ(s:Tm.Sk)(k0 k1 k4 k5:Nat)(s3:ByteArray)(b6:Bool)(p8 a12:Option Addr)(n12 c12 sb:Nat)(nm:Tm.Wd)(w:World)(hk:k0=4↔s.wh=true)(hk4:k0≤4)(hb:ae w sb 0 9 [.string (aa nm)]):
  Calls Tryz.prog 124 #[.agg (aQ s k0 k1 k4 k5 s3 b6 p8 a12 n12 c12).toArray,.pointer (some ⟨sb,0,none⟩)] w fun e w'=>e= .returned (.bool (Tm.called nm s))∧Below w.heap.size w w':=by
 have hrow:=ae.new w 70 (aQ s k0 k1 k4 k5 s3 b6 p8 a12 n12 c12).toArray;have hbb:=(Y4 w.heap.size w).alloc (Z5 _) (.cells (aQ s k0 k1 k4 k5 s3 b6 p8 a12 n12 c12).toArray 70);have hb2:=hb.below hbb hb.lt;have c0:=hrow.cell0 0 (by simp);have c2:=hrow.cell0 2 (by simp);have d0:=hb2.cell0 0 (by simp);simp only[aQ,Z0,Z1]at c0 c2 d0;have HB:=hid hbb;have HK:=hid hk;clear hrow hbb hb2 hb hk;unfold Tm.called
 by_cases h4:k0=4
 ·have hw:=HK.out.1 h4;have q1:((k0:Int)==4)=true:=by rw[beq_iff_eq];omega
  have q2:((k0:Int)!=4)=false:=by rw[bne,q1];rfl
  have q3:(k0==4)=true:=by rw[beq_iff_eq];exact h4
  have q4:(k0 !=4)=false:=by rw[bne,q3];rfl
  have HW:=hid hw;clear h4 hw;go_enter Tryz.func124,Tryz.ntmps124;go_wp2_with fail;go_ret;refine⟨?_,HB.out⟩;rw[HW.out];rfl
 ·have hw:s.wh=false:=by
   cases h:s.wh with
   |false=>rfl
   |true=>exact absurd (HK.out.2 h) h4
  have q1:((k0:Int)==4)=false:=by rw[Z8];omega
  have q2:((k0:Int)!=4)=true:=by rw[bne,q1];rfl
  have q3:(k0==4)=false:=by rw[Z8];exact h4
  have q4:(k0 !=4)=true:=by rw[bne,q3];rfl
  have HW:=hid hw;clear h4 hw;go_enter Tryz.func124,Tryz.ntmps124;go_wp2_with fail;go_ret;refine⟨?_,HB.out⟩;rw[HW.out];rfl
theorem It(V:World)(rb cap sb n:Nat)(l:Tm.Its)(ga:Option Addr)(bs:List Value)(nm:Tm.Wd)(w:World)(hn:n=Tm.Its.len l)(hn2:n≤100000)(h:ItV V w rb l ga cap bs)(hb:ae w sb 0 9 [.string (aa nm)]):
  Calls Tryz.prog 120 #[.slice ga n cap,.func (.func 124) #[] #[.pointer (some ⟨sb,0,none⟩)]] w fun e w'=>e= .returned (.int .i64 (Tm.aV l.row nm))∧Below w.heap.size w w':=by
 have hcap:n≤cap:=by rw[hn];exact aW h.own
 have HH:=hid h;have HBX:=hid hb;have HN:=hid hn;clear h hb hn;go_enter Tryz.func120,Tryz.ntmps120;go_wp2_with fail;go_loopw [8] (fun v8 wr=>∃k:Nat,v8= .int .i64 k∧k≤n∧Hid ((l.row.take k).findIdx? (Tm.called nm)=none)∧Hid (Below w.heap.size w wr)) (fun v8 _=>n - (intOf v8).toNat)
 case atStart=>exact⟨0,rfl,Nat.zero_le _,hid (by simp),hid (Y4 _ _)⟩
 case round=>
  obtain⟨k,rfl,hk,HQ,HB⟩:=hrel
  by_cases hlt:k < n
  ·have hki:(k:Int) < (n:Int):=by omega
   have q1:decide ((k:Int) < (n:Int))=true:=Z9 hki;have q2:decide (k < n)=true:=Z9 hlt;obtain⟨x,rfl⟩:∃x,ga=some x:=by
    cases ga with
    |none=>have:=HH.out.own.aS.1;rw[← HN.out]at this;omega
    |some x=>exact⟨x,rfl⟩
   obtain⟨gb,rfl⟩:∃gb,x=⟨gb,0,none⟩:=⟨x.block,HH.out.own.row.1⟩;obtain⟨s,k0,k1,k4,k5,s3,b6,p8,a12,n12,c12,hs,hrow,hk0,hk4,hw4⟩:=(HH.out.up HB.out).cells k (by rw[← HN.out];exact hlt);have HF:=hid (zQ s k0 k1 k4 k5 s3 b6 p8 a12 n12 c12 sb nm wr hk0 hk4 (HBX.out.below HB.out HBX.out.lt));have HS:=hid hs;have c0:=hrow.cell 0 (by simp);have c1:=hrow.cell 1 (by simp);have c2:=hrow.cell 2 (by simp);have c3:=hrow.cell 3 (by simp);have c4:=hrow.cell 4 (by simp);have c5:=hrow.cell 5 (by simp);have c6:=hrow.cell 6 (by simp);have c7:=hrow.cell 7 (by simp);have c8:=hrow.cell 8 (by simp);have c9:=hrow.cell 9 (by simp);have c10:=hrow.cell 10 (by simp);have c11:=hrow.cell 11 (by simp);have c12:=hrow.cell 12 (by simp);simp only[aQ,Z0,Z1,Y2]at c0 c1 c2 c3 c4 c5 c6 c7 c8 c9 c10 c11 c12;clear hrow hs hk0 hk4 hw4;go_wp2_with fail;refine HF.out.mono ?_;rintro e w2 ⟨rfl,hb2⟩;have HB2:=hid (HB.out.trans (hb2.mono HB.out.size));cases hc:Tm.called nm s with
   |true=>
    have HC:=hid hc;clear hc hb2;go_wp2_with fail;go_ret;refine⟨?_,HB2.out⟩;unfold Tm.aV;rw[Tm.qx HQ.out HS.out HC.out];rfl
   |false=>
    have HC:=hid hc;clear hc hb2;go_wp2_with fail;go_roundw
    case rel=>exact⟨k+1,by go_num,by omega,hid (Tm.mq HQ.out HS.out HC.out),HB2⟩
    case measure=>simp[intOf];omega
  ·obtain rfl:k=n:=by omega
   have hd:decide ((k:Int) < (k:Int))=false:=by simp
   have hd2:decide (k < k)=false:=by simp
   go_wp2_with fail;go_ret;refine⟨?_,HB.out⟩;have:=HQ.out;rw[HN.out,← Tm.cT,List.take_length]at this;unfold Tm.aV;rw[this];rfl
theorem Dz(V:World)(rb cap n:Nat)(l:Tm.Its)(ga:Option Addr)(bs:List Value)(nm:Tm.Wd)(w:World)(hn:n=Tm.Its.len l)(hn2:n≤100000)(h:ItV V w rb l ga cap bs):
  Calls Tryz.prog 99 #[.slice ga n cap,.string (aa nm)] w fun e w'=>e= .returned (.int .i64 (Tm.aV l.row nm))∧Below w.heap.size w w':=by
 have hbb:=(Y4 w.heap.size w).alloc (Z5 _) (.cells #[.string (aa nm)] 9);have HI:=hid (It V rb cap w.heap.size n l ga bs nm _ hn hn2 (h.up hbb) (ae.new w 9 #[.string (aa nm)]));have HB:=hid hbb;clear h hbb hn;go_enter Tryz.func99,Tryz.ntmps99;go_wp2_with fail;refine HI.out.mono ?_;rintro e w2 ⟨rfl,hb2⟩;have HB2:=hid (HB.out.trans (hb2.mono (by simp)));clear hb2;go_wp2_with fail;go_ret;exact⟨rfl,HB2.out⟩
end
section
open Go Go.RowKit
open Rd
open Ly
def Iu(U:World)(rb:Nat)(tys:List Tm.Ty)(nm:Tm.Wd)(e:Ending):Prop:=∃t∈tys,∃ga capb bs,t.name=nm∧e= .returned (.slice ga (Tm.Its.len t.items) capb)∧ak U (rb+1) 70 13 ga (Tm.Its.len t.items) capb bs∧Tm.bu U rb t.items bs
theorem DA{tys:List Tm.Ty}{nm:Tm.Wd}(hm:nm∈names tys):∃t∈tys,t.name=nm:=List.mem_map.1 hm
theorem zR(tys:List Tm.Ty)(U w:World)(nm:Tm.Wd)(hU:Below U.heap.size U w)(rb cap B:Nat)(a:Option Addr)(vs:List Value)(ho:ak U B 97 3 a tys.length cap vs)(he:Tm.cI U rb tys vs)(hn:tys.length≤100)(hm:nm∈names tys):
  Calls Tryz.prog 71 #[.agg #[.slice a tys.length cap],.string (aa nm)] w fun e w'=>Below w.heap.size w w'∧Iu U rb tys nm e:=by
 have hcap:tys.length≤cap:=aW ho;have HM:=hid (DA hm);obtain⟨n,hn'⟩:∃n,n=tys.length:=⟨_,rfl⟩;rw[← hn']at hcap hn⊢;have HO:=hid ho;have HE:=hid he;have HN:=hid hn';clear ho he hn' hm;go_enter Tryz.func71,Tryz.ntmps71;go_wp2_with fail;go_loopw [10] (fun v10 wr=>∃(i:Nat),v10= .int .i64 (i:Nat)∧i≤n∧Hid (Below w.heap.size w wr)∧Hid (∀t∈tys.take i,t.name≠nm)) (fun v10 _=>n - (intOf v10).toNat)
 case atStart=>exact⟨0,rfl,Nat.zero_le _,hid ((Y4 _ _).alloc (Z5 _) _),hid (by simp)⟩
 case round=>
  obtain⟨i,rfl,hi,HB,HQ⟩:=hrel
  by_cases hin:i < n
  ·have q1:decide ((i:Int) < (n:Int))=true:=Z9 (by omega);have q2:decide (i < n)=true:=Z9 hin;have hii:(i:Int) < (n:Int):=by omega
   have HLT:=hid hin;obtain⟨x,rfl⟩:∃x,a=some x:=by
    cases a with
    |none=>have:=HO.out.aS.1;rw[← HN.out]at this;omega
    |some x=>exact⟨x,rfl⟩
   obtain⟨gb,rfl⟩:∃gb,x=⟨gb,0,none⟩:=⟨x.block,HO.out.row.1⟩;obtain⟨t,r,hdr⟩:=Tm.iz tys i (by rw[← HN.out];exact hin);obtain⟨ga,capb,bs,g1,g2,g3,g4⟩:=Tm.cI.ty HO.out HE.out hdr;have hmem:t∈tys:=by
    have:t∈tys.drop i:=by rw[hdr];simp
    exact List.mem_of_mem_drop this
   have hti:tys.take (i+1)=tys.take i++[t]:=by
    rw[List.take_add,hdr];rfl
   have hrow:=(g3.below hU g3.lt).below HB.out (Nat.lt_of_lt_of_le g3.lt hU.size);have c0:=hrow.cell 0 (by simp);have c1:=hrow.cell 1 (by simp);have c2:=hrow.cell 2 (by simp);simp only[Z0,Z1,Y2]at c0 c1 c2;have HIT:=hid (And.intro g1 g2);have HTI:=hid hti;have HMEM:=hid hmem;clear g1 g2 g3 g4 hrow hdr hmem hti hin hi
   by_cases hnn:t.name=nm
   ·have e1:(t.name==nm)=true:=beq_iff_eq.2 hnn;have e2:decide (t.name=nm)=true:=Z9 hnn;have HNN:=hid hnn;clear hnn;go_wp2_with fail;go_ret;exact⟨HB.out.alloc HB.out.size _,t,HMEM.out,ga,capb,bs,HNN.out,rfl,HIT.out⟩
   ·have e1:(t.name==nm)=false:=Z8.2 hnn;have e2:decide (t.name=nm)=false:=Y9 hnn;have HNN:=hid hnn;clear hnn;go_wp2_with fail;go_roundw
    case rel=>exact⟨i+1,rfl,by have:=HLT.out;omega,hid (HB.out.alloc HB.out.size _),hid (fun t' ht'=>by
     rw[HTI.out]at ht';rcases List.mem_append.1 ht' with h|h
     ·exact HQ.out t' h
     ·have:t'=t:=by simpa using h
      rw[this];exact HNN.out)⟩
    case measure=>simp only[intOf];have:=HLT.out;omega
  ·exfalso;obtain⟨t,h1,h2⟩:=HM.out;have:i=tys.length:=by rw[← HN.out];omega
   rw[this,List.take_length]at HQ;exact HQ.out t h1 h2
end
section
namespace Fx
open Ly Tm
def xB(r:Rl):Bool:=match r with
 | .size _=>true
 | .count _=>true
 |_=>false
def kN(R:List Sk)(i:Nat):Bool:=match R[i]? with
 |some s=>xB s.ay
 |none=>false
def ready(R:List Sk)(out:List Nat)(i:Nat):Bool:=match R[i]? with
 |some s=> !s.wh&&aK s.ay&& !out.contains i&&(List.range R.length).all fun k=> !(eF R i k&&bM R k&& !out.contains k)
 |none=>false
def next(R:List Sk)(out:List Nat):Option Nat:=(List.range R.length).find? (ready R out)
def mC(R:List Sk):Nat→List Nat→List Nat
 |0,out=>out
 |n+1,out=>match next R out with
  |none=>out
  |some k=>mC R n (out++[k])
def DB(R:List Sk):List Nat:=(List.range R.length).filter (kN R)
def ord(R:List Sk):List Nat:=mC R (R.length+1) (DB R)
def JO(R:List Sk)(out:List Nat):Prop:=∀pre i post,out=pre++i::post→bM R i=true→∀k,k < R.length→eF R i k=true→(bM R k=true∨kN R k=true)→k∈pre
theorem zS{R:List Sk}{out:List Nat}{i:Nat}(h:ready R out i=true):bM R i=true∧i∉out∧i < R.length∧∀k,k < R.length→eF R i k=true→bM R k=true→k∈out:=by
 unfold ready at h;cases hs:R[i]? with
 |none=>rw[hs]at h;cases h
 |some s=>
  rw[hs]at h;simp only[Bool.and_eq_true,Bool.not_eq_true',List.contains_eq_mem,decide_eq_false_iff_not]at h;obtain⟨⟨⟨h1,h2⟩,h3⟩,h4⟩:=h;refine⟨by unfold bM;rw[hs];exact h2,h3,(List.getElem?_eq_some_iff.1 hs).1,fun k hk ho hc=> ?_⟩;have h5:=List.all_eq_true.1 h4 k (List.mem_range.2 hk);rw[ho,hc]at h5;simpa using h5
theorem nX{R:List Sk}{out:List Nat}{k:Nat}(h:next R out=some k):ready R out k=true:=List.find?_some h
theorem uR{R:List Sk}{i:Nat}(h:kN R i=true):bM R i=false:=by
 unfold kN at h;unfold bM;cases hs:R[i]? with
 |none=>rfl
 |some s=>
  rw[hs]at h;simp only[]at h⊢;cases hr:s.ay <;> rw[hr]at h <;> simp[xB,aK]at h⊢
structure Good(R:List Sk)(out:List Nat):Prop where
 lt:∀i∈out,i < R.length
 nodup:out.Nodup
 cl:JO R out
 ay:∀i∈out,kN R i=true∨bM R i=true
 sc:∀i,i < R.length→kN R i=true→i∈out
theorem FK(R:List Sk):Good R (DB R):=by
 refine⟨fun i hi=>List.mem_range.1 (List.mem_filter.1 hi).1,List.Pairwise.filter _ List.nodup_range,fun pre i post he hc=> ?_,fun i hi=> .inl (List.mem_filter.1 hi).2,fun i hi hs=>List.mem_filter.2 ⟨List.mem_range.2 hi,hs⟩⟩;have hm:i∈DB R:=by rw[he];simp
 have:=uR (List.mem_filter.1 hm).2;rw[hc]at this;cases this
theorem zT{α:Type}{out pre post:List α}{k i:α}(he:out++[k]=pre++i::post):(i=k∧pre=out∧post=[])∨∃post',out=pre++i::post':=by
 rcases List.eq_nil_or_concat post with rfl|⟨l,x,rfl⟩
 ·left;have:=List.append_inj' he (by simp);exact⟨by simpa using this.2.symm,this.1.symm,rfl⟩
 ·right;refine⟨l,?_⟩;have h2:out++[k]=(pre++i::l)++[x]:=by rw[he];simp
  exact(List.append_inj' h2 (by simp)).1
theorem nY{R:List Sk}{out:List Nat}(h:Good R out){k:Nat}(hk:ready R out k=true):Good R (out++[k]):=by
 obtain⟨h1,h2,h3,h4⟩:=zS hk;refine⟨fun i hi=> ?_,?_,fun pre i post he hc j hjl hj hm=> ?_,fun i hi=> ?_,fun i hi hs=>List.mem_append_left _ (h.sc i hi hs)⟩
 ·rcases List.mem_append.1 hi with h5|h5
  ·exact h.lt i h5
  ·have:i=k:=by simpa using h5
   rw[this];exact h3
 ·rw[List.nodup_append];refine⟨h.nodup,by simp,fun a ha b hb e=> ?_⟩;have:b=k:=by simpa using hb
  subst this;subst e;exact h2 ha
 ·rcases zT he with⟨rfl,rfl,_⟩|⟨post',h5⟩
  ·rcases hm with hm|hm
   ·exact h4 j hjl hj hm
   ·exact h.sc j hjl hm
  ·exact h.cl pre i post' h5 hc j hjl hj hm
 ·rcases List.mem_append.1 hi with h5|h5
  ·exact h.ay i h5
  ·have:i=k:=by simpa using h5
   rw[this];exact .inr h1
theorem Jh(R:List Sk):∀(n:Nat) (out:List Nat),Good R out→Good R (mC R n out)
 |0,out,h=>h
 |n+1,out,h=>by
  unfold mC;cases hn:next R out with
  |none=>exact h
  |some k=>exact Jh R n _ (nY h (nX hn))
theorem Iv(R:List Sk):Good R (ord R):=Jh R _ _ (FK R)
theorem xC(R:List Sk):∀(n:Nat) (out:List Nat),Good R out→R.length < n+out.length→next R (mC R n out)=none
 |0,out,h,hl=>by
  have h1:out.length≤R.length:=by
   have h2:=List.Nodup.length_le_of_subset h.nodup (l₂:=List.range R.length) (fun i hi=>List.mem_range.2 (h.lt i hi));simpa using h2
  omega
 |n+1,out,h,hl=>by
  unfold mC;cases hn:next R out with
  |none=>exact hn
  |some k=>exact xC R n _ (nY h (nX hn)) (by simp;omega)
theorem Iw(R:List Sk):next R (ord R)=none:=xC R _ _ (FK R) (by omega)
def nth:Nat→Nds→Option Nd
 |_,.nil=>none
 |0,.cons a b c d e f g _=>some ⟨a,b,c,d,e,f,g⟩
 |n+1,.cons _ _ _ _ _ _ _ r=>nth n r
def dR:Nat→Int→Nds→Nds
 |_,_,.nil=> .nil
 |0,v,.cons a b c d _ f g r=> .cons a b c d v f g r
 |n+1,v,.cons a b c d e f g r=> .cons a b c d e f g (dR n v r)
theorem mD:∀(i:Nat) (v:Int) (l:Nds),(dR i v l).len=l.len
 |_,_,.nil=>by cases ‹Nat› <;> rfl
 |0,v,.cons _ _ _ _ _ _ _ r=>rfl
 |n+1,v,.cons _ _ _ _ _ _ _ r=>by simp only[dR,Nds.len,mD n v r]
def tu(W:Wri)(body:Its)(e:Int)(k:Nds):Option Wd:=if e=0 then(match k with| .nil=>some []| .cons _ _ _ _ _ _ _ _=>none)else aF W body k
def texts(W:Wri):Its→Nds→List (Option Wd)
 | .cons h l,.cons a b c d e f g r=>aY W h ⟨a,b,c,d,e,f,g⟩::texts W l r
 | .when _ _ body l,.cons a b _ _ e _ g r=>(if a≠[]∨b≠4 then none else tu W body e g)::texts W l r
 |_,_=>[]
def dH:List (Option Wd)→Option Wd
 |[]=>some []
 |x::r=>x.bind fun u=>(dH r).map (u++ ·)
def jL(W:Wri)(l:Its)(ks:Nds)(a b:Nat):Option Wd:=dH (((texts W l ks).drop a).take (b+1 - a))
end Fx
namespace Fx
open Ly Tm
def strip:Nds→Nds
 | .nil=> .nil
 | .cons a b _ _ e f g r=> .cons a b 0 0 e f (strip g) (strip r)
theorem dW:∀l:Nds,strip (strip l)=strip l
 | .nil=>rfl
 | .cons a b c d e f g r=>by simp only[strip,dW g,dW r]
theorem nZ:∀l:Nds,(strip l).len=l.len
 | .nil=>rfl
 | .cons a b c d e f g r=>by simp only[strip,Nds.len,nZ r]
theorem lH:∀(i:Nat) (v:Int) (l:Nds),strip (dR i v l)=dR i v (strip l)
 |_,_,.nil=>by cases ‹Nat› <;> rfl
 |0,v,.cons ..=>rfl
 |n+1,v,.cons a b c d e f g r=>by simp only[dR,strip,lH n v r]
def Nd.strip(d:Nd):Nd:=⟨d.name,d.kind,0,0,d.val,d.text,Fx.strip d.kids⟩
theorem tv:∀(i:Nat) (l:Nds),nth i (strip l)=(nth i l).map Nd.strip
 |_,.nil=>by cases ‹Nat› <;> rfl
 |0,.cons ..=>rfl
 |n+1,.cons a b c d e f g r=>by
  show nth n (strip r)=(nth n r).map Nd.strip;exact tv n r
def sm(W:Wri):Prop:=∀nm ks,W nm (strip ks)=W nm ks
theorem iW{W:Wri}(hW:sm W)(h:Hd)(d:Nd):aX W h (Nd.strip d)=aX W h d:=by
 unfold aX Nd.strip;simp only[];cases h.k <;> simp only[hW _ _]
theorem qL{f:Nd→Option Wd}(hf:∀d,f (Nd.strip d)=f d):∀l:Nds,bc f (strip l)=bc f l
 | .nil=>rfl
 | .cons a b c d e g k r=>by
  simp only[strip,bc];rw[qL hf r];have:=hf ⟨a,b,c,d,e,g,k⟩;unfold Nd.strip at this;simp only[]at this;rw[this]
theorem jM{W:Wri}(hW:sm W)(h:Hd)(d:Nd):aY W h (Nd.strip d)=aY W h d:=by
 unfold aY;rw[iW hW];split
 ·unfold Nd.strip;simp only[];split
  ·rfl
  ·exact qL (iW hW h) _
 ·rfl
theorem gC{W:Wri}(hW:sm W):∀(l:Its) (ks:Nds),aF W l (strip ks)=aF W l ks
 | .nil,.nil=>rfl
 | .nil,.cons ..=>rfl
 | .cons h l,.nil=>rfl
 | .when ..,.nil=>rfl
 | .cons h l,.cons a b c d e f g r=>by
  simp only[strip,aF];rw[gC hW l r];have:=jM hW h ⟨a,b,c,d,e,f,g⟩;unfold Nd.strip at this;simp only[]at this;rw[this]
 | .when p q body l,.cons a b c d e f g r=>by
  simp only[strip,aF];rw[gC hW l r,gC hW body g];cases g <;> rfl
theorem iC:∀l:List Ty,sm (wrS l)
 |[],_,_=>rfl
 |t::r,nm,ks=>by
  unfold wrS;rw[gC (iC r),iC r]
theorem oM{W:Wri}(hW:sm W)(body:Its)(e:Int)(k:Nds):tu W body e (strip k)=tu W body e k:=by
 unfold tu;rw[gC hW];cases k <;> rfl
def eT:Its→Nat→Option Hd
 | .nil,_=>none
 | .cons h _,0=>some h
 | .when _ _ _ _,0=>none
 | .cons _ l,n+1=>eT l n
 | .when _ _ _ l,n+1=>eT l n
def wOf:Knd→Wd
 | .scalar w=>w
 |_=>[]
def av(C:Wd→Nat)(W:Wri)(l:Its)(ks:Nds)(h:Hd):Int:=match h.ay with
 | .none=>0
 | .size f=>(((jL W l ks (aV l.row f).toNat (aV l.row f).toNat).getD []).length:Int)
 | .count f=>(((nth (aV l.row f).toNat ks).map fun d=>d.kids.len).getD 0:Int)
 | .check f g=>if aV l.row g < 0 then 0 else(C ((jL W l ks (aV l.row f).toNat (aV l.row g).toNat).getD []):Int)
def gK(C:Wd→Nat)(W:Wri)(l:Its)(ks:Nds)(i:Nat):Option Nds:=match eT l i with
 |none=>some ks
 |some h=>if dG (wOf h.k) (av C W l ks h)then some (dR i (av C W l ks h) ks)else none
def eG(C:Wd→Nat)(W:Wri)(l:Its):List Nat→Nds→Option Nds
 |[],ks=>some ks
 |i::O,ks=>(gK C W l ks i).bind (eG C W l O)
abbrev Fxr:=Wd→Nds→Option Nds
def dI(f:Nds→Option Nds):Nds→Option Nds
 | .nil=>some .nil
 | .cons a b c d e t g r=>(f g).bind fun g'=>(dI f r).map (.cons a b c d e t g' ·)
def hdF(B:Fxr)(h:Hd)(ks:Nds):Option Nds:=match h.k with
 | .struct t=>if cP h then dI (B t) ks else B t ks
 |_=>some ks
def aO(C:Wd→Nat)(W:Wri)(B:Fxr):Its→Nds→Option Nds
 | .cons h l,.cons a b c d e f g r=>(hdF B h g).bind fun g'=>(aO C W B l r).map (.cons a b c d e f g' ·)
 | .when _ _ body l,.cons a b c d e f g r=>(if e=0 then some g else(aO C W B body g).bind (eG C W body (ord body.row))).bind fun g'=>(aO C W B l r).map (.cons a b c d e f g' ·)
 |_,ks=>some ks
def fu(C:Wd→Nat)(W:Wri)(B:Fxr)(l:Its)(ks:Nds):Option Nds:=(aO C W B l ks).bind (eG C W l (ord l.row))
def dn(C:Wd→Nat):List Ty→Fxr
 |[],_,ks=>some ks
 |t::r,nm,ks=>if t.name=nm then fu C (wrS r) (dn C r) t.items ks else dn C r nm ks
def erO(O:List Nat):Nat→Nds→Nds
 |_,.nil=> .nil
 |i,.cons a b c d e f g r=> .cons a b 0 0 (if O.contains i then 0 else e) f g (erO O (i+1) r)
def erE(f:Nds→Nds):Nds→Nds
 | .nil=> .nil
 | .cons a b c d e t g r=> .cons a b 0 0 e t (f g) (erE f r)
def erH(E:Wd→Nds→Nds)(h:Hd)(ks:Nds):Nds:=match h.k with
 | .struct t=>if cP h then erE (E t) ks else E t ks
 |_=>strip ks
def erI(E:Wd→Nds→Nds):Its→Nds→Nds
 | .cons h l,.cons a b c d e f g r=> .cons a b 0 0 e f (erH E h g) (erI E l r)
 | .when _ _ body l,.cons a b c d e f g r=> .cons a b 0 0 e f (if e=0 then strip g else erO (ord body.row) 0 (erI E body g)) (erI E l r)
 |_,ks=>strip ks
def erB(E:Wd→Nds→Nds)(l:Its)(ks:Nds):Nds:=erO (ord l.row) 0 (erI E l ks)
def erS:List Ty→Wd→Nds→Nds
 |[],_,ks=>strip ks
 |t::r,nm,ks=>if t.name=nm then erB (erS r) t.items ks else erS r nm ks
end Fx
namespace Fx
open Ly Tm
theorem xD{O:List Nat}:∀(j i:Nat) (v:Int) (l:Nds),i+j∈O→erO O i (dR j v l)=erO O i l
 |j,i,v,.nil,_=>by cases j <;> rfl
 |0,i,v,.cons a b c d e f g r,h=>by
  have h2:O.contains i=true:=by simpa using h
  simp only[dR,erO,h2,if_true]
 |j+1,i,v,.cons a b c d e f g r,h=>by
  simp only[dR,erO];rw[xD j (i+1) v r (by rw[show i+1+j=i+(j+1) by omega];exact h)]
theorem qM(E:Wd→Nds→Nds):∀(l:Its) (j:Nat) (v:Int) (ks:Nds),(eT l j).isSome=true→erI E l (dR j v ks)=dR j v (erI E l ks)
 | .nil,j,v,ks,h=>by cases j <;> cases h
 | .cons h l,0,v,.nil,_=>rfl
 | .cons h l,0,v,.cons a b c d e f g r,_=>rfl
 | .cons h l,j+1,v,.nil,_=>rfl
 | .cons h l,j+1,v,.cons a b c d e f g r,hh=>by
  simp only[dR,erI];rw[qM E l j v r hh]
 | .when ..,0,v,ks,h=>by cases h
 | .when p q body l,j+1,v,.nil,_=>rfl
 | .when p q body l,j+1,v,.cons a b c d e f g r,hh=>by
  simp only[dR,erI];rw[qM E l j v r hh]
theorem Ix(E:Wd→Nds→Nds){C:Wd→Nat}{W:Wri}{l:Its}{ks p:Nds}{i:Nat}(hi:i∈ord l.row)(h:gK C W l ks i=some p):erB E l p=erB E l ks:=by
 unfold gK at h;cases hh:eT l i with
 |none=>rw[hh]at h;cases h;rfl
 |some hd=>
  rw[hh]at h;simp only[]at h;split at h
  ·cases h;unfold erB;rw[qM E l i _ ks (by rw[hh];rfl),xD i 0 _ _ (by rw[Nat.zero_add];exact hi)]
  ·cases h
theorem uS(E:Wd→Nds→Nds){C:Wd→Nat}{W:Wri}{l:Its}:∀(O:List Nat) (ks p:Nds),(∀i∈O,i∈ord l.row)→eG C W l O ks=some p→erB E l p=erB E l ks
 |[],ks,p,_,h=>by cases h;rfl
 |i::O,ks,p,hO,h=>by
  unfold eG at h;obtain⟨q,h1,h2⟩:=Option.bind_eq_some_iff.1 h;rw[uS E O q p (fun j hj=>hO j (by simp[hj])) h2,Ix E (hO i (by simp)) h1]
theorem Bl{f:Nds→Option Nds}{E:Nds→Nds}(hf:∀ks p,f ks=some p→E p=E ks):∀(ks p:Nds),dI f ks=some p→erE E p=erE E ks
 | .nil,p,h=>by cases h;rfl
 | .cons a b c d e t g r,p,h=>by
  unfold dI at h;obtain⟨g',h1,h2⟩:=Option.bind_eq_some_iff.1 h;obtain⟨r',h3,h4⟩:=Option.map_eq_some_iff.1 h2;cases h4;simp only[erE];rw[hf _ _ h1,Bl hf r r' h3]
theorem JP{B:Fxr}{E:Wd→Nds→Nds}(hB:∀nm ks p,B nm ks=some p→E nm p=E nm ks){h:Hd}{ks p:Nds}(hh:hdF B h ks=some p):erH E h p=erH E h ks:=by
 unfold hdF at hh;unfold erH;cases hk:h.k with
 |scalar w=>rw[hk]at hh;cases hh;rfl
 |bytes=>rw[hk]at hh;cases hh;rfl
 |struct t=>
  rw[hk]at hh;simp only[]at hh⊢
  by_cases hm:cP h=true
  ·rw[if_pos hm]at hh;rw[if_pos hm,if_pos hm];exact Bl (hB t) _ _ hh
  ·rw[if_neg hm]at hh;rw[if_neg hm,if_neg hm];exact hB _ _ _ hh
theorem ky{C:Wd→Nat}{W:Wri}{B:Fxr}{E:Wd→Nds→Nds}(hB:∀nm ks p,B nm ks=some p→E nm p=E nm ks):∀(l:Its) (ks p:Nds),aO C W B l ks=some p→erI E l p=erI E l ks
 | .nil,ks,p,h=>by unfold aO at h;cases h;rfl
 | .cons h l,.nil,p,hh=>by unfold aO at hh;cases hh;rfl
 | .when ..,.nil,p,h=>by unfold aO at h;cases h;rfl
 | .cons h l,.cons a b c d e f g r,p,hh=>by
  unfold aO at hh;obtain⟨g',h1,h2⟩:=Option.bind_eq_some_iff.1 hh;obtain⟨r',h3,h4⟩:=Option.map_eq_some_iff.1 h2;cases h4;simp only[erI];rw[JP hB h1,ky hB l r r' h3]
 | .when p0 q0 body l,.cons a b c d e f g r,p,hh=>by
  unfold aO at hh;obtain⟨g',h1,h2⟩:=Option.bind_eq_some_iff.1 hh;obtain⟨r',h3,h4⟩:=Option.map_eq_some_iff.1 h2;cases h4;simp only[erI];rw[ky hB l r r' h3]
  by_cases he:e=0
  ·rw[if_pos he]at h1;cases h1;rfl
  ·rw[if_neg he]at h1;obtain⟨q,h5,h6⟩:=Option.bind_eq_some_iff.1 h1;have h7:=uS E _ _ _ (fun i hi=>hi) h6;unfold erB at h7;rw[if_neg he,if_neg he,h7,ky hB body g q h5]
theorem Iy{C:Wd→Nat}{W:Wri}{B:Fxr}{E:Wd→Nds→Nds}(hB:∀nm ks p,B nm ks=some p→E nm p=E nm ks){l:Its}{ks p:Nds}(h:fu C W B l ks=some p):erB E l p=erB E l ks:=by
 unfold fu at h;obtain⟨q,h5,h6⟩:=Option.bind_eq_some_iff.1 h;rw[uS E _ _ _ (fun i hi=>hi) h6];unfold erB;rw[ky hB l ks q h5]
theorem mF{C:Wd→Nat}:∀(L:List Ty) (nm:Wd) (ks p:Nds),dn C L nm ks=some p→erS L nm p=erS L nm ks
 |[],nm,ks,p,h=>by cases h;rfl
 |t::r,nm,ks,p,h=>by
  unfold dn at h;unfold erS;split at h
  ·rename_i hn
   rw[if_pos hn,if_pos hn];exact Iy (mF r) h
  ·rename_i hn
   rw[if_neg hn,if_neg hn];exact mF r nm ks p h
def eU:Its→Nat
 | .nil=>0
 | .cons _ l=>eU l+1
 | .when _ _ _ l=>eU l+1
theorem eV(W:Wri):∀(l:Its) (ks:Nds),aF W l ks=if eU l=ks.len then dH (texts W l ks)else none
 | .nil,.nil=>rfl
 | .nil,.cons a b c d e f g r=>by simp[aF,eU,Nds.len]
 | .cons h l,.nil=>by simp[aF,eU,Nds.len]
 | .when ..,.nil=>by simp[aF,eU,Nds.len]
 | .cons h l,.cons a b c d e f g r=>by
  simp only[aF,eU,Nds.len,texts,dH,Nat.add_right_cancel_iff];rw[eV W l r]
  by_cases hl:eU l=r.len
  ·rw[if_pos hl,if_pos hl]
  ·rw[if_neg hl,if_neg hl];cases aY W h ⟨a,b,c,d,e,f,g⟩ <;> rfl
 | .when p q body l,.cons a b c d e f g r=>by
  simp only[aF,eU,Nds.len,texts,dH,Nat.add_right_cancel_iff];rw[eV W l r]
  by_cases hn:a≠[]∨b≠4
  ·rw[if_pos hn,if_pos hn]
   by_cases hl:eU l=r.len
   ·rw[if_pos hl];rfl
   ·rw[if_neg hl]
  ·rw[if_neg hn,if_neg hn]
   by_cases hl:eU l=r.len
   ·rw[if_pos hl,if_pos hl];unfold tu;cases g <;> rfl
   ·rw[if_neg hl,if_neg hl];cases(if e=0 then(match g with| .nil=>some []|_=>none)else aF W body g) <;> rfl
theorem iX:∀L:List (Option Wd),(dH L).isSome=L.all (·.isSome)
 |[]=>rfl
 |x::r=>by
  have:=iX r;unfold dH;cases x with
  |none=>rfl
  |some u=>simp[this]
theorem iD(W:Wri):∀(l:Its) (ks:Nds) (j:Nat) (h:Hd),eT l j=some h→(texts W l ks)[j]? =(nth j ks).map (aY W h)
 | .nil,ks,j,h,hh=>by cases j <;> cases hh
 | .cons h0 l,.nil,j,h,hh=>by cases j <;> rfl
 | .when ..,.nil,j,h,hh=>by cases j <;> rfl
 | .cons h0 l,.cons a b c d e f g r,0,h,hh=>by cases hh;rfl
 | .cons h0 l,.cons a b c d e f g r,j+1,h,hh=>by
  have:=iD W l r j h hh;simpa[texts,nth]using this
 | .when ..,.cons ..,0,h,hh=>by cases hh
 | .when p q body l,.cons a b c d e f g r,j+1,h,hh=>by
  have:=iD W l r j h hh;simpa[texts,nth]using this
def Sg(h:Hd):Prop:=∃w,h.k= .scalar w∧cP h=false
theorem py{h:Hd}(hf:ju h)(hr:isNone h.ay=false):Sg h:=by
 obtain⟨_,_,h1,_,_,h2⟩:=hf;have hr2:h.ay≠.none:=by intro e;rw[e]at hr;cases hr
 obtain⟨w,hw⟩:=h2 hr2;refine⟨w,hw,?_⟩;unfold cP;rw[hw];cases hc:h.cnt with
 |none=>rfl
 |some c=>exact absurd (h1 c hc).2 hr2
theorem qN{W:Wri}{h:Hd}(hs:Sg h)(d:Nd):aY W h d=if d.name≠h.name∨d.kind≠1 then none else if dG (wOf h.k) d.val then some (qj (wOf h.k) d.val)else none:=by
 obtain⟨w,hw,hm⟩:=hs;unfold aY aX;rw[hm,hw];rfl
theorem lI(W:Wri):∀(l:Its) (ks:Nds) (j:Nat) (v:Int) (h:Hd),eT l j=some h→Sg h→dG (wOf h.k) v=true→(texts W l ks).all (·.isSome)=true→(texts W l (dR j v ks)).all (·.isSome)=true
 | .nil,ks,j,v,h,hh,_,_,_=>by cases j <;> cases hh
 | .cons h0 l,.nil,j,v,h,hh,_,_,_=>by cases j <;> rfl
 | .when ..,.nil,j,v,h,hh,_,_,_=>by cases j <;> rfl
 | .cons h0 l,.cons a b c d e f g r,0,v,h,hh,hs,hv,ha=>by
  cases hh;simp only[texts,dR,List.all_cons,Bool.and_eq_true]at ha⊢;refine⟨?_,ha.2⟩;rw[qN hs]at ha⊢;simp only[]at ha⊢;split at ha
  ·exact absurd ha.1 (by simp)
  ·rename_i hn
   rw[if_neg hn,if_pos hv];rfl
 | .cons h0 l,.cons a b c d e f g r,j+1,v,h,hh,hs,hv,ha=>by
  simp only[texts,dR,List.all_cons,Bool.and_eq_true]at ha⊢;exact⟨ha.1,lI W l r j v h hh hs hv ha.2⟩
 | .when ..,.cons ..,0,v,h,hh,_,_,_=>by cases hh
 | .when p q body l,.cons a b c d e f g r,j+1,v,h,hh,hs,hv,ha=>by
  simp only[texts,dR,List.all_cons,Bool.and_eq_true]at ha⊢;exact⟨ha.1,lI W l r j v h hh hs hv ha.2⟩
theorem dO{W:Wri}{l:Its}{ks:Nds}:(aF W l ks).isSome=true↔eU l=ks.len∧(texts W l ks).all (·.isSome)=true:=by
 rw[eV];split
 ·rename_i h
  rw[iX];exact⟨fun h2=>⟨h,h2⟩,fun h2=>h2.2⟩
 ·rename_i h
  exact⟨fun h2=>(by cases h2),fun h2=>absurd h2.1 h⟩
theorem jN:∀(l:Its) (j:Nat),l.row[j]? =(match eT l j with|some h=>some (skH h)|none=>if j < eU l then some skW else none)
 | .nil,j=>by cases j <;> rfl
 | .cons h l,0=>rfl
 | .when ..,0=>by simp[Its.row,eT,eU]
 | .cons h l,j+1=>by
  have:=jN l j;simpa[Its.row,eT,eU]using this
 | .when _ _ _ l,j+1=>by
  have:=jN l j;simpa[Its.row,eT,eU]using this
theorem fV:∀{l:Its} {j:Nat} {h:Hd},bG l→eT l j=some h→ju h
 | .nil,j,h,_,hh=>by cases j <;> cases hh
 | .cons h0 l,0,h,hf,hh=>by cases hh;exact hf.1
 | .cons h0 l,j+1,h,hf,hh=>fV hf.2 hh
 | .when ..,0,h,_,hh=>by cases hh
 | .when p q b l,j+1,h,hf,hh=>fV hf.2.2 hh
theorem lJ{l:Its}{i:Nat}(hi:i∈ord l.row):∃h,eT l i=some h∧isNone h.ay=false:=by
 have h1:=(Iv l.row).ay i hi;have h2:=jN l i;unfold kN bM at h1;cases hh:eT l i with
 |none=>
  rw[hh]at h2;simp only[]at h2;split at h2
  ·rw[h2]at h1;simp[skW,xB,aK]at h1
  ·rw[h2]at h1;simp at h1
 |some h=>
  rw[hh]at h2;simp only[]at h2;rw[h2]at h1;refine⟨h,rfl,?_⟩;simp only[skH]at h1;cases hr:h.ay <;> rw[hr]at h1 <;> simp[xB,aK,isNone]at h1⊢
theorem mG{C:Wd→Nat}{W:Wri}{l:Its}(hf:bG l){ks p:Nds}{i:Nat}(hi:i∈ord l.row)(h:gK C W l ks i=some p)(hw:(aF W l ks).isSome=true):(aF W l p).isSome=true:=by
 obtain⟨hd,h1,h2⟩:=lJ hi;unfold gK at h;rw[h1]at h;simp only[]at h;split at h
 ·rename_i hv
  cases h;rw[dO]at hw⊢;exact⟨by rw[mD];exact hw.1,lI W l ks i _ hd h1 (py (fV hf h1) h2) hv hw.2⟩
 ·cases h
theorem uT{C:Wd→Nat}{W:Wri}{l:Its}(hf:bG l):∀(O:List Nat) (ks p:Nds),(∀i∈O,i∈ord l.row)→eG C W l O ks=some p→(aF W l ks).isSome=true→(aF W l p).isSome=true
 |[],ks,p,_,h,hw=>by cases h;exact hw
 |i::O,ks,p,hO,h,hw=>by
  unfold eG at h;obtain⟨q,h1,h2⟩:=Option.bind_eq_some_iff.1 h;exact uT hf O q p (fun j hj=>hO j (by simp[hj])) h2 (mG hf (hO i (by simp)) h1 hw)
end Fx
namespace Fx
open Ly Tm
def kY(W:Wri)(B:Fxr):Prop:=∀nm ks p,B nm ks=some p→(W nm ks).isSome=true→(W nm p).isSome=true
theorem tw{f:Nds→Option Nds}{g:Nd→Option Wd}(hf:∀(d:Nd) (p:Nds),f d.kids=some p→(g d).isSome=true→(g {d with kids:=p}).isSome=true):∀ks p:Nds,dI f ks=some p→(bc g ks).isSome=true→(bc g p).isSome=true
 | .nil,p,h,hw=>by cases h;exact hw
 | .cons a b c d e t k r,p,h,hw=>by
  unfold dI at h;obtain⟨k',h1,h2⟩:=Option.bind_eq_some_iff.1 h;obtain⟨r',h3,h4⟩:=Option.map_eq_some_iff.1 h2;cases h4;unfold bc at hw⊢;cases hg:g ⟨a,b,c,d,e,t,k⟩with
  |none=>rw[hg]at hw;cases hw
  |some u=>
   rw[hg]at hw;cases hr:bc g r with
   |none=>rw[hr]at hw;cases hw
   |some v=>
    have h5:=hf ⟨a,b,c,d,e,t,k⟩ k' h1 (by rw[hg];rfl);have h6:=tw hf r r' h3 (by rw[hr];rfl);obtain⟨u',hu⟩:=Option.isSome_iff_exists.1 h5;obtain⟨v',hv⟩:=Option.isSome_iff_exists.1 h6;simp only[]at hu;rw[hu,hv];rfl
theorem JQ{W:Wri}{B:Fxr}(hB:kY W B){h:Hd}{d:Nd}{p:Nds}(hh:hdF B h d.kids=some p)(hw:(aY W h d).isSome=true):(aY W h {d with kids:=p}).isSome=true:=by
 unfold hdF at hh;cases hk:h.k with
 |scalar w=>
  rw[hk]at hh;cases hh;exact hw
 |bytes=>
  rw[hk]at hh;cases hh;exact hw
 |struct t=>
  rw[hk]at hh;simp only[]at hh;have hone:∀(d:Nd) (p:Nds),B t d.kids=some p→(aX W h d).isSome=true→(aX W h {d with kids:=p}).isSome=true:=by
   intro d p h1 h2;unfold aX at h2⊢;rw[hk]at h2⊢;simp only[]at h2⊢;split at h2
   ·cases h2
   ·rename_i hn
    rw[if_neg hn];exact hB _ _ _ h1 h2
  unfold aY at hw⊢
  by_cases hm:cP h=true
  ·rw[if_pos hm]at hh hw⊢;simp only[]at hw⊢;split at hw
   ·cases hw
   ·rename_i hn
    rw[if_neg hn];exact tw hone _ _ hh hw
  ·rw[if_neg hm]at hh hw⊢;exact hone d p hh hw
theorem dj{C:Wd→Nat}{W:Wri}{B:Fxr}(hB:kY W B):∀(l:Its),bG l→∀(ks p:Nds),aO C W B l ks=some p→(aF W l ks).isSome=true→(aF W l p).isSome=true
 | .nil,_,ks,p,h,hw=>by unfold aO at h;cases h;exact hw
 | .cons h l,_,.nil,p,hh,hw=>by unfold aO at hh;cases hh;exact hw
 | .when ..,_,.nil,p,h,hw=>by unfold aO at h;cases h;exact hw
 | .cons h l,hf,.cons a b c d e f g r,p,hh,hw=>by
  unfold aO at hh;obtain⟨g',h1,h2⟩:=Option.bind_eq_some_iff.1 hh;obtain⟨r',h3,h4⟩:=Option.map_eq_some_iff.1 h2;cases h4;unfold aF at hw⊢;cases hp:aY W h ⟨a,b,c,d,e,f,g⟩with
  |none=>rw[hp]at hw;cases hw
  |some u=>
   rw[hp]at hw;cases hr:aF W l r with
   |none=>rw[hr]at hw;cases hw
   |some v=>
    obtain⟨u',hu⟩:=Option.isSome_iff_exists.1 (JQ hB (d:=⟨a,b,c,d,e,f,g⟩) h1 (by rw[hp];rfl));obtain⟨v',hv⟩:=Option.isSome_iff_exists.1 (dj hB l hf.2 r r' h3 (by rw[hr];rfl));simp only[]at hu;rw[hu,hv];rfl
 | .when p0 q0 body l,hf,.cons a b c d e f g r,p,hh,hw=>by
  unfold aO at hh;obtain⟨g',h1,h2⟩:=Option.bind_eq_some_iff.1 hh;obtain⟨r',h3,h4⟩:=Option.map_eq_some_iff.1 h2;cases h4;unfold aF at hw⊢
  by_cases hn:a≠[]∨b≠4
  ·rw[if_pos hn]at hw;cases hw
  ·rw[if_neg hn]at hw⊢;cases hr:aF W l r with
   |none=>
    rw[hr]at hw;simp only[Option.map_none]at hw;rw[Option.isSome_iff_exists]at hw;obtain⟨x,hx⟩:=hw;obtain⟨_,_,hx2⟩:=Option.bind_eq_some_iff.1 hx;cases hx2
   |some v=>
    obtain⟨v',hv⟩:=Option.isSome_iff_exists.1 (dj hB l hf.2.2 r r' h3 (by rw[hr];rfl));rw[hv]
    by_cases he:e=0
    ·rw[if_pos he]at h1 hw⊢;cases h1;rw[hr]at hw;cases g with
     |nil=>rfl
     |cons=>cases hw
    ·rw[if_neg he]at h1 hw⊢;obtain⟨q,h5,h6⟩:=Option.bind_eq_some_iff.1 h1;have hb:(aF W body g).isSome=true:=by
      cases hbb:aF W body g with
      |none=>rw[hbb]at hw;cases hw
      |some z=>rfl
     obtain⟨z,hz⟩:=Option.isSome_iff_exists.1 (uT hf.2.1 _ _ _ (fun i hi=>hi) h6 (dj hB body hf.2.1 g q h5 hb));rw[hz];rfl
theorem Iz{C:Wd→Nat}{W:Wri}{B:Fxr}(hB:kY W B){l:Its}(hf:bG l){ks p:Nds}(h:fu C W B l ks=some p)(hw:(aF W l ks).isSome=true):(aF W l p).isSome=true:=by
 unfold fu at h;obtain⟨q,h5,h6⟩:=Option.bind_eq_some_iff.1 h;exact uT hf _ _ _ (fun i hi=>hi) h6 (dj hB l hf ks q h5 hw)
theorem fQ{C:Wd→Nat}:∀(L:List Ty),(∀t∈L,bg t)→kY (wrS L) (dn C L)
 |[],_,nm,ks,p,h,hw=>by cases hw
 |t::r,hF,nm,ks,p,h,hw=>by
  unfold dn at h;unfold wrS at hw⊢;split at h
  ·rename_i hn
   rw[if_pos hn]at hw⊢;exact Iz (fQ r (fun t ht=>hF t (by simp[ht]))) (hF t (by simp)).2 h hw
  ·rename_i hn
   rw[if_neg hn]at hw⊢;exact fQ r (fun t ht=>hF t (by simp[ht])) nm ks p h hw
theorem od{W:Wri}(hW:sm W){O:List Nat}:∀(l:Its) (X Y:Nds) (b j:Nat),erO O b (strip X)=erO O b (strip Y)→b+j∉O→(texts W l X)[j]? =(texts W l Y)[j]?
 | .nil,X,Y,b,j,_,_=>by cases X <;> cases Y <;> rfl
 | .cons h l,.nil,.nil,b,j,_,_=>rfl
 | .when ..,.nil,.nil,b,j,_,_=>rfl
 | .cons h l,.nil,.cons ..,b,j,he,_=>by simp[strip,erO]at he
 | .cons h l,.cons ..,.nil,b,j,he,_=>by simp[strip,erO]at he
 | .when ..,.nil,.cons ..,b,j,he,_=>by simp[strip,erO]at he
 | .when ..,.cons ..,.nil,b,j,he,_=>by simp[strip,erO]at he
 | .cons h l,.cons a1 a2 a3 a4 a5 a6 a7 r1,.cons b1 b2 b3 b4 b5 b6 b7 r2,b,j,he,hj=>by
  simp only[strip,erO]at he;injection he with e1 e2 e3 e4 e5 e6 e7 e8
  cases j with
  |zero=>
   have hb:O.contains b=false:=by simpa using hj
   rw[hb]at e5;simp only[Bool.false_eq_true,if_false]at e5;have h1:=jM hW h ⟨a1,a2,a3,a4,a5,a6,a7⟩;have h2:=jM hW h ⟨b1,b2,b3,b4,b5,b6,b7⟩;unfold Nd.strip at h1 h2;simp only[]at h1 h2;simp only[texts,List.getElem?_cons_zero];rw[← h1,← h2,e1,e2,e5,e6,e7]
  |succ j=>
   have:=od hW l r1 r2 (b+1) j e8 (by rw[show b+1+j=b+(j+1) by omega];exact hj);simpa[texts]using this
 | .when p q body l,.cons a1 a2 a3 a4 a5 a6 a7 r1,.cons b1 b2 b3 b4 b5 b6 b7 r2,b,j,he,hj=>by
  simp only[strip,erO]at he;injection he with e1 e2 e3 e4 e5 e6 e7 e8
  cases j with
  |zero=>
   have hb:O.contains b=false:=by simpa using hj
   rw[hb]at e5;simp only[Bool.false_eq_true,if_false]at e5;simp only[texts,List.getElem?_cons_zero];rw[← oM hW body a5 a7,← oM hW body b5 b7,e1,e2,e5,e7]
  |succ j=>
   have:=od hW l r1 r2 (b+1) j e8 (by rw[show b+1+j=b+(j+1) by omega];exact hj);simpa[texts]using this
theorem uU{O:List Nat}:∀(X Y:Nds) (b j:Nat),erO O b (strip X)=erO O b (strip Y)→(nth j X).map (fun d=>d.kids.len)=(nth j Y).map fun d=>d.kids.len
 | .nil,.nil,b,j,_=>rfl
 | .nil,.cons ..,b,j,he=>by simp[strip,erO]at he
 | .cons ..,.nil,b,j,he=>by simp[strip,erO]at he
 | .cons a1 a2 a3 a4 a5 a6 a7 r1,.cons b1 b2 b3 b4 b5 b6 b7 r2,b,j,he=>by
  simp only[strip,erO]at he;injection he with e1 e2 e3 e4 e5 e6 e7 e8
  cases j with
  |zero=>
   simp only[nth,Option.map_some];rw[← nZ a7,← nZ b7,e7]
  |succ j=>exact uU r1 r2 (b+1) j e8
end Fx
namespace Fx
open Ly Tm
theorem FL{α:Type}{L M:List α}{a b:Nat}(h:∀j,a≤j→j≤b→L[j]? =M[j]?):(L.drop a).take (b+1 - a)=(M.drop a).take (b+1 - a):=by
 apply List.ext_getElem?;intro j;rw[List.getElem?_take,List.getElem?_take];split
 ·rw[List.getElem?_drop,List.getElem?_drop];exact h _ (by omega) (by omega)
 ·rfl
theorem tz{α:Type}(L:List α)(a:Nat):(L.drop a).take (a+1 - a)=L[a]?.toList:=by
 rw[show a+1 - a=1 by omega,List.take_one,List.head?_drop]
theorem uV{L:List (Option Wd)}(h:L.all (·.isSome)=true){j:Nat}{x:Option Wd}(hj:L[j]? =some x):x.isSome=true:=List.all_eq_true.1 h x (List.mem_of_getElem? hj)
theorem qw{C:Wd→Nat}{W:Wri}(hW:sm W){l:Its}(hf:bG l){pre O:List Nat}{i:Nat}(he:ord l.row=pre++i::O){h:Hd}(hh:eT l i=some h){X Y:Nds}(hX:(aF W l X).isSome=true)(hY:(aF W l Y).isSome=true)(hE:erO (i::O) 0 (strip X)=erO (i::O) 0 (strip Y)):av C W l X h=av C W l Y h:=by
 have hT:∀j,j∉i::O→(texts W l X)[j]? =(texts W l Y)[j]? :=fun j hj=>od hW l X Y 0 j hE (by rw[Nat.zero_add];exact hj)
 have hg:=Iv l.row;unfold av;cases hr:h.ay with
 |none=>rfl
 |count f=>
  simp only[];have hn:=uU X Y 0 (aV l.row f).toNat hE;cases hx:nth (aV l.row f).toNat X <;> cases hy:nth (aV l.row f).toNat Y <;> rw[hx,hy]at hn <;> simp at hn⊢
  omega
 |size f=>
  simp only[];generalize(aV l.row f).toNat=a;unfold jL;rw[tz,tz]
  by_cases ha:a∈i::O
  ·obtain⟨h',h1,h2⟩:=lJ (l:=l) (i:=a) (by rw[he];exact List.mem_append_right _ ha);have hs:=py (fV hf h1) h2;have hn:=uU X Y 0 a hE;have hx:=iD W l X a h' h1;have hy:=iD W l Y a h' h1;rw[dO]at hX hY;cases hdx:nth a X with
   |none=>
    cases hdy:nth a Y with
    |none=>rw[hx,hy,hdx,hdy]
    |some dy=>rw[hdx,hdy]at hn;cases hn
   |some dx=>
    cases hdy:nth a Y with
    |none=>rw[hdx,hdy]at hn;cases hn
    |some dy=>
     rw[hdx]at hx;rw[hdy]at hy;have sx:=uV hX.2 hx;have sy:=uV hY.2 hy;rw[hx,hy];simp only[Option.map_some];have hlen:∀d:Nd,(aY W h' d).isSome=true→(((dH (some (aY W h' d)).toList).getD []).length:Int)=(bo (wOf h'.k):Int):=by
      intro d hd;rw[qN hs]at hd⊢;split at hd
      ·cases hd
      ·rename_i hn
       split at hd
       ·rename_i hv
        rw[if_neg hn,if_pos hv];simp only[Option.toList_some,dH,Option.bind_some,Option.map_some,List.append_nil,Option.getD_some];unfold qj;rw[oE]
       ·cases hd
     rw[hlen dx sx,hlen dy sy]
  ·rw[hT a ha]
 |check f g=>
  simp only[];split
  ·rfl
  ·rename_i hg0
   unfold jL;rw[FL (fun j h1 h2=>hT j (fun hj=> ?_))];have hm:j∈ord l.row:=by rw[he];exact List.mem_append_right _ hj
   have hrow:=jN l i;rw[hh]at hrow;simp only[]at hrow;have ho:eF l.row i j=true:=by
    unfold eF;rw[hrow];simp only[skH,hr,aK,bk,cX,Bool.true_and,Bool.and_eq_true,decide_eq_true_eq];omega
   have hc:bM l.row i=true:=by
    unfold bM;rw[hrow];simp only[skH,hr,aK]
   have hp:=hg.cl pre i O he hc j (hg.lt j hm) ho ((hg.ay j hm).symm);have hd:=hg.nodup;rw[he,List.nodup_append]at hd;exact hd.2.2 j hp j hj rfl
theorem zU{O:List Nat}{b:Nat}:∀(X:Nds) (k:Nat),b < k→erO (b::O) k X=erO O k X
 | .nil,k,_=>rfl
 | .cons a1 a2 a3 a4 a5 a6 a7 r,k,h=>by
  have hc:(b::O).contains k=O.contains k:=by
   rw[List.contains_cons];have:(k==b)=false:=by rw[Z8];omega
   rw[this,Bool.false_or]
  have ih:=zU (O:=O) (b:=b) r (k+1) (by omega);simp only[erO,hc,ih]
theorem Bm{O:List Nat}{v:Int}:∀(i b:Nat) (X Y:Nds),erO ((b+i)::O) b X=erO ((b+i)::O) b Y→erO O b (dR i v X)=erO O b (dR i v Y)
 |i,b,.nil,.nil,_=>by cases i <;> rfl
 |i,b,.nil,.cons ..,h=>by simp[erO]at h
 |i,b,.cons ..,.nil,h=>by simp[erO]at h
 |0,b,.cons a1 a2 a3 a4 a5 a6 a7 r1,.cons b1 b2 b3 b4 b5 b6 b7 r2,h=>by
  simp only[erO]at h;injection h with e1 e2 e3 e4 e5 e6 e7 e8
  rw[Y2,zU r1 _ (by omega),zU r2 _ (by omega)]at e8;simp only[dR,erO,e1,e2,e6,e7,e8]
 |i+1,b,.cons a1 a2 a3 a4 a5 a6 a7 r1,.cons b1 b2 b3 b4 b5 b6 b7 r2,h=>by
  simp only[erO]at h;injection h with e1 e2 e3 e4 e5 e6 e7 e8
  rw[show b+(i+1)=b+1+i by omega]at e8;have h9:=Bm (v:=v) i (b+1) r1 r2 e8;have hc:((b+(i+1))::O).contains b=O.contains b:=by
   rw[List.contains_cons];have:(b==b+(i+1))=false:=by rw[Z8];omega
   rw[this,Bool.false_or]
  rw[hc]at e5;simp only[dR,erO,e1,e2,e5,e6,e7,h9]
theorem og:∀(X:Nds) (b:Nat),erO [] b (strip X)=strip X
 | .nil,b=>rfl
 | .cons a1 a2 a3 a4 a5 a6 a7 r,b=>by
  have ih:=og r (b+1);simp[strip,erO,ih]
theorem uW{C:Wd→Nat}{W:Wri}(hW:sm W){l:Its}(hf:bG l):∀(O pre:List Nat) (X Y:Nds),ord l.row=pre++O→(aF W l X).isSome=true→(aF W l Y).isSome=true→erO O 0 (strip X)=erO O 0 (strip Y)→(eG C W l O X).map strip=(eG C W l O Y).map strip
 |[],pre,X,Y,he,hX,hY,hE=>by
  rw[og,og]at hE;simp only[eG,Option.map_some,hE]
 |i::O,pre,X,Y,he,hX,hY,hE=>by
  have hi:i∈ord l.row:=by rw[he];simp
  obtain⟨h,h1,h2⟩:=lJ hi;have hv:=qw (C:=C) hW hf he h1 hX hY hE;unfold eG
  by_cases hw:dG (wOf h.k) (av C W l Y h)=true
  ·have eX:gK C W l X i=some (dR i (av C W l Y h) X):=by unfold gK;rw[h1];simp only[];rw[hv,if_pos hw]
   have eY:gK C W l Y i=some (dR i (av C W l Y h) Y):=by unfold gK;rw[h1];simp only[];rw[if_pos hw]
   rw[eX,eY];simp only[Option.bind_some];refine uW hW hf O (pre++[i]) _ _ (by rw[he];simp) (mG hf hi eX hX) (mG hf hi eY hY) ?_;rw[lH,lH];exact Bm i 0 _ _ (by rw[Nat.zero_add];exact hE)
  ·have eX:gK C W l X i=none:=by unfold gK;rw[h1];simp only[];rw[hv,if_neg hw]
   have eY:gK C W l Y i=none:=by unfold gK;rw[h1];simp only[];rw[if_neg hw]
   rw[eX,eY]
end Fx
namespace Fx
open Ly Tm
theorem gD{α β:Type}{s:α→β}{o o':Option α}(h:o.map s=o'.map s):(o=none∧o'=none)∨∃x y,o=some x∧o'=some y∧s x=s y:=by
 cases o <;> cases o' <;> simp at h⊢
 exact h
def DC(P:Nds→Prop):Nds→Prop
 | .nil=>True
 | .cons _ _ _ _ _ _ g r=>P g∧DC P r
theorem xE{f:Nds→Option Nds}{E:Nds→Nds}{P:Nds→Prop}(hf:∀X Y,P X→P Y→E X=E Y→(f X).map strip=(f Y).map strip):∀X Y:Nds,DC P X→DC P Y→erE E X=erE E Y→(dI f X).map strip=(dI f Y).map strip
 | .nil,.nil,_,_,_=>rfl
 | .nil,.cons ..,_,_,h=>by simp[erE]at h
 | .cons ..,.nil,_,_,h=>by simp[erE]at h
 | .cons a1 a2 a3 a4 a5 a6 a7 r1,.cons b1 b2 b3 b4 b5 b6 b7 r2,hX,hY,h=>by
  simp only[erE]at h;injection h with e1 e2 e3 e4 e5 e6 e7 e8
  unfold dI;rcases gD (hf a7 b7 hX.1 hY.1 e7)with⟨h1,h2⟩|⟨x,y,h1,h2,h3⟩
  ·rw[h1,h2];rfl
  ·rcases gD (xE hf r1 r2 hX.2 hY.2 e8)with⟨h4,h5⟩|⟨u,v,h4,h5,h6⟩
   ·rw[h1,h2,h4,h5];rfl
   ·rw[h1,h2,h4,h5];simp only[Option.bind_some,Option.map_some,strip,e1,e2,e5,e6,h3,h6]
def IA(W:Wri)(B:Fxr)(E:Wd→Nds→Nds):Prop:=∀nm X Y,(W nm X).isSome=true→(W nm Y).isSome=true→E nm X=E nm Y→(B nm X).map strip=(B nm Y).map strip
theorem bj{W:Wri}{h:Hd}{t:Wd}(hk:h.k= .struct t){d:Nd}(hw:(aX W h d).isSome=true):(W t d.kids).isSome=true:=by
 unfold aX at hw;rw[hk]at hw;simp only[]at hw;split at hw
 ·cases hw
 ·exact hw
theorem jO{g:Nd→Option Wd}{P:Nds→Prop}(hg:∀d,(g d).isSome=true→P d.kids):∀ks:Nds,(bc g ks).isSome=true→DC P ks
 | .nil,_=>trivial
 | .cons a b c d e f k r,h=>by
  unfold bc at h;cases h1:g ⟨a,b,c,d,e,f,k⟩with
  |none=>rw[h1]at h;cases h
  |some u=>
   rw[h1]at h;cases h2:bc g r with
   |none=>rw[h2]at h;cases h
   |some v=>exact⟨hg ⟨a,b,c,d,e,f,k⟩ (by rw[h1];rfl),jO hg r (by rw[h2];rfl)⟩
theorem JR{W:Wri}{B:Fxr}{E:Wd→Nds→Nds}(hB:IA W B E){h:Hd}{d d':Nd}(hd:(aY W h d).isSome=true)(hd':(aY W h d').isSome=true)(he:erH E h d.kids=erH E h d'.kids):(hdF B h d.kids).map strip=(hdF B h d'.kids).map strip:=by
 unfold hdF;unfold erH at he;cases hk:h.k with
 |scalar w=>rw[hk]at he;simp only[]at he⊢;rw[Option.map_some,Option.map_some,he]
 |bytes=>rw[hk]at he;simp only[]at he⊢;rw[Option.map_some,Option.map_some,he]
 |struct t=>
  rw[hk]at he;simp only[]at he⊢;unfold aY at hd hd'
  by_cases hm:cP h=true
  ·rw[if_pos hm]at hd hd';rw[if_pos hm,if_pos hm]at he;rw[if_pos hm,if_pos hm];split at hd
   ·cases hd
   ·split at hd'
    ·cases hd'
    ·exact xE (hB t) _ _ (jO (fun d h=>bj hk h) _ hd) (jO (fun d h=>bj hk h) _ hd') he
  ·rw[if_neg hm]at hd hd';rw[if_neg hm,if_neg hm]at he;rw[if_neg hm,if_neg hm];exact hB t _ _ (bj hk hd) (bj hk hd') he
theorem bR{W:Wri}{h:Hd}{l:Its}{a b c d e f g r}(hw:(aF W (.cons h l) (.cons a b c d e f g r)).isSome=true):(aY W h ⟨a,b,c,d,e,f,g⟩).isSome=true∧(aF W l r).isSome=true:=by
 unfold aF at hw;cases hp:aY W h ⟨a,b,c,d,e,f,g⟩with
 |none=>rw[hp]at hw;cases hw
 |some u=>
  rw[hp]at hw;cases hr:aF W l r with
  |none=>rw[hr]at hw;cases hw
  |some v=>exact⟨rfl,rfl⟩
theorem bI{W:Wri}{p:Nat}{q:Ex.X}{body l:Its}{a b c d e f g r}(hw:(aF W (.when p q body l) (.cons a b c d e f g r)).isSome=true):(e≠0→(aF W body g).isSome=true)∧(e=0→g= .nil)∧(aF W l r).isSome=true:=by
 unfold aF at hw;split at hw
 ·cases hw
 ·by_cases he:e=0
  ·rw[if_pos he]at hw;cases g with
   |cons=>cases hw
   |nil=>
    cases hr:aF W l r with
    |none=>rw[hr]at hw;cases hw
    |some v=>exact⟨fun h=>absurd he h,fun _=>rfl,rfl⟩
  ·rw[if_neg he]at hw;cases hb:aF W body g with
   |none=>rw[hb]at hw;cases hw
   |some u=>
    rw[hb]at hw;cases hr:aF W l r with
    |none=>rw[hr]at hw;cases hw
    |some v=>exact⟨fun _=>rfl,fun h=>absurd h he,rfl⟩
theorem kA{C:Wd→Nat}{W:Wri}(hW:sm W){B:Fxr}{E:Wd→Nds→Nds}(hB:IA W B E)(hK:kY W B){O:List Nat}:∀(l:Its),bG l→∀(O:List Nat) (b:Nat) (X Y:Nds),(∀j,b+j∈O→(eT l j).isSome=true)→(aF W l X).isSome=true→(aF W l Y).isSome=true→erO O b (erI E l X)=erO O b (erI E l Y)→(aO C W B l X).map (fun p=>erO O b (strip p))=(aO C W B l Y).map fun p=>erO O b (strip p)
 | .nil,_,O,b,X,Y,_,hX,hY,he=>by
  cases X with
  |cons=>cases hX
  |nil=>
   cases Y with
   |cons=>cases hY
   |nil=>rfl
 | .cons h l,_,O,b,.nil,Y,_,hX,hY,he=>by cases hX
 | .cons h l,_,O,b,.cons ..,.nil,_,hX,hY,he=>by cases hY
 | .when ..,_,O,b,.nil,Y,_,hX,hY,he=>by cases hX
 | .when ..,_,O,b,.cons ..,.nil,_,hX,hY,he=>by cases hY
 | .cons h l,hf,O,b,.cons a1 a2 a3 a4 a5 a6 a7 r1,.cons b1 b2 b3 b4 b5 b6 b7 r2,hO,hX,hY,he=>by
  simp only[erI,erO]at he;injection he with e1 e2 e3 e4 e5 e6 e7 e8
  have hX2:=bR hX;have hY2:=bR hY;have h7:=JR hB hX2.1 hY2.1 e7;simp only[]at h7;have h8:=kA (C:=C) hW hB hK (O:=O) l hf.2 O (b+1) r1 r2 (fun j hj=>hO (j+1) (by rw[show b+(j+1)=b+1+j by omega];exact hj)) hX2.2 hY2.2 e8;unfold aO;rcases gD h7 with⟨h1,h2⟩|⟨x,y,h1,h2,h3⟩
  ·rw[h1,h2];rfl
  ·rcases gD h8 with⟨h4,h5⟩|⟨u,v,h4,h5,h6⟩
   ·rw[h1,h2,h4,h5];rfl
   ·rw[h1,h2,h4,h5];simp only[Option.bind_some,Option.map_some,strip,erO,e1,e2,e5,e6,h3,h6]
 | .when p0 q0 body l,hf,O,b,.cons a1 a2 a3 a4 a5 a6 a7 r1,.cons b1 b2 b3 b4 b5 b6 b7 r2,hO,hX,hY,he=>by
  simp only[erI,erO]at he;injection he with e1 e2 e3 e4 e5 e6 e7 e8
  have hX2:=bI hX;have hY2:=bI hY;have hb:O.contains b=false:=by
   cases hc:O.contains b with
   |false=>rfl
   |true=>exact absurd (hO 0 (by simpa using hc)) (by simp[eT])
  rw[hb]at e5;simp only[Bool.false_eq_true,if_false]at e5;subst e5;have h8:=kA (C:=C) hW hB hK (O:=O) l hf.2.2 O (b+1) r1 r2 (fun j hj=>hO (j+1) (by rw[show b+(j+1)=b+1+j by omega];exact hj)) hX2.2.2 hY2.2.2 e8;have h7:(if a5=0 then some a7 else(aO C W B body a7).bind (eG C W body (ord body.row))).map strip=(if a5=0 then some b7 else(aO C W B body b7).bind (eG C W body (ord body.row))).map strip:=by
   by_cases h0:a5=0
   ·rw[if_pos h0,if_pos h0]at e7⊢;rw[Option.map_some,Option.map_some,e7]
   ·rw[if_neg h0,if_neg h0]at e7;rw[if_neg h0,if_neg h0];have wX:=hX2.1 h0;have wY:=hY2.1 h0;have h9:=kA (C:=C) hW hB hK (O:=O) body hf.2.1 (ord body.row) 0 a7 b7 (fun j hj=>by
     rw[Nat.zero_add]at hj;obtain⟨h,hh,_⟩:=lJ hj;rw[hh];rfl) wX wY e7
    rcases gD h9 with⟨h4,h5⟩|⟨u,v,h4,h5,h6⟩
    ·rw[h4,h5]
    ·rw[h4,h5];exact uW hW hf.2.1 _ [] u v rfl (dj hK body hf.2.1 _ _ h4 wX) (dj hK body hf.2.1 _ _ h5 wY) h6
  unfold aO;rcases gD h7 with⟨h1,h2⟩|⟨x,y,h1,h2,h3⟩
  ·rw[h1,h2];rfl
  ·rcases gD h8 with⟨h4,h5⟩|⟨u,v,h4,h5,h6⟩
   ·rw[h1,h2,h4,h5];rfl
   ·rw[h1,h2,h4,h5];simp only[Option.bind_some,Option.map_some,strip,erO,e1,e2,e6,h3,h6]
theorem IB{C:Wd→Nat}{W:Wri}(hW:sm W){B:Fxr}{E:Wd→Nds→Nds}(hB:IA W B E)(hK:kY W B){l:Its}(hf:bG l){X Y:Nds}(hX:(aF W l X).isSome=true)(hY:(aF W l Y).isSome=true)(he:erB E l X=erB E l Y):(fu C W B l X).map strip=(fu C W B l Y).map strip:=by
 unfold fu;have h9:=kA (C:=C) hW hB hK (O:=[]) l hf (ord l.row) 0 X Y (fun j hj=>by
  rw[Nat.zero_add]at hj;obtain⟨h,hh,_⟩:=lJ hj;rw[hh];rfl) hX hY he
 rcases gD h9 with⟨h4,h5⟩|⟨u,v,h4,h5,h6⟩
 ·rw[h4,h5]
 ·rw[h4,h5];exact uW hW hf _ [] u v rfl (dj hK l hf _ _ h4 hX) (dj hK l hf _ _ h5 hY) h6
theorem mH{C:Wd→Nat}:∀(L:List Ty),(∀t∈L,bg t)→IA (wrS L) (dn C L) (erS L)
 |[],_,nm,X,Y,hX,_,_=>by cases hX
 |t::r,hF,nm,X,Y,hX,hY,he=>by
  unfold dn;unfold wrS at hX hY;unfold erS at he;have hr:∀t∈r,bg t:=fun t ht=>hF t (by simp[ht])
  by_cases hn:t.name=nm
  ·rw[if_pos hn]at hX hY;rw[if_pos hn,if_pos hn]at he;rw[if_pos hn,if_pos hn];exact IB (iC r) (mH r hr) (fQ r hr) (hF t (by simp)).2 hX hY he
  ·rw[if_neg hn]at hX hY;rw[if_neg hn,if_neg hn]at he;rw[if_neg hn,if_neg hn];exact mH r hr nm X Y hX hY he
theorem zV{C:Wd→Nat}{L:List Ty}(hF:∀t∈L,bg t){nm:Wd}{X p:Nds}(hX:(wrS L nm X).isSome=true)(h:dn C L nm X=some p):(wrS L nm p).isSome=true∧∃q,dn C L nm p=some q∧strip q=strip p:=by
 have hp:=fQ L hF nm X p h hX;have h1:=mH (C:=C) L hF nm X p hX hp (mF L nm X p h).symm;rw[h]at h1;rcases gD h1 with⟨h4,_⟩|⟨u,v,h4,h5,h6⟩
 ·cases h4
 ·cases h4;exact⟨hp,v,h5,h6.symm⟩
end Fx
end
section
open Go Go.RowKit
open Rd
open Ly
namespace Fx
open Tm Ly
theorem lK(W:Wri):∀(i:Nat) (l:Its) (ks:Nds),texts W (l.drop i) (ks.drop i)=(texts W l ks).drop i
 |0,l,ks=>by rw[show ks.drop 0=ks by cases ks <;> rfl,show l.drop 0=l by cases l <;> rfl];rfl
 |i+1,.nil,.nil=>rfl
 |i+1,.nil,.cons ..=>by simp[Its.drop,texts]
 |i+1,.cons h l,.nil=>by cases hl:l.drop i <;> simp[Its.drop,Nds.drop,texts,hl]
 |i+1,.when ..,.nil=>by simp only[Its.drop,Nds.drop];cases h:(Its.drop i ‹Its›) <;> simp[texts]
 |i+1,.cons h l,.cons a b c d e f g r=>by simp only[Its.drop,Nds.drop,texts,List.drop_succ_cons];exact lK W i l r
 |i+1,.when p q bd l,.cons a b c d e f g r=>by simp only[Its.drop,Nds.drop,texts,List.drop_succ_cons];exact lK W i l r
theorem zW{W:Wri}{i:Nat}{l:Its}{ks:Nds}{a:Wd}(h:(texts W l ks)[i]? =some (some a)):(texts W (l.drop i) (ks.drop i))[0]? =some (some a):=by
 rw[lK,List.getElem?_drop];simpa using h
theorem gE:∀l:Its,eU l=l.len
 | .nil=>rfl
 | .cons _ l=>by simp only[eU,Its.len,gE l]
 | .when _ _ _ l=>by simp only[eU,Its.len,gE l]
end Fx
theorem IC(A:List Tm.Ty)(W:Wri)(hWl:fs W)(l:Tm.Its)(hF:Tm.bG l)(hW:∀i a c b r,l.drop i= .when a c b r→kX A W b)
  (hSt:∀i h r t,l.drop i= .cons h r→h.k= .struct t→uP A W t)(U w:World)(rb cap gcap B gi gb:Nat)(bs vs:List Value)(ks:Nds)(b1:List Nat)(hU:Below U.heap.size U w)(ho:ak U (rb+1) 70 13 (some ⟨gi,0,none⟩) l.len cap bs)(hen:Tm.bu U rb l bs)
  (hkO:ak w B 28 7 (some ⟨gb,0,none⟩) ks.len gcap vs)(hkE:aU w B ks b1 vs)(hok:ks.ok)(htot:ks.tot≤1000000)(i:Nat)(hi:i < l.len)(hik:i < ks.len)(a2:Tm.Wd)(hu:(Fx.texts W l ks)[i]? =some (some a2)):
  ∀X fb,Below w.heap.size w X→bV U X rb fb A→Calls Tryz.prog 96 #[.map (some fb),.pointer (some ⟨gi,i * 13,none⟩),.pointer (some ⟨gb,i * 7,none⟩)] X (di X a2):=by
 have hr1:=Fx.zW hu;obtain⟨d2,r2,hd1,hd2⟩:=ks.cF i hik;obtain⟨g3,c3,bs3,b3,e1,e2,e3⟩:=aU.nd hkO hkE hd1;have ht2:d2.tot≤ks.tot:=by have:=ks.jJ i;rw[hd1,fP]at this;omega
 have hok2:d2.ok:=by have:=ks.pq i hok;rw[hd1]at this;exact(qI this).1
 have hfd:=Tm.dh i l hF;intro X fb hX hfm;have hUX:Below U.heap.size U X:=hU.trans (hX.mono hU.size);rw[hd1]at hr1;rcases Tm.cF l i hi with⟨h,r,hdr⟩|⟨a,c,bd,r,hdr⟩
 ·rw[hdr]at hr1 hfd;have f1:aY W h d2=some a2:=by unfold Nd.put at hr1;simp only[Fx.texts,List.getElem?_cons_zero]at hr1;injection hr1
  obtain⟨cv,hcv,hrow,hnx⟩:=Tm.bu.hd ho hen hdr;have hO:=FH A W h hfd.1 (fun t ht=>hSt i h r t hdr ht);have hrX:=hrow.below hUX hrow.lt;cases hmb:Tm.ba h with
  |true=>exact tr A W hWl h hO hmb U X rb fb B c3 gi (i * 13) gb (i * 7) cv g3 bs3 b3 d2 a2 hUX hfm hrX (e1.below hX e1.lt) (e2.below hX (Z5 _)) (e3.an _ _ _ (fun b hb=>hX.block b (e3.mem _ _ _ b hb).2)) hok2 (by omega) f1
  |false=>exact xy A W h hO hmb U X rb fb B c3 gi (i * 13) gb (i * 7) cv g3 bs3 b3 d2 a2 hUX hfm hrX (e1.below hX e1.lt) (e2.below hX (Z5 _)) (e3.an _ _ _ (fun b hb=>hX.block b (e3.mem _ _ _ b hb).2)) hok2 (by omega) f1
 ·rw[hdr]at hr1 hfd;obtain⟨cb,gc,capc,bsc,hxc,hoc,hec,hrow,hnx⟩:=Tm.bu.wh ho hen hdr;unfold Nd.put at hr1;simp only[Fx.texts,List.getElem?_cons_zero]at hr1;injection hr1 with hr1
  split at hr1
  ·cases hr1
  ·rename_i hno
   rw[not_or]at hno;exact tt A W bd (hW i a c bd r hdr) _ gb (i * 7) gi (i * 13) a d2 a2 U X rb fb B c3 capc gc g3 bsc bs3 b3 hUX hfm (Classical.not_not.1 hno.1) (Classical.not_not.1 hno.2) hr1 hoc hec (hrow.below hUX hrow.lt) (e1.below hX e1.lt) hok2.2 (by unfold Nd.tot at ht2;omega) (e2.below hX (Z5 _)) (e3.an _ _ _ (fun b hb=>hX.block b (e3.mem _ _ _ b hb).2))
namespace Fx
theorem join_cons{T:List (Option Tm.Wd)}{k b:Nat}{rest:Tm.Wd}(hk:k≤b)(hb:b < T.length)(h:dH ((T.drop k).take (b+1 - k))=some rest):∃a2 b2,T[k]? =some (some a2)∧dH ((T.drop (k+1)).take (b+1 - (k+1)))=some b2∧rest=a2++b2:=by
 have hkl:k < T.length:=by omega
 rw[List.drop_eq_getElem_cons hkl,show b+1 - k=(b+1 - (k+1))+1 by omega,List.take_succ_cons]at h;unfold dH at h;cases h1:T[k]with
 |none=>rw[h1]at h;cases h
 |some a2=>
  rw[h1]at h;cases h2:dH ((T.drop (k+1)).take (b+1 - (k+1)))with
  |none=>rw[h2]at h;cases h
  |some b2=>
   rw[h2]at h;injection h with h
   exact⟨a2,b2,by rw[Y1 hkl,h1],rfl,h.symm⟩
theorem FM{T:List (Option Tm.Wd)}{k b:Nat}{rest:Tm.Wd}(hk:b < k)(h:dH ((T.drop k).take (b+1 - k))=some rest):rest=[]:=by
 rw[show b+1 - k=0 by omega,List.take_zero]at h;cases h;rfl
end Fx
theorem DD(T:List (Option Tm.Wd))(w:World)(a:Option Addr)(n cap capi gcap gi gb ni i j:Nat)(u:Tm.Wd)(hni:ni≤100000)(hci:ni≤capi)(hcg:ni≤gcap)(hT:T.length=ni)(hj:j < ni)(hij:i≤j+1)(hu:u.length≤1000000)(hjo:Fx.dH ((T.drop i).take (j+1 - i))=some u)
  (hP:∀k a2 X,k < ni→T[k]? =some (some a2)→Below w.heap.size w X→Calls Tryz.prog 125 #[.slice a n cap,.pointer (some ⟨gi,k * 13,none⟩),.pointer (some ⟨gb,k * 7,none⟩)] X fun e w'=>Below X.heap.size X w'∧e= .returned (.tuple #[.string (aa a2),.nilIface])):
  Calls Tryz.prog 100 #[.agg #[.slice a n cap],.slice (some ⟨gi,0,none⟩) ni capi,.slice (some ⟨gb,0,none⟩) ni gcap,.int .i64 (i:Nat),.int .i64 (j:Nat)] w fun e w'=>Below w.heap.size w w'∧e= .returned (.tuple #[.string (aa u),.nilIface]):=by
 have HP:=hid hP;have HT:=hid hT;have HJ:=hid hjo;have HU:=hid hu;clear hP hT hjo hu;go_enter Tryz.func100,Tryz.ntmps100;go_wp2_with fail;go_loopw [12,13] (fun v12 v13 wr=>∃(k:Nat) (acc:Tm.Wd),v12= .string (aa acc)∧v13= .int .i64 (k:Nat)∧k≤j+1∧Hid (Below w.heap.size w wr∧ae wr w.heap.size 0 75 [.slice a n cap])∧Hid (∃rest,Fx.dH ((T.drop k).take (j+1 - k))=some rest∧u=acc++rest)) (fun _ v13 _=>j+1 - (intOf v13).toNat)
 case atStart=>exact⟨i,[],rfl,rfl,hij,hid ⟨(Y4 _ _).alloc (Z5 _) _,ae.new w 75 #[.slice a n cap]⟩,hid ⟨u,HJ.out,rfl⟩⟩
 case round=>
  obtain⟨k,acc,rfl,rfl,hk,HB,HQ⟩:=hrel;have c0:=HB.out.2.cell0 0 (by simp);simp only[Z0]at c0
  by_cases hkj:k≤j
  ·have q1:decide ((k:Int)≤(j:Int))=true:=Z9 (by omega);have q2:decide (k≤j)=true:=Z9 hkj;have hki:(k:Int)≤(j:Int):=by omega
   have hkn:(k:Int) < (ni:Int):=by omega
   have hkn2:k < ni:=by omega
   have hk0:(0:Int)≤(k:Int):=by omega
   obtain⟨rest,r1,r2⟩:=HQ.out;obtain⟨a2,b2,t1,t2,t3⟩:=Fx.join_cons hkj (by rw[HT.out];exact hj) r1;have hr:=HB.out.2;have HC:=hid (fun X (hX:Below w.heap.size w X)=>HP.out k a2 X hkn2 t1 hX);have HQ2:=hid (show Fx.dH ((T.drop (k+1)).take (j+1 - (k+1)))=some b2∧u=(acc++a2)++b2 from⟨t2,by rw[r2,t3,List.append_assoc]⟩);have hlen:(acc++a2).length≤u.length:=by rw[HQ2.out.2];simp
   have hss:=nV (a:=acc) (b:=a2) (by rw[← Z7];have:=HU.out;omega);have hs2:¬(9223372036854775807 < acc.length+a2.length):=by rw[← Z7];have:=HU.out;omega
   have hs3:decide (9223372036854775807 < acc.length+a2.length)=false:=Y9 hs2;have HKJ:=hid hkj;have HKN:=hid hkn2;have HNI:=hid hni;have hS1:wr.drew.cell? ⟨w.heap.size,0,none⟩=some (.slice a n cap)∧Hid (Below w.heap.size w wr.drew):=⟨c0,hid HB.out.1.drew⟩;clear r1 r2 t1 t2 t3 hlen hr hk hkj;go_wp2_with fail;go_region_held3 (fun X=>X.cell? ⟨w.heap.size,0,none⟩=some (.slice a n cap)∧Hid (Below w.heap.size w X))
    (first
     |exact hS1
     |assumption)
    (first
     |(go_at_call 125;(with_reducible refine(HC.out _ ?_).mono ?_);(next=>exact hS1.2.out);(rintro e w5 ⟨hb5,rfl⟩);(have HB5:=hid (Below.trans (Y4 wr.heap.size wr).drew hb5));(have hr5:=HB.out.2.below HB5.out HB.out.2.lt);(have HR5:=hid hr5);(have k5:=hr5.cell0 0 (by simp));(simp only[Z0]at k5);(have hS5:w5.cell? ⟨w.heap.size,0,none⟩=some (.slice a n cap)∧Hid (Below w.heap.size w w5):=⟨k5,hid (HB.out.1.trans (HB5.out.mono HB.out.1.size))⟩)))
   all_goals
    go_wp2_with fail;go_roundw
    case rel=>exact⟨k+1,acc++a2,by first|rfl|rw[gN],by first|rfl|rw[az HKN.out HNI.out],by have:=HKJ.out;omega,hid ⟨hS5.2.out,HR5.out⟩,hid ⟨b2,HQ2.out⟩⟩
    case measure=>(try rw[az HKN.out HNI.out]);simp only[intOf];have:=HKJ.out;omega
  ·have q1:decide ((k:Int)≤(j:Int))=false:=Y9 (by omega);have q2:decide (k≤j)=false:=Y9 hkj;obtain⟨rest,r1,r2⟩:=HQ.out;have he:=Fx.FM (by omega) r1;have HE:=hid (show u=acc by rw[r2,he,List.append_nil]);clear r1 r2 he hk hkj;go_wp2_with fail;go_ret2;exact⟨HB.out.1,by rw[HE.out];rfl⟩
theorem mJ{w:World}{B:Nat}:∀(l:Nds) (bl:List Nat) (vs:List Value),aU w B l bl vs→∀u∈vs,u.oneCell'=true
 | .nil,bl,vs,h,u,hu=>by rw[h.1]at hu;cases hu
 | .cons ..,bl,vs,h,u,hu=>by
  obtain⟨ga,cap,bs,us,b1,b2,_,_,_,rfl,h5⟩:=h;rcases List.mem_append.1 hu with h6|h6
  ·simp only[ab,List.mem_cons,List.not_mem_nil,or_false]at h6;rcases h6 with rfl|rfl|rfl|rfl|rfl|rfl|rfl <;> rfl
  ·exact mJ _ _ _ h5 u h6
theorem zX(w:World)(B n cap:Nat)(a:Option Addr)(vs:List Value)(ho:ak w B 28 7 a n cap vs)(h1:∀u∈vs,u.oneCell'=true)(hn:n≤100000):
  Calls Tryz.prog 76 #[.slice a n cap] w fun e w'=>Below w.heap.size w w'∧∃a' cap',e= .returned (.slice a' n cap')∧ak w' w.heap.size 28 7 a' n cap' vs:=by
 have hcap:n≤cap:=aW ho;have HO:=hid ho;have HN:=hid hn;have H1:=hid h1;clear ho h1;cases a with
 |none=>
  obtain⟨rfl,rfl,h3⟩:=HO.out.aS;have hb:∀V,Sem.run Tryz.prog (binOp .eql 26 (.slice none 0 0) (.slice none 0 0)) V= .ok (.bool true) V:=fun V=>by kernel_rfl
  have HB:=hid hb;clear hb;go_enter Tryz.func76,Tryz.ntmps76;go_wp2_with fail;rw[HB.out];go_wp2_with fail;go_ret;exact⟨Y4 _ _,none,0,rfl,by rw[h3];exact ak.nil _ _ _ _⟩
 |some x=>
  have hb:∀V,Sem.run Tryz.prog (binOp .eql 26 (.slice (some x) n cap) (.slice none 0 0)) V= .ok (.bool false) V:=fun V=>by kernel_rfl
  have HB:=hid hb;clear hb;go_enter Tryz.func76,Tryz.ntmps76;go_wp2_with fail;rw[HB.out];have hbA:=(Y4 w.heap.size w).alloc (Z5 _) (.cells #[] 28);have ho0:ak (w.alloc (.cells #[] 28)) w.heap.size 28 7 (some ⟨w.heap.size,0,none⟩) 0 0 []:=ak.nA (n:=0) (cap:=0) (size:=7) (xs:=[]) rfl (w.alloc (.cells #[] 28)) w.heap.size #[] (Z5 _) (heap_alloc_new w _) rfl (Z5 _) (by decide) rfl;have hrd:=ak.zy (HO.out.below hbA (Z5 _)) H1.out;have HOO:=hid ho0;have HRD:=hid hrd;have HSM:=hid (show 0+n≤maxLen∧(0+n) * 88≤140737488355328 from⟨by have:=HN.out;show 0+n≤9223372036854775807;omega,by have:=HN.out;omega⟩);clear hbA ho0 hrd;go_wp2_with (refine jB _ (by rfl) _ _ 26 (by rfl) w.heap.size 28 _ 7 88 (by rfl) de rfl (by decide) (some ⟨w.heap.size,0,none⟩) 0 0 [] (by rfl) HOO.out (some x) n cap vs (by rfl) HRD.out HSM.out.1 HSM.out.2 (by simp) ?_;intro a4 c4 w4 ho4 hg4 hb4 hl4);go_ret;exact⟨((Y4 _ _).alloc (Z5 _) _).trans (hb4.mono (Z5 _)),a4,c4,rfl,by rw[Nat.zero_add]at ho4;simpa using ho4⟩
end
end Go.Proofs.YtlomecfhobehnaaGreatDoor
