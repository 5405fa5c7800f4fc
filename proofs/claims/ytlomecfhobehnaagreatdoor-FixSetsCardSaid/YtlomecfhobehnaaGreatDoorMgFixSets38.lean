import Derived.Test.YtlomecfhobehnaaGreatDoorMgFixSets37
set_option linter.unusedVariables false
set_option linter.unusedSimpArgs false
namespace Go.Proofs.YtlomecfhobehnaaGreatDoor
open Lib (hid)
section
open Go Go.RowKit
open Rd
open Ly
namespace Fx
open Tm Ly
theorem nB:∀(i:Nat) (v:Int) (l:Nds),(dK i v l).tot=l.tot
 |_,_,.nil=>by cases ‹Nat› <;> rfl
 |0,v,.cons ..=>rfl
 |n+1,v,.cons a b c d e f g r=>by simp only[dK,Nds.tot,nB n v r]
theorem tN:∀(i:Nat) (v:Int) (l:Nds),Ex.InR v→l.ok→(dK i v l).ok
 |_,_,.nil,_,h=>by cases ‹Nat› <;> exact h
 |0,v,.cons ..,hv,h=>⟨hv,h.2⟩
 |n+1,v,.cons a b c d e f g r,hv,h=>⟨h.1,h.2.1,tN n v r hv h.2.2⟩
theorem nC:∀(L M:List (Option Wd)) (u:Wd),dC (L++M)=some u→∃u1 u2,dC L=some u1∧dC M=some u2∧u=u1++u2
 |[],M,u,h=>⟨[],u,rfl,h,rfl⟩
 |x::L,M,u,h=>by
  have h2:x.bind (fun t=>(dC (L++M)).map (t++ ·))=some u:=h;cases x with
  |none=>cases h2
  |some t=>
   simp only[Option.bind_some]at h2;cases h3:dC (L++M)with
   |none=>rw[h3]at h2;cases h2
   |some v=>
    rw[h3]at h2;simp only[Option.map_some,Option.some.injEq]at h2;obtain⟨u1,u2,e1,e2,rfl⟩:=nC L M v h3;refine⟨t++u1,u2,?_,e2,by rw[← h2,List.append_assoc]⟩;show(some t).bind (fun t=>(dC L).map (t++ ·))=_;rw[e1];rfl
theorem Ci{L:List (Option Wd)}{u:Wd}(h:dC L=some u)(a c:Nat):∃v,dC ((L.drop a).take c)=some v∧v.length≤u.length:=by
 rw[← List.take_append_drop a L]at h;obtain⟨u1,u2,e1,e2,rfl⟩:=nC _ _ _ h;rw[← List.take_append_drop c (L.drop a)]at e2;obtain⟨v1,v2,f1,f2,rfl⟩:=nC _ _ _ e2;exact⟨v1,f1,by simp;omega⟩
theorem nY{W:Wri}(hWl:fi W){l:Its}{ks:Nds}(h:(aH W l ks).isSome=true)(a b:Nat):∃u,jv W l ks a b=some u∧u.length≤ks.tot:=by
 obtain⟨t,ht⟩:=Option.isSome_iff_exists.1 h;have hle:=jU hWl l ks t ht;rw[fY]at ht;split at ht
 ·obtain⟨v,h1,h2⟩:=Ci ht a (b+1 - a);exact⟨v,h1,by omega⟩
 ·cases ht
theorem j9{n:Nat}(h:n≤4294967296):Ex.InR (n:Int):=⟨by omega,by omega⟩
theorem qn{C:Wd→Nat}(hC:∀u,C u < 4294967296){W:Wri}(hWl:fi W){l:Its}{ks:Nds}(h:(aH W l ks).isSome=true)(ht:ks.tot≤800000)(hd:Hd):Ex.InR (av C W l ks hd):=by
 unfold av;cases hd.ax with
 |none=>exact(show Ex.InR 0 from⟨by decide,by decide⟩)
 |size f=>
  obtain⟨u,h1,h2⟩:=nY hWl h (aV l.row f).toNat (aV l.row f).toNat;simp only[h1,Option.getD_some];exact j9 (by omega)
 |count f=>
  simp only[];cases hn:nth (aV l.row f).toNat ks with
  |none=>exact⟨by decide,by decide⟩
  |some d=>
   have h2:d.kids.len * 8≤ks.tot:=by
    clear h;generalize(aV l.row f).toNat=k at hn
    induction k generalizing ks with
    |zero=>
     cases ks with
     |nil=>cases hn
     |cons a b c d' e f g r=>
      cases hn;have:=j6 g;simp only[Nds.tot];omega
    |succ k ih=>
     cases ks with
     |nil=>cases hn
     |cons a b c d' e f g r=>
      simp only[Nds.tot]at ht⊢;have:=ih (ks:=r) (by omega) hn;omega
   simp only[Option.map_some,Option.getD_some];exact j9 (by omega)
 |check f g=>
  simp only[];split
  ·exact⟨by decide,by decide⟩
  ·exact j9 (Nat.le_of_lt (hC _))
def OkF(W:Wri)(B:Fxr):Prop:=∀nm ks p,B nm ks=some p→(W nm ks).isSome=true→ks.ok→ks.tot≤800000→p.ok∧p.tot=ks.tot
theorem tP{C:Wd→Nat}(hC:∀u,C u < 4294967296){W:Wri}(hWl:fi W){l:Its}(hf:bB l):∀(O:List Nat) (ks p:Nds),(∀i∈O,i∈ord l.row)→eE C W l O ks=some p→(aH W l ks).isSome=true→ks.ok→ks.tot≤800000→p.ok∧p.tot=ks.tot
 |[],ks,p,_,h,_,ho,_=>by cases h;exact⟨ho,rfl⟩
 |i::O,ks,p,hO,h,hw,ho,ht=>by
  unfold eE at h;obtain⟨q,h1,h2⟩:=Option.bind_eq_some_iff.1 h;have hwq:=l7 hf (hO i (by simp)) h1 hw;have hq:q.ok∧q.tot=ks.tot:=by
   unfold gp at h1;split at h1
   ·cases h1;exact⟨ho,rfl⟩
   ·split at h1
    ·cases h1;exact⟨tN _ _ _ (qn hC hWl hw ht _) ho,nB _ _ _⟩
    ·cases h1
  have:=tP hC hWl hf O q p (fun i hi=>hO i (by simp[hi])) h2 hwq hq.1 (by omega);exact⟨this.1,by omega⟩
theorem wE{f:Nds→Option Nds}{P:Nds→Prop}(hf:∀ks p,f ks=some p→P ks→ks.ok→ks.tot≤800000→p.ok∧p.tot=ks.tot):∀(ks p:Nds),dD f ks=some p→BZ P ks→ks.ok→ks.tot≤800000→p.ok∧p.tot=ks.tot
 | .nil,p,h,_,ho,_=>by cases h;exact⟨ho,rfl⟩
 | .cons a b c d e t g r,p,h,hP,ho,ht=>by
  unfold dD at h;obtain⟨g',h1,h2⟩:=Option.bind_eq_some_iff.1 h;obtain⟨q,h3,rfl⟩:=Option.map_eq_some_iff.1 h2;simp only[Nds.tot]at ht;have e1:=hf _ _ h1 hP.1 ho.2.1 (by omega);have e2:=wE hf r q h3 hP.2 ho.2.2 (by omega);refine⟨⟨ho.1,e1.1,e2.1⟩,?_⟩;simp only[Nds.tot];omega
theorem GV{W:Wri}{B:Fxr}(hO:OkF W B){h:Hd}{d:Nd}{p:Nds}(hh:hdF B h d.kids=some p)(hw:(bc W h d).isSome=true)(ho:d.kids.ok)(ht:d.kids.tot≤800000):p.ok∧p.tot=d.kids.tot:=by
 unfold hdF at hh;cases hk:h.k with
 |scalar w=>rw[hk]at hh;cases hh;exact⟨ho,rfl⟩
 |bytes=>rw[hk]at hh;cases hh;exact⟨ho,rfl⟩
 |struct t=>
  rw[hk]at hh;simp only[]at hh;unfold bc at hw
  by_cases hm:cI h=true
  ·rw[if_pos hm]at hh hw;split at hw
   ·cases hw
   ·exact wE (P:=fun X=>(W t X).isSome=true) (fun ks p h1 h2 h3 h4=>hO t ks p h1 h2 h3 h4) _ _ hh (jy (fun d h=>bt hk h) _ hw) ho ht
  ·rw[if_neg hm]at hh hw;exact hO t _ _ hh (bt hk hw) ho ht
theorem iu{C:Wd→Nat}(hC:∀u,C u < 4294967296){W:Wri}(hWl:fi W){B:Fxr}(hK:kB W B)(hO:OkF W B):∀(l:Its),bB l→∀(ks p:Nds),aM C W B l ks=some p→(aH W l ks).isSome=true→ks.ok→ks.tot≤800000→p.ok∧p.tot=ks.tot
 | .nil,_,ks,p,h,_,ho,_=>by unfold aM at h;cases h;exact⟨ho,rfl⟩
 | .cons h l,_,.nil,p,hh,_,ho,_=>by unfold aM at hh;cases hh;exact⟨ho,rfl⟩
 | .when ..,_,.nil,p,h,_,ho,_=>by unfold aM at h;cases h;exact⟨ho,rfl⟩
 | .cons h l,hf,.cons a b c d e f g r,p,hh,hw,ho,ht=>by
  unfold aM at hh;obtain⟨g',h1,h2⟩:=Option.bind_eq_some_iff.1 hh;obtain⟨q,h3,rfl⟩:=Option.map_eq_some_iff.1 h2;simp only[Nds.tot]at ht;have hw2:=cg hw;have e1:=GV hO (d:=⟨a,b,c,d,e,f,g⟩) h1 hw2.1 ho.2.1 (by simp only[];omega);have e2:=iu hC hWl hK hO l hf.2 r q h3 hw2.2 ho.2.2 (by omega);simp only[]at e1;refine⟨⟨ho.1,e1.1,e2.1⟩,?_⟩;simp only[Nds.tot];omega
 | .when p0 q0 body l,hf,.cons a b c d e f g r,p,hh,hw,ho,ht=>by
  unfold aM at hh;obtain⟨g',h1,h2⟩:=Option.bind_eq_some_iff.1 hh;obtain⟨q,h3,rfl⟩:=Option.map_eq_some_iff.1 h2;simp only[Nds.tot]at ht;have hw2:=bF hw;have e1:g'.ok∧g'.tot=g.tot:=by
   by_cases he:e=0
   ·rw[if_pos he]at h1;cases h1;exact⟨ho.2.1,rfl⟩
   ·rw[if_neg he]at h1;obtain⟨z,z1,z2⟩:=Option.bind_eq_some_iff.1 h1;have w1:=hw2.1 he;have f1:=iu hC hWl hK hO body hf.2.1 g z z1 w1 ho.2.1 (by omega);have f2:=tP hC hWl hf.2.1 _ z g' (fun i hi=>hi) z2 (di hK body hf.2.1 g z z1 w1) f1.1 (by omega);exact⟨f2.1,by omega⟩
  have e2:=iu hC hWl hK hO l hf.2.2 r q h3 hw2.2.2 ho.2.2 (by omega);refine⟨⟨ho.1,e1.1,e2.1⟩,?_⟩;simp only[Nds.tot];omega
theorem FR{C:Wd→Nat}(hC:∀u,C u < 4294967296){W:Wri}(hWl:fi W){B:Fxr}(hK:kB W B)(hO:OkF W B){l:Its}(hf:bB l){ks p:Nds}(h:fj C W B l ks=some p)(hw:(aH W l ks).isSome=true)(ho:ks.ok)(ht:ks.tot≤800000):p.ok∧p.tot=ks.tot:=by
 unfold fj at h;obtain⟨z,z1,z2⟩:=Option.bind_eq_some_iff.1 h;have f1:=iu hC hWl hK hO l hf ks z z1 hw ho ht;have f2:=tP hC hWl hf _ z p (fun i hi=>hi) z2 (di hK l hf ks z z1 hw) f1.1 (by omega);exact⟨f2.1,by omega⟩
theorem mm{C:Wd→Nat}(hC:∀u,C u < 4294967296):∀(L:List Ty),(∀t∈L,aZ t)→OkF (wrS L) (dj C L)
 |[],_,nm,ks,p,h,hw,_,_=>by cases hw
 |t::r,hF,nm,ks,p,h,hw,ho,ht=>by
  unfold dj at h;unfold wrS at hw;have hr:∀t∈r,aZ t:=fun t ht=>hF t (by simp[ht])
  by_cases hn:t.name=nm
  ·rw[if_pos hn]at h hw;exact FR hC (mZ r) (fJ r hr) (mm hC r hr) (hF t (by simp)).2 h hw ho ht
  ·rw[if_neg hn]at h hw;exact mm hC r hr nm ks p h hw ho ht
theorem wG:∀(i:Nat) (ks:Nds) (d:Nd) (r:Nds),ks.drop i=d.put r→nth i ks=some d
 |0,.nil,d,r,h=>by cases h
 |0,.cons a b c e f g k r',d,r,h=>by
  have h2:Nds.cons a b c e f g k r'=Nds.cons d.name d.kind d.at_ d.size d.val d.text d.kids r:=h;injection h2 with e1 e2 e3 e4 e5 e6 e7 e8
  subst e1 e2 e3 e4 e5 e6 e7;rfl
 |i+1,.nil,d,r,h=>by cases h
 |i+1,.cons a b c e f g k r',d,r,h=>wG i r' d r h
theorem nD:∀(l:Its) (i:Nat) (h:Hd),eG l i=some h→∃r,l.drop i= .cons h r
 | .nil,i,h,hh=>by cases i <;> cases hh
 | .cons h0 l,0,h,hh=>by cases hh;exact⟨l,rfl⟩
 | .when _ _ _ l,0,h,hh=>by cases hh
 | .cons h0 l,i+1,h,hh=>nD l i h hh
 | .when _ _ _ l,i+1,h,hh=>nD l i h hh
theorem Ai:∀(k:Nat) (ks:Nds) (d:Nd),nth k ks=some d→d.kids.len * 8≤ks.tot
 |k,.nil,d,h=>by cases k <;> cases h
 |0,.cons a b c e f g x r,d,h=>by
  cases h;have:=j6 x;simp only[Nds.tot];omega
 |k+1,.cons a b c e f g x r,d,h=>by
  have:=Ai k r d h;simp only[Nds.tot];omega
def bJ(u:Wd):Nat:=ofN zb u
theorem iR(u:Wd):bJ u < 4294967296:=Nat.lt_of_lt_of_le (FN zb mj _ (ql zb mj _ _ mj.i)) (GS zb mj)
end Fx
end
end Go.Proofs.YtlomecfhobehnaaGreatDoor
