import Derived.Test.YtlomecfhobehnaaGreatDoorMgFixSets34
set_option linter.unusedVariables false
set_option linter.unusedSimpArgs false
set_option maxRecDepth 100000
set_option maxHeartbeats 2000000
namespace Go.Proofs.YtlomecfhobehnaaGreatDoor
open Lib (hid)
section
namespace Fx
open Ly Tm
abbrev Itf:=Wd→List Nat→Option Hd
def gf(R:Itf)(h:Hd):List Nat→Option Hd
 |[]=>some h
 |k::p=>match h.k with
  | .struct t=>R t (k::p)
  |_=>none
def hdI(R:Itf)(h:Hd):List Nat→Option Hd
 |[]=>some h
 |k::p=>if cI h then gf R h p else gf R h (k::p)
def km(R:Itf):Its→List Nat→Option Hd
 | .nil,_=>none
 | .cons h l,p=>match p with
  |[]=>none
  |0::q=>hdI R h q
  |(k+1)::q=>km R l (k::q)
 | .when _ _ body l,p=>match p with
  |[]=>none
  |0::q=>km R body q
  |(k+1)::q=>km R l (k::q)
def itS:List Ty→Itf
 |[],_,_=>none
 |t::r,nm,p=>if t.name=nm then km (itS r) t.items p else itS r nm p
def atN(f:Nd→Nd):Nat→Nds→Nds
 |_,.nil=> .nil
 |0,.cons a b c d e g k r=>(f ⟨a,b,c,d,e,g,k⟩).put r
 |n+1,.cons a b c d e g k r=> .cons a b c d e g k (atN f n r)
def cB(f:Nd→Nd):List Nat→Nd→Nd
 |[],d=>f d
 |k::p,d=>{d with kids:=atN (cB f p) k d.kids}
def vU(k:Nat)(q:List Nat)(X:Nds):Option Nd:=(nth k X).bind (bD q)
theorem tK(f:Nd→Nd):∀(k:Nat) (X:Nds),(atN f k X).len=X.len
 |k,.nil=>by cases k <;> rfl
 |0,.cons ..=>rfl
 |k+1,.cons a b c d e g x r=>by simp only[atN,Nds.len,tK f k r]
theorem Ad(f:Nd→Nd):∀(k:Nat) (X:Nds),nth k (atN f k X)=(nth k X).map f
 |k,.nil=>by cases k <;> rfl
 |0,.cons ..=>rfl
 |k+1,.cons a b c d e g x r=>Ad f k r
theorem nw(f:Nd→Nd):∀(p:List Nat) (d:Nd),bD p (cB f p d)=(bD p d).map f
 |[],d=>rfl
 |k::p,d=>by
  show(nth k (atN (cB f p) k d.kids)).bind (bD p)=((nth k d.kids).bind (bD p)).map f;rw[Ad];cases nth k d.kids with
  |none=>rfl
  |some d2=>exact nw f p d2
def GoS(W:Wri)(R:Itf)(f:Nd→Nd)(h:Hd):Prop:=∀(nm:Wd) (k:Nat) (q:List Nat) (X:Nds) (x:Nd),(W nm X).isSome=true→R nm (k::q)=some h→vU k q X=some x→x.kind=kNo h.k→(W nm (atN (cB f q) k X)).isSome=true
theorem DU(k:Knd):(9:Nat)≠kNo k:=by cases k <;> simp[kNo]
theorem B6{W:Wri}{h:Hd}{t:Wd}(hk:h.k= .struct t){d:Nd}{X:Nds}(hd:(aY W h d).isSome=true)(hX:(W t X).isSome=true):(aY W h {d with kids:=X}).isSome=true:=by
 unfold aY at hd⊢;rw[hk]at hd⊢;simp only[]at hd⊢;split at hd
 ·cases hd
 ·rename_i hn
  rw[if_neg hn];exact hX
theorem vV{W:Wri}{R:Itf}{f:Nd→Nd}{h:Hd}(hG:GoS W R f h)(hf:∀d,(aY W h d).isSome=true→(aY W h (f d)).isSome=true){h0:Hd}{d x:Nd}:∀{p:List Nat},(aY W h0 d).isSome=true→gf R h0 p=some h→bD p d=some x→x.kind=kNo h.k→(aY W h0 (cB f p d)).isSome=true
 |[],hd,hi,_,_=>by cases hi;exact hf d hd
 |k::q,hd,hi,hx,hk=>by
  unfold gf at hi;cases h1:h0.k with
  |scalar w=>rw[h1]at hi;cases hi
  |bytes=>rw[h1]at hi;cases hi
  |struct t=>
   rw[h1]at hi;exact B6 h1 hd (hG t k q d.kids x (bt h1 hd) hi hx hk)
theorem vW{g:Nd→Option Wd}{f:Nd→Nd}:∀(k:Nat) (X:Nds),(∀d,nth k X=some d→(g d).isSome=true→(g (f d)).isSome=true)→(cO g X).isSome=true→(cO g (atN f k X)).isSome=true
 |k,.nil,_,h=>by cases k <;> exact h
 |k,.cons a b c d e t x r,hM,h=>by
  unfold cO at h;cases h1:g ⟨a,b,c,d,e,t,x⟩with
  |none=>rw[h1]at h;cases h
  |some u=>
   rw[h1]at h;cases h2:cO g r with
   |none=>rw[h2]at h;cases h
   |some v=>
    cases k with
    |zero=>
     obtain⟨z,hz⟩:=Option.isSome_iff_exists.1 (hM ⟨a,b,c,d,e,t,x⟩ rfl (by rw[h1];rfl));show(cO g ((f ⟨a,b,c,d,e,t,x⟩).put r)).isSome=true;unfold Nd.put cO;have hz2:g ⟨(f ⟨a,b,c,d,e,t,x⟩).name,(f ⟨a,b,c,d,e,t,x⟩).kind,(f ⟨a,b,c,d,e,t,x⟩).at_,(f ⟨a,b,c,d,e,t,x⟩).size,(f ⟨a,b,c,d,e,t,x⟩).val,(f ⟨a,b,c,d,e,t,x⟩).text,(f ⟨a,b,c,d,e,t,x⟩).kids⟩=some z:=hz;rw[hz2,h2];rfl
    |succ k=>
     obtain⟨z,hz⟩:=Option.isSome_iff_exists.1 (vW k r (fun d hd=>hM d hd) (by rw[h2];rfl));simp only[atN,cO];rw[h1,hz];rfl
theorem FE{W:Wri}{R:Itf}{f:Nd→Nd}{h:Hd}(hG:GoS W R f h)(hf:∀d,(aY W h d).isSome=true→(aY W h (f d)).isSome=true){h0:Hd}{d x:Nd}{p:List Nat}(hd:(bc W h0 d).isSome=true)(hi:hdI R h0 p=some h)(hx:bD p d=some x)(hk:x.kind=kNo h.k):(bc W h0 (cB f p d)).isSome=true:=by
 unfold bc at hd⊢
 by_cases hm:cI h0=true
 ·rw[if_pos hm]at hd⊢;split at hd
  ·cases hd
  ·rename_i hn
   cases p with
   |nil=>
    cases hi;cases hx;rw[not_or]at hn;have:=Classical.not_not.1 hn.2;rw[hk]at this;exact absurd this.symm (DU _)
   |cons k q=>
    have hi2:gf R h0 q=some h:=by
     have hi3:(if cI h0=true then gf R h0 q else gf R h0 (k::q))=some h:=hi;rw[if_pos hm]at hi3;exact hi3
    show(if d.name≠h0.name∨d.kind≠9 then none else cO (aY W h0) (atN (cB f q) k d.kids)).isSome=true;rw[if_neg hn];refine vW k _ (fun d2 h2 h3=> ?_) hd;have hx2:bD q d2=some x:=by
     have:(nth k d.kids).bind (bD q)=some x:=hx;rw[h2]at this;exact this
    exact vV hG hf h3 hi2 hx2 hk
 ·rw[if_neg hm]at hd⊢;have hi2:gf R h0 p=some h:=by
   cases p with
   |nil=>exact hi
   |cons k q=>
    have hi3:(if cI h0=true then gf R h0 q else gf R h0 (k::q))=some h:=hi;rw[if_neg hm]at hi3;exact hi3
  exact vV hG hf hd hi2 hx hk
theorem l9{W:Wri}{R:Itf}{f:Nd→Nd}{h:Hd}(hG:GoS W R f h)(hf:∀d,(aY W h d).isSome=true→(aY W h (f d)).isSome=true){x:Nd}(hk:x.kind=kNo h.k):∀(l:Its) (k:Nat) (q:List Nat) (X:Nds),(aH W l X).isSome=true→km R l (k::q)=some h→vU k q X=some x→(aH W l (atN (cB f q) k X)).isSome=true
 | .nil,k,q,X,hX,hi,_=>by cases hi
 | .cons ..,k,q,.nil,hX,_,_=>by cases hX
 | .when ..,k,q,.nil,hX,_,_=>by cases hX
 | .cons h0 l,0,q,.cons a b c d e t g r,hX,hi,hx=>by
  have h1:=cg hX;have h2:=FE hG hf h1.1 hi hx hk;show(aH W (.cons h0 l) ((cB f q ⟨a,b,c,d,e,t,g⟩).put r)).isSome=true;exact qc h2 h1.2
 | .cons h0 l,k+1,q,.cons a b c d e t g r,hX,hi,hx=>qc (cg hX).1 (l9 hG hf hk l k q r (cg hX).2 hi hx)
 | .when p0 q0 body l,k+1,q,.cons a b c d e t g r,hX,hi,hx=>by
  have h2:=l9 hG hf hk l k q r (bF hX).2.2 hi hx;simp only[atN];rw[fY]at hX⊢;rw[dR]at h2;split at hX
  ·rename_i hl
   rw[if_pos (by simp only[fp,Nds.len]at hl⊢;omega)];rw[kZ]at hX⊢;simp only[texts,List.all_cons,Bool.and_eq_true]at hX⊢;exact⟨hX.1,h2.2⟩
  ·cases hX
 | .when p0 q0 body l,0,q,.cons a b c d e t g r,hX,hi,hx=>by
  have h3:=bF hX;have ha:¬(a≠[]∨b≠4):=by
   intro hn;unfold aH at hX;rw[if_pos hn]at hX;cases hX
  obtain⟨z,hz⟩:=Option.isSome_iff_exists.1 h3.2.2;have hi2:km R body q=some h:=hi;have hx2:bD q ⟨a,b,c,d,e,t,g⟩=some x:=hx;cases q with
  |nil=>cases body <;> cases hi2
  |cons k2 q2=>
   have hx3:vU k2 q2 g=some x:=hx2;have he:e≠0:=by
    intro he;rw[h3.2.1 he]at hx3;cases k2 <;> cases hx3
   obtain⟨y,hy⟩:=Option.isSome_iff_exists.1 (l9 hG hf hk body k2 q2 g (h3.1 he) hi2 hx3);show(aH W (.when p0 q0 body l) (.cons a b c d e t (atN (cB f q2) k2 g) r)).isSome=true;unfold aH;rw[if_neg ha,if_neg he,hz,hy];rfl
theorem qd{f:Nd→Nd}{h:Hd}(hf:∀W d,(aY W h d).isSome=true→(aY W h (f d)).isSome=true):∀L:List Ty,GoS (wrS L) (itS L) f h
 |[],nm,k,q,X,x,hX,_,_,_=>by cases hX
 |t::r,nm,k,q,X,x,hX,hi,hx,hk=>by
  unfold wrS at hX⊢;unfold itS at hi
  by_cases hn:t.name=nm
  ·rw[if_pos hn]at hX hi⊢;exact l9 (qd hf r) (hf _) hk t.items k q X hX hi hx
  ·rw[if_neg hn]at hX hi⊢;exact qd hf r nm k q X x hX hi hx hk
theorem ma{L:List Ty}{root:Wd}{f:Nd→Nd}{h:Hd}(hf:∀W d,(aY W h d).isSome=true→(aY W h (f d)).isSome=true){d x:Nd}(hd:(wrT L root d).isSome=true){k:Nat}{q:List Nat}(hi:itS L root (k::q)=some h)(hx:bD (k::q) d=some x)(hk:x.kind=kNo h.k):(wrT L root (cB f (k::q) d)).isSome=true:=by
 obtain⟨hX,n1,n2⟩:=dO hd;unfold wrT aY;show(if d.name≠(cf root).name∨d.kind≠kNo (cf root).k then none else wrS L root (atN (cB f q) k d.kids)).isSome=true;rw[if_neg (by rw[not_or];exact⟨fun h=>h n1,fun h=>h n2⟩)];exact qd hf L root k q d.kids x hX hi hx hk
def Ae(W:Wri)(E:Wd→Nds→Nds)(R:Itf)(h:Hd):Prop:=∀(nm:Wd) (k:Nat) (q:List Nat) (X Y:Nds) (x:Nd),(W nm X).isSome=true→(W nm Y).isSome=true→E nm X=E nm Y→R nm (k::q)=some h→vU k q X=some x→∃y,vU k q Y=some y∧y.val=x.val
theorem sq{W:Wri}{E:Wd→Nds→Nds}{R:Itf}{h:Hd}(hG:Ae W E R h){h0:Hd}{d d' x:Nd}:∀{p:List Nat},(aY W h0 d).isSome=true→(aY W h0 d').isSome=true→(p=[]→d.val=d'.val)→(∀t,h0.k= .struct t→E t d.kids=E t d'.kids)→gf R h0 p=some h→bD p d=some x→∃y,bD p d'=some y∧y.val=x.val
 |[],_,_,hv,_,_,hx=>by cases hx;exact⟨d',rfl,(hv rfl).symm⟩
 |k::q,hd,hd',hv,hE,hi,hx=>by
  unfold gf at hi;cases h1:h0.k with
  |scalar w=>rw[h1]at hi;cases hi
  |bytes=>rw[h1]at hi;cases hi
  |struct t=>
   rw[h1]at hi;exact hG t k q d.kids d'.kids x (bt h1 hd) (bt h1 hd') (hE t h1) hi hx
theorem me{g:Nd→Option Wd}:∀(k:Nat) (X:Nds) (d:Nd),(cO g X).isSome=true→nth k X=some d→(g d).isSome=true
 |k,.nil,d,_,hn=>by cases k <;> cases hn
 |k,.cons a b c d e t x r,d2,h,hn=>by
  unfold cO at h;cases h1:g ⟨a,b,c,d,e,t,x⟩with
  |none=>rw[h1]at h;cases h
  |some u=>
   rw[h1]at h;cases h2:cO g r with
   |none=>rw[h2]at h;cases h
   |some v=>
    cases k with
    |zero=>cases hn;rw[h1];rfl
    |succ k=>exact me k r d2 (by rw[h2];rfl) hn
theorem Af{E:Nds→Nds}:∀(k:Nat) (X Y:Nds) (d:Nd),erE E X=erE E Y→nth k X=some d→∃d',nth k Y=some d'∧d'.val=d.val∧E d.kids=E d'.kids
 |k,.nil,_,d,_,hn=>by cases k <;> cases hn
 |k,.cons ..,.nil,d,h,_=>by simp[erE]at h
 |0,.cons ..,.cons ..,d,h,hn=>by
  cases hn;simp only[erE,Nds.cons.injEq]at h;exact⟨_,rfl,h.2.2.2.2.1.symm,h.2.2.2.2.2.2.1⟩
 |k+1,.cons a b c d e f g r,.cons a2 b2 c2 d2 e2 f2 g2 r2,d0,h,hn=>by
  simp only[erE,Nds.cons.injEq]at h;exact Af k r r2 d0 h.2.2.2.2.2.2.2 hn
theorem nz:∀(k:Nat) (X Y:Nds) (d:Nd),strip X=strip Y→nth k X=some d→∃d',nth k Y=some d'∧d'.val=d.val∧strip d.kids=strip d'.kids
 |k,.nil,_,d,_,hn=>by cases k <;> cases hn
 |k,.cons ..,.nil,d,h,_=>by simp[strip]at h
 |0,.cons ..,.cons ..,d,h,hn=>by
  cases hn;simp only[strip,Nds.cons.injEq]at h;exact⟨_,rfl,h.2.2.2.2.1.symm,h.2.2.2.2.2.2.1⟩
 |k+1,.cons a b c d e f g r,.cons a2 b2 c2 d2 e2 f2 g2 r2,d0,h,hn=>by
  simp only[strip,Nds.cons.injEq]at h;exact nz k r r2 d0 h.2.2.2.2.2.2.2 hn
theorem DV{W:Wri}{E:Wd→Nds→Nds}{R:Itf}{h:Hd}(hG:Ae W E R h){h0:Hd}{d d' x:Nd}{p:List Nat}(hd:(bc W h0 d).isSome=true)(hd':(bc W h0 d').isSome=true)(hv:p=[]→d.val=d'.val)(he:erH E h0 d.kids=erH E h0 d'.kids)(hi:hdI R h0 p=some h)(hx:bD p d=some x):∃y,bD p d'=some y∧y.val=x.val:=by
 cases p with
 |nil=>cases hx;exact⟨d',rfl,(hv rfl).symm⟩
 |cons k q=>
  unfold bc at hd hd'
  replace hi:(if cI h0=true then gf R h0 q else gf R h0 (k::q))=some h:=hi
  by_cases hm:cI h0=true
  ·rw[if_pos hm]at hd hd' hi;split at hd
   ·cases hd
   ·split at hd'
    ·cases hd'
    ·have hx2:(nth k d.kids).bind (bD q)=some x:=hx;obtain⟨d2,h2,h3⟩:=Option.bind_eq_some_iff.1 hx2;have hw:=me k _ _ hd h2;have key:∃d3,nth k d'.kids=some d3∧d3.val=d2.val∧(∀t,h0.k= .struct t→E t d2.kids=E t d3.kids):=by
      unfold erH at he;cases hk:h0.k with
      |struct t=>
       rw[hk]at he;simp only[]at he;rw[if_pos hm,if_pos hm]at he;obtain⟨d3,e1,e2,e3⟩:=Af k _ _ _ he h2;exact⟨d3,e1,e2,fun t' ht=>by cases ht;exact e3⟩
      |scalar w=>
       rw[hk]at he;obtain⟨d3,e1,e2,e3⟩:=nz k _ _ _ he h2;exact⟨d3,e1,e2,fun t' ht=>by cases ht⟩
      |bytes=>
       rw[hk]at he;obtain⟨d3,e1,e2,e3⟩:=nz k _ _ _ he h2;exact⟨d3,e1,e2,fun t' ht=>by cases ht⟩
     obtain⟨d3,e1,e2,e3⟩:=key;have hw':=me k _ _ hd' e1;obtain⟨y,y1,y2⟩:=sq hG hw hw' (fun _=>e2.symm) e3 hi h3;refine⟨y,?_,y2⟩;show(nth k d'.kids).bind (bD q)=some y;rw[e1];exact y1
  ·rw[if_neg hm]at hd hd' hi;refine sq hG hd hd' (fun hc=>by cases hc) (fun t ht=> ?_) hi hx;unfold erH at he;rw[ht]at he;simp only[]at he;rw[if_neg hm,if_neg hm]at he;exact he
theorem jZ{W:Wri}{E:Wd→Nds→Nds}{R:Itf}{h:Hd}(hG:Ae W E R h)(hr:isNone h.ax=true){x:Nd}:∀(l:Its) (O:List Nat) (b k:Nat) (q:List Nat) (X Y:Nds),(∀j,b+j∈O→∃h',eG l j=some h'∧isNone h'.ax=false)→(aH W l X).isSome=true→(aH W l Y).isSome=true→erO O b (erI E l X)=erO O b (erI E l Y)→km R l (k::q)=some h→vU k q X=some x→∃y,vU k q Y=some y∧y.val=x.val
 | .nil,O,b,k,q,X,Y,_,_,_,_,hi,_=>by cases hi
 | .cons ..,O,b,k,q,.nil,Y,_,hX,_,_,_,_=>by cases hX
 | .when ..,O,b,k,q,.nil,Y,_,hX,_,_,_,_=>by cases hX
 | .cons ..,O,b,k,q,.cons ..,.nil,_,_,hY,_,_,_=>by cases hY
 | .when ..,O,b,k,q,.cons ..,.nil,_,_,hY,_,_,_=>by cases hY
 | .cons h0 l,O,b,0,q,.cons a1 a2 a3 a4 a5 a6 a7 r,.cons b1 b2 b3 b4 b5 b6 b7 r2,hO,hX,hY,he,hi,hx=>by
  simp only[erI,erO,Nds.cons.injEq]at he;refine DV (d:=⟨a1,a2,a3,a4,a5,a6,a7⟩) (d':=⟨b1,b2,b3,b4,b5,b6,b7⟩) hG (cg hX).1 (cg hY).1 (fun hq=> ?_) he.2.2.2.2.2.2.1 hi hx;subst hq;have hh:h0=h:=by have:some h0=some h:=hi;injection this
  have hc:O.contains b=false:=by
   cases hc:O.contains b with
   |false=>rfl
   |true=>
    obtain⟨h',e1,e2⟩:=hO 0 (by simpa using hc);cases e1;rw[hh,hr]at e2;cases e2
  have h5:=he.2.2.2.2.1;rw[hc]at h5;simpa using h5
 | .cons h0 l,O,b,k+1,q,.cons a1 a2 a3 a4 a5 a6 a7 r,.cons b1 b2 b3 b4 b5 b6 b7 r2,hO,hX,hY,he,hi,hx=>by
  simp only[erI,erO,Nds.cons.injEq]at he;exact jZ hG hr l O (b+1) k q r r2 (fun j hj=>hO (j+1) (by rw[show b+(j+1)=b+1+j by omega];exact hj)) (cg hX).2 (cg hY).2 he.2.2.2.2.2.2.2 hi hx
 | .when p0 q0 body l,O,b,k+1,q,.cons a1 a2 a3 a4 a5 a6 a7 r,.cons b1 b2 b3 b4 b5 b6 b7 r2,hO,hX,hY,he,hi,hx=>by
  simp only[erI,erO,Nds.cons.injEq]at he;exact jZ hG hr l O (b+1) k q r r2 (fun j hj=>hO (j+1) (by rw[show b+(j+1)=b+1+j by omega];exact hj)) (bF hX).2.2 (bF hY).2.2 he.2.2.2.2.2.2.2 hi hx
 | .when p0 q0 body l,O,b,0,q,.cons a1 a2 a3 a4 a5 a6 a7 r,.cons b1 b2 b3 b4 b5 b6 b7 r2,hO,hX,hY,he,hi,hx=>by
  simp only[erI,erO,Nds.cons.injEq]at he;have hc:O.contains b=false:=by
   cases hc:O.contains b with
   |false=>rfl
   |true=>
    obtain⟨h',e1,e2⟩:=hO 0 (by simpa using hc);cases e1
  have h5:=he.2.2.2.2.1;rw[hc]at h5;have h5':a5=b5:=by simpa using h5
  subst h5';have hi2:km R body q=some h:=hi;cases q with
  |nil=>cases body <;> cases hi2
  |cons k2 q2=>
   have hx3:vU k2 q2 a7=some x:=hx;have h3:=bF hX;have h3':=bF hY;have hne:a5≠0:=by
    intro h0;rw[h3.2.1 h0]at hx3;cases k2 <;> cases hx3
   have h7:=he.2.2.2.2.2.2.1;rw[if_neg hne,if_neg hne]at h7;exact jZ hG hr body (ord body.row) 0 k2 q2 a7 b7 (fun j hj=>iP (by rw[Nat.zero_add]at hj;exact hj)) (h3.1 hne) (h3'.1 hne) h7 hi2 hx3
theorem qe{h:Hd}(hr:isNone h.ax=true):∀L:List Ty,Ae (wrS L) (erS L) (itS L) h
 |[],nm,k,q,X,Y,x,hX,_,_,_,_=>by cases hX
 |t::r,nm,k,q,X,Y,x,hX,hY,he,hi,hx=>by
  unfold wrS at hX hY;unfold itS at hi;unfold erS at he
  by_cases hn:t.name=nm
  ·rw[if_pos hn]at hX hY hi;rw[if_pos hn,if_pos hn]at he;exact jZ (qe hr r) hr t.items (ord t.items.row) 0 k q X Y (fun j hj=>iP (by rw[Nat.zero_add]at hj;exact hj)) hX hY he hi hx
  ·rw[if_neg hn]at hX hY hi;rw[if_neg hn,if_neg hn]at he;exact qe hr r nm k q X Y x hX hY he hi hx
theorem vX:∀(p:List Nat) (d d' x:Nd),shp d.kids=shp d'.kids→d.text=d'.text→bD p d=some x→∃y,bD p d'=some y∧y.text=x.text
 |[],d,d',x,_,ht,hx=>by cases hx;exact⟨d',rfl,ht.symm⟩
 |k::p,d,d',x,hs,ht,hx=>by
  have hx2:(nth k d.kids).bind (bD p)=some x:=hx;obtain⟨d2,h2,h3⟩:=Option.bind_eq_some_iff.1 hx2;have h4:=Ac d.kids d'.kids k hs;rw[h2]at h4;cases h5:nth k d'.kids with
  |none=>rw[h5]at h4;cases h4
  |some d3=>
   rw[h5]at h4;simp only[Option.map_some,Option.some.injEq,Prod.mk.injEq]at h4;obtain⟨y,y1,y2⟩:=vX p d2 d3 x h4.2.2.2.1 h4.2.2.1 h3;refine⟨y,?_,y2⟩;show(nth k d'.kids).bind (bD p)=some y;rw[h5];exact y1
theorem tL:∀X:Nds,(shp X).len=X.len
 | .nil=>rfl
 | .cons a b c d e f g r=>by simp only[shp,Nds.len,tL r]
theorem qf{C:Wd→Nat}{L:List Ty}(hF:∀t∈L,aZ t){root u:Wd}{n:Nd}(hn:(wrT L root n).isSome=true)(h:bW C L root n= .ok u):
  ∃m,rdT L root u=some m∧(wrT L root m).isSome=true∧m.kids.len=n.kids.len∧shp n.kids=shp m.kids∧n.text=m.text∧erS L root n.kids=erS L root m.kids:=by
 obtain⟨q,h1,h2,h3,m,h4,h5⟩:=l8.1 h;obtain⟨hX,n1,n2⟩:=dO hn;have hk:strip m.kids=strip q:=by have:=congrArg Nd.kids h5;exact this
 have htx:m.text=n.text:=by have:=congrArg Nd.text h5;exact this
 have hs:=vS hF hX h1;have hm:=DT hF h4;refine⟨m,h4,by rw[hm];rfl,?_,?_,htx.symm,?_⟩
 ·rw[← il m.kids,hk,il,← tL q,hs,tL]
 ·rw[← dH m.kids,hk,dH,hs]
 ·rw[DS hk,lZ L root _ q h1]
theorem B7{C:Wd→Nat}{L:List Ty}(hF:∀t∈L,aZ t){root u:Wd}{d x:Nd}{h:Hd}{v:Int}(hd:(wrT L root d).isSome=true){k:Nat}{q:List Nat}(hi:itS L root (k::q)=some h)(hr:isNone h.ax=true)(hx:bD (k::q) d=some x)(hk:x.kind=1)(hk2:kNo h.k=1)(hv:cz (wOf h.k) v=true)
  (hu:bW C L root (cB (fun d=>{d with val:=v}) (k::q) d)= .ok u):(wrT L root (cB (fun d=>{d with val:=v}) (k::q) d)).isSome=true∧∃m,rdT L root u=some m∧m.kids.len=d.kids.len∧∃y,bD (k::q) m=some y∧y.val=v:=by
 have hw:(wrT L root (cB (fun d=>{d with val:=v}) (k::q) d)).isSome=true:=by
  refine ma (fun W d hd=> ?_) hd hi hx (by rw[hk,hk2]);unfold aY at hd⊢;simp only[]at hd⊢;split at hd
  ·cases hd
  ·rename_i hn
   rw[if_neg hn];cases hc:h.k with
   |scalar w=>
    have hv2:cz w v=true:=by rw[hc]at hv;exact hv
    simp only[];rw[if_pos hv2];rfl
   |bytes=>rw[hc]at hk2;cases hk2
   |struct t=>rw[hc]at hk2;cases hk2
 refine⟨hw,?_⟩;obtain⟨m,m1,m2,m3,m4,m5,m6⟩:=qf hF hw hu;refine⟨m,m1,m3.trans (tK _ _ _),?_⟩;have hg:=nw (fun d=>{d with val:=v}) (k::q) d;rw[hx]at hg;obtain⟨y,y1,y2⟩:=qe hr L root k q _ m.kids _ (dO hw).1 (dO m2).1 m6 hi hg;exact⟨y,y1,y2⟩
theorem yT{C:Wd→Nat}{L:List Ty}(hF:∀t∈L,aZ t){root u:Wd}{d x:Nd}{h:Hd}{v:Wd}(hd:(wrT L root d).isSome=true){k:Nat}{q:List Nat}(hi:itS L root (k::q)=some h)(hx:bD (k::q) d=some x)(hk:x.kind=2)(hk2:kNo h.k=2)
  (hu:bW C L root (cB (fun d=>{d with text:=v}) (k::q) d)= .ok u):(wrT L root (cB (fun d=>{d with text:=v}) (k::q) d)).isSome=true∧∃m,rdT L root u=some m∧m.kids.len=d.kids.len∧∃y,bD (k::q) m=some y∧y.text=v:=by
 have hw:(wrT L root (cB (fun d=>{d with text:=v}) (k::q) d)).isSome=true:=by
  refine ma (fun W d hd=> ?_) hd hi hx (by rw[hk,hk2]);unfold aY at hd⊢;simp only[]at hd⊢;split at hd
  ·cases hd
  ·rename_i hn
   rw[if_neg hn];cases hc:h.k with
   |scalar w=>rw[hc]at hk2;cases hk2
   |bytes=>rfl
   |struct t=>rw[hc]at hk2;cases hk2
 refine⟨hw,?_⟩;obtain⟨m,m1,m2,m3,m4,m5,m6⟩:=qf hF hw hu;refine⟨m,m1,m3.trans (tK _ _ _),?_⟩;have hg:=nw (fun d=>{d with text:=v}) (k::q) d;rw[hx]at hg;obtain⟨y,y1,y2⟩:=vX (k::q) _ m _ m4 m5 hg;exact⟨y,y1,y2⟩
end Fx
end
section
open Go Go.RowKit
open Rd
open Ly
structure Mut(w w':World)(bl:List Nat):Prop where
 os:w'.os=w.os
 tape:w'.tape=w.tape
 output:w'.output=w.output
 size:w.heap.size≤w'.heap.size
 block:∀k,k < w.heap.size→k∉bl→w'.heap[k]? =w.heap[k]?
theorem Mut.refl(w:World)(bl:List Nat):Mut w w bl:=⟨rfl,rfl,rfl,Z5 _,fun _ _ _=>rfl⟩
theorem Mut.trans{w w1 w2:World}{bl:List Nat}(h:Mut w w1 bl)(k:Mut w1 w2 bl):Mut w w2 bl:=
 ⟨k.os.trans h.os,k.tape.trans h.tape,k.output.trans h.output,Nat.le_trans h.size k.size,fun i hi h1=>(k.block i (Nat.lt_of_lt_of_le hi h.size) h1).trans (h.block i hi h1)⟩
theorem Mut.mono{w w1:World}{bl bm:List Nat}(h:Mut w w1 bl)(hs:∀x∈bl,x∈bm):Mut w w1 bm:=⟨h.os,h.tape,h.output,h.size,fun k hk hn=>h.block k hk (fun hm=>hn (hs k hm))⟩
theorem Mut.az{w w1:World}{bl:List Nat}(h:Below w.heap.size w w1):Mut w w1 bl:=⟨h.os,h.tape,h.output,h.size,fun k hk _=>h.block k hk⟩
theorem Mut.setCell{w:World}{bl:List Nat}{b:Nat}(hb:b∈bl)(o:Nat)(u:Value):Mut w (w.setCell ⟨b,o,none⟩ u) bl:=
 ⟨rfl,rfl,rfl,by simp[World.setCell],fun k _ h=>Below.heap_setCell _ _ _ _ (fun e=>h (by rw[e];exact hb))⟩
theorem Mut.below{B0:Nat}{w0 w w':World}{bl:List Nat}(h:Below B0 w0 w)(k:Mut w w' bl)(hB:B0≤w.heap.size)(hb:∀b∈bl,B0≤b):Below B0 w0 w':=
 h.trans ⟨k.os,k.tape,k.output,k.size,fun i hi=>k.block i (by omega) (fun hm=>by have:=hb i hm;omega)⟩
theorem lg{a b c:List Nat}(h:(a++(b++c)).Nodup):(a++b).Nodup:=by
 rw[← List.append_assoc]at h;exact(List.nodup_append.1 h).1
theorem aW.focus{w:World}{B:Nat}:∀(k1:Nds) (d:Nd) (r:Nds) (bl:List Nat) (vs:List Value),aW w B (k1.app (d.put r)) bl vs→bl.Nodup→
  ∃g2 c2 b2 vs2,aQ w B d.kids g2 c2 b2 vs2∧(∀x∈aU g2++b2,x∈bl)∧(vs.drop (k1.len * 7)).take 7=ae d.name d.kind d.at_ d.size d.val d.text (.slice g2 d.kids.len c2)∧
   ∀(w':World) (p:Nds) (vs2':List Value),Mut w w' (aU g2++b2)→p.len=d.kids.len→aQ w' B p g2 c2 b2 vs2'→aW w' B (k1.app (Nd.put {d with kids:=p} r)) bl vs
 | .nil,d,r,bl,vs,he,hn=>by
  obtain⟨ga,cap,bs,us,b1,b2,rfl,h1,h3,rfl,h5⟩:=he;have hnd:=List.nodup_append.1 hn;refine⟨ga,cap,b1,bs,⟨h1,h3,lg hn⟩,fun x hx=> ?_,?_,fun w' p vs2' hm hp hk=> ?_⟩
  ·rcases List.mem_append.1 hx with h|h
   ·exact List.mem_append_left _ h
   ·exact List.mem_append_right _ (List.mem_append_left _ h)
  ·rw[Nds.len,Nat.zero_mul,List.drop_zero];rfl
  ·refine⟨ga,cap,vs2',us,b1,b2,rfl,hk.own,hk.enc,?_,h5.al _ _ _ fun b hb=>hm.block b (h5.mem _ _ _ b hb).2 (fun hx=> ?_)⟩
   ·show ae d.name d.kind d.at_ d.size d.val d.text (.slice ga d.kids.len cap)++us=ae d.name d.kind d.at_ d.size d.val d.text (.slice ga p.len cap)++us;rw[hp]
   ·rcases List.mem_append.1 hx with h|h
    ·exact hnd.2.2 b h b (List.mem_append_right _ hb) rfl
    ·exact(List.nodup_append.1 hnd.2.1).2.2 b h b hb rfl
 | .cons nm kd a sz v tx ks k1,d,r,bl,vs,he,hn=>by
  obtain⟨ga,cap,bs,us,b1,b2,rfl,h1,h3,rfl,h5⟩:=he;have hnd:=List.nodup_append.1 hn;have hnd2:=List.nodup_append.1 hnd.2.1;obtain⟨g2,c2,bb,vs2,i1,i2,i3,i4⟩:=aW.focus k1 d r b2 us h5 hnd2.2.1;refine⟨g2,c2,bb,vs2,i1,fun x hx=>List.mem_append_right _ (List.mem_append_right _ (i2 x hx)),?_,fun w' p vs2' hm hp hk=> ?_⟩
  ·show((ae nm kd a sz v tx (.slice ga ks.len cap)++us).drop ((k1.len+1) * 7)).take 7=_;rw[show(k1.len+1) * 7=7+k1.len * 7 by omega,← List.drop_drop];exact i3
  ·refine⟨ga,cap,bs,us,b1,b2,rfl,h1.al fun x hx=>hm.block _ (h1.gI x hx) (fun hb=> ?_),h3.al _ _ _ fun b hb=>hm.block b (h3.mem _ _ _ b hb).2 (fun hx=> ?_),rfl,i4 w' p vs2' hm hp hk⟩
   ·exact hnd.2.2 x.block (by rw[hx];simp[aU]) x.block (List.mem_append_right _ (i2 _ hb)) rfl
   ·exact hnd2.2.2 b hb b (i2 b hx) rfl
theorem aW.dK{w:World}{B:Nat}(v:Int):∀(i:Nat) (ks:Nds) (bl:List Nat) (vs:List Value),aW w B ks bl vs→aW w B (Fx.dK i v ks) bl (if i < ks.len then vs.set (i * 7+4) (.int .i64 v)else vs)
 |i,.nil,bl,vs,he=>by
  rw[if_neg (show ¬i < Nds.nil.len from Nat.not_lt_zero _)];cases i <;> exact he
 |0,.cons nm kd a sz v0 tx ks r,bl,vs,he=>by
  obtain⟨ga,cap,bs,us,b1,b2,rfl,h1,h3,rfl,h5⟩:=he;rw[if_pos (by show 0 < r.len+1;omega)];exact⟨ga,cap,bs,us,b1,b2,rfl,h1,h3,rfl,h5⟩
 |i+1,.cons nm kd a sz v0 tx ks r,bl,vs,he=>by
  obtain⟨ga,cap,bs,us,b1,b2,rfl,h1,h3,rfl,h5⟩:=he;have ih:=aW.dK v i r b2 us h5;refine⟨ga,cap,bs,_,b1,b2,rfl,h1,h3,?_,ih⟩
  by_cases hl:i < r.len
  ·rw[if_pos (by show i+1 < r.len+1;omega),if_pos hl,show(i+1) * 7+4=i * 7+4+7 by omega];rfl
  ·rw[if_neg (by show ¬i+1 < r.len+1;omega),if_neg hl]
theorem aQ.dK{w:World}{B g cap i:Nat}{ks:Nds}{bl:List Nat}{vs:List Value}(h:aQ w B ks (some ⟨g,0,none⟩) cap bl vs)(hi:i < ks.len)(v:Int):aQ (w.setCell ⟨g,i * 7+4,none⟩ (.int .i64 v)) B (Fx.dK i v ks) (some ⟨g,0,none⟩) cap bl (vs.set (i * 7+4) (.int .i64 v)):=by
 have hl:=h.enc.len;have hnd:=List.nodup_append.1 h.nodup;refine⟨?_,?_,h.nodup⟩
 ·rw[Fx.lY];exact h.own.set _ (by rw[hl];omega) _
 ·have h2:=aW.dK v i ks bl vs h.enc;rw[if_pos hi]at h2;exact h2.al _ _ _ fun b hb=>Below.heap_setCell _ _ _ _ (fun e=>hnd.2.2 g (by simp[aU]) b hb e.symm)
theorem Ag:∀(k1 m:Nds),(k1.app m).tot=k1.tot+m.tot
 | .nil,m=>by show m.tot=0+m.tot;omega
 | .cons a b c d e f g r,m=>by
  have:=Ag r m;simp only[Nds.app,Nds.tot,this];omega
theorem j6:∀(ks:Nds),ks.len * 8≤ks.tot
 | .nil=>Z5 _
 | .cons a b c d e f g r=>by
  have:=j6 r;simp only[Nds.len,Nds.tot];omega
theorem qg:∀(n:Nat) (d:Nd),d.tot < n→d.tot≤800000→DP d
 |0,d,h,_=>absurd h (Nat.not_lt_zero _)
 |n+1,d,h,ht=>by
  have hk:d.kids.tot≤d.tot:=by unfold Nd.tot;omega
  have hl:=j6 d.kids;refine vQ d (by omega) (fun k1 d2 r he=> ?_);have h2:d2.tot+8≤d.tot:=by
   have h3:=Ag k1 (d2.put r);rw[← he,fI]at h3;unfold Nd.tot at h3⊢;omega
  exact qg n d2 (by omega) (by omega)
theorem yU(d:Nd)(ht:d.tot≤800000)(w:World)(B:Nat)(bl:List Nat)(v:Value)(hv:NdV w B bl d v):Calls Tryz.prog 43 #[v] w (tJ w d):=qg _ d (Nat.lt_succ_self _) ht w B bl v hv
def FF(w':World)(B:Nat)(gk:Option Addr)(gcap:Nat)(bl:List Nat)(o:Option Nds)(v:Value):Prop:=match o with
 |some p=>v= .nilIface∧∃vs',aQ w' B p gk gcap bl vs'
 |none=>v= .iface 48 (.int .i64 2)
def ef(w:World)(B:Nat)(gk:Option Addr)(gcap:Nat)(bl:List Nat)(o:Option Nds)(e:Ending)(w':World):Prop:=Mut w w' (aU gk++bl)∧∃v,e= .returned v∧FF w' B gk gcap bl o v
structure FxE(U:World)(rb:Nat)(tys:List Tm.Ty)(a:Option Addr)(cap:Nat):Prop where
 ex:∃Bt tvs,an U Bt 97 3 a tys.length cap tvs∧Tm.cF U rb tys tvs
 few:tys.length≤100
 nodup:(names tys).Nodup
theorem FxE.same{U:World}{rb cap:Nat}{tys:List Tm.Ty}{a:Option Addr}(h:FxE U rb tys a cap){s t:Tm.Ty}(hs:s∈tys)(ht:t∈tys)(he:s.name=t.name):s=t:=by
 have hn:=h.nodup;unfold names at hn;clear h
 induction tys with
 |nil=>cases hs
 |cons x l ih=>
  rw[List.map_cons,List.nodup_cons]at hn;rcases List.mem_cons.1 hs with h1|h1
  ·rcases List.mem_cons.1 ht with h2|h2
   ·rw[h1,h2]
   ·exact absurd (List.mem_map.2 ⟨t,h2,by rw[← he,h1]⟩) hn.1
  ·rcases List.mem_cons.1 ht with h2|h2
   ·exact absurd (List.mem_map.2 ⟨s,h1,by rw[he,h2]⟩) hn.1
   ·exact ih h1 h2 hn.2
def vY(U:World)(rb:Nat)(tys:List Tm.Ty)(a:Option Addr)(cap:Nat)(W:Wri)(F:Nds→Option Nds)(l:Tm.Its):Prop:=∀(w:World) (B gcap capi:Nat) (gi gk:Option Addr) (bs vs:List Value) (bl:List Nat) (ks:Nds),
 Below U.heap.size U w→an U (rb+1) 70 13 gi l.len capi bs→Tm.bp U rb l bs→aQ w B ks gk gcap bl vs→U.heap.size≤B→ks.ok→ks.tot≤800000→(aH W l ks).isSome=true→
 Calls Tryz.prog 70 #[.agg #[.slice a tys.length cap],.slice gi l.len capi,.slice gk ks.len gcap] w (ef w B gk gcap bl (F ks))
def FG(U:World)(rb:Nat)(tys:List Tm.Ty)(a:Option Addr)(cap:Nat)(W:Wri)(Bf:Fx.Fxr)(nm:Tm.Wd):Prop:=∃t∈tys,t.name=nm∧∃W',(∀ks,W nm ks=aH W' t.items ks)∧vY U rb tys a cap W' (Bf nm) t.items
end
section
open Go.RowKit
theorem B8(a:Option Addr)(n c:Nat)(L:List Int)(x:Int)(w:World)(hL:L.length=n)(hn:n≤4611686018427387904)(ha:iw w a L):
  Calls Tryz.prog 141 #[.slice a n c,.int .i64 x] w fun e w'=>∃r:Int,e= .returned (.int .i64 r)∧w=w'∧ -1≤r∧r < n∧(0≤r↔x∈L):=by
 have HL:=hid hL;clear hL;have HA:=hid ha;clear ha;go_enter Tryz.func141,Tryz.ntmps141;go_wp2_with fail;go_loop [8] (fun i=>∃k:Nat,k≤n∧i= .int .i64 k∧Hid (∀j,j < k→L.getD j 0≠x)) (fun i=>n - (intOf i).toNat)
 case atStart=>exact⟨0,by omega,rfl,fun j hj=>by omega⟩
 case round=>
  obtain⟨k,hk,rfl,HP⟩:=hrel
  by_cases hlt:k < n
  ·obtain⟨g,off,rfl,hc⟩:=HA.out.pos (by rw[HL.out];omega);have hc1:=hc k (by rw[HL.out];omega);clear hc;have hki:(k:Int) < (n:Int):=by omega
   generalize hx:L.getD k 0=y at *
   have HX:=hid hx;clear hx
   by_cases hxy:x=y
   ·have hb:(x==y)=true:=by simp[hxy]
    have HXY:=hid hxy;clear hxy;go_wp2_with fail;go_ret;refine⟨k,rfl,rfl,by omega,by omega,⟨fun _=> ?_,fun _=>by omega⟩⟩;rw[HXY.out,← HX.out,List.getD_eq_getElem?_getD,Y1 (by rw[HL.out];exact hlt)];exact List.getElem_mem _
   ·have hb:(x==y)=false:=by simpa using hxy
    have HXY:=hid hxy;clear hxy;go_wp2_with fail;go_round
    case rel=>
     refine⟨k+1,by omega,by go_num,?_⟩;intro j hj;rcases Nat.lt_or_ge j k with h|h
     ·exact HP.out j h
     ·obtain rfl:j=k:=by omega
      rw[HX.out];exact fun h=>HXY.out h.symm
    case measure=>simp[intOf];omega
  ·obtain rfl:k=n:=by omega
   have hd:decide ((k:Int) < (k:Int))=false:=by simp
   go_wp2_with fail;go_ret;refine⟨-1,rfl,rfl,by omega,by omega,⟨fun h=>by omega,fun h=> ?_⟩⟩;obtain⟨i,hi,he⟩:=List.getElem_of_mem h;have:=HP.out i (by rw[HL.out]at hi;exact hi);rw[List.getD_eq_getElem?_getD,Y1 hi]at this;exact absurd he this
theorem mf(a:Option Addr)(n c:Nat)(L:List Int)(x:Int)(w:World)(hL:L.length=n)(hn:n≤4611686018427387904)(ha:iw w a L):
  Calls Tryz.prog 122 #[.slice a n c,.int .i64 x] w fun e w'=>e= .returned (.bool (decide (x∈L)))∧w=w':=by
 go_enter Tryz.func122,Tryz.ntmps122;go_wp2_with fail;refine(B8 a n c L x _ hL hn ha).mono ?_;rintro e w1 ⟨r,rfl,rfl,h1,h2,h3⟩;have H3:=hid h3;clear h3;clear ha;go_wp2_with fail;go_ret;refine⟨ja ?_,rfl⟩;rw[decide_eq_decide];exact H3.out
end
section
open Go.RowKit
open Rd
structure OcS(V W:World)(rb cap n:Nat)(l:Tm.Its)(ga:Option Addr)(bs:List Value)(lb ob on oc B:Nat)(oa:Option Addr)(out:List Nat):Prop where
 it:ItV V W rb l ga cap bs
 r1:ad W lb 0 63 [.slice ga n cap]
 r2:ad W ob 0 40 [.slice oa on oc]
 own:an W B 3 1 oa on oc (ej (out.map fun(i:Nat)=>(i:Int)))
 len:out.length=on
theorem OcS.up{V W W':World}{rb cap n:Nat}{l:Tm.Its}{ga:Option Addr}{bs:List Value}{lb ob on oc B:Nat}{oa:Option Addr}{out:List Nat}(h:OcS V W rb cap n l ga bs lb ob on oc B oa out)(hb:Below W.heap.size W W'):OcS V W' rb cap n l ga bs lb ob on oc B oa out:=
 ⟨h.it.up hb,h.r1.below hb h.r1.lt,h.r2.below hb h.r2.lt,h.own.below hb (Z5 _),h.len⟩
theorem vZ{R:List Tm.Sk}{out:List Nat}{j:Nat}{s:Tm.Sk}(hs:R[j]? =some s)(h:s.wh=true∨Tm.aJ s.ax=false∨j∈out):Fx.ready R out j=false:=by
 unfold Fx.ready;rw[hs];rcases h with h|h|h <;> simp[h]
theorem B9{R:List Tm.Sk}{out:List Nat}{j:Nat}{s:Tm.Sk}(hs:R[j]? =some s)(h1:s.wh=false)(h2:Tm.aJ s.ax=true)(h3:j∉out):Fx.ready R out j=(List.range R.length).all fun k=> !(Tm.eC R j k&&Tm.bK R k&& !out.contains k):=by
 unfold Fx.ready;rw[hs];simp[h1,h2,h3]
theorem mg{out:List Nat}{j:Nat}:((j:Int)∈out.map fun(i:Nat)=>(i:Int))↔j∈out:=by
 rw[List.mem_map];constructor
 ·rintro⟨a,h1,h2⟩;have:a=j:=by omega
  rw[← this];exact h1
 ·exact fun h=>⟨j,h,rfl⟩
theorem FH{n k:Nat}{p:Nat→Bool}(hk:k < n)(h:p k=false):(List.range n).all p=false:=by
 rw[List.all_eq_false];exact⟨k,List.mem_range.2 hk,by rw[h];simp⟩
theorem DW{k:Nat}{p:Nat→Bool}(h:(List.range k).all p=true)(h2:p k=true):(List.range (k+1)).all p=true:=by
 rw[List.range_succ,List.all_append,h];simp[h2]
theorem FI(V w:World)(rb cap n lb ob on oc B j:Nat)(l:Tm.Its)(ga oa:Option Addr)(bs:List Value)(out:List Nat)(hn:n=Tm.Its.len l)(hn2:n≤100000)(hon:on≤100000)(h:OcS V w rb cap n l ga bs lb ob on oc B oa out)
  (s:Tm.Sk)(k0 k1 k4 k5:Nat)(s3:ByteArray)(b6:Bool)(p8 a12:Option Addr)(n12 c12:Nat)(hk:k0=4↔s.wh=true)(hk4:k0≤4)(hs:l.row[j]? =some s)(hu:s.wh=false→Tm.aV l.row s.name=(j:Int))(hj:j < n):
  Calls Tryz.prog 121 #[.agg (aP s k0 k1 k4 k5 s3 b6 p8 a12 n12 c12).toArray,.pointer (some ⟨lb,0,none⟩),.pointer (some ⟨ob,0,none⟩)] w fun e w'=>e= .returned (.bool (Fx.ready l.row out j))∧Below w.heap.size w w':=by
 have hcap:n≤cap:=by rw[hn];exact aT h.it.own
 obtain⟨r1,r2,_⟩:=ff s.ax;obtain⟨V1,hV1⟩:∃V1,V1=w.alloc (.cells (aP s k0 k1 k4 k5 s3 b6 p8 a12 n12 c12).toArray 70):=⟨_,rfl⟩;have hrow:ad V1 w.heap.size 0 70 (aP s k0 k1 k4 k5 s3 b6 p8 a12 n12 c12):=by rw[hV1];exact ad.new w _ _
 have hbb:Below w.heap.size w V1:=by rw[hV1];exact(Y4 w.heap.size w).alloc (Z5 _) _
 have c0:=hrow.cell0 0 (by simp);have c2:=hrow.cell0 2 (by simp);have c9:=hrow.cell0 9 (by simp);have h2:=h.up hbb;have d1:=h2.r1.cell0 0 (by simp);simp only[aP,Z0,Z1]at c0 c2 c9 d1;rw[hV1]at c2 d1;have HROW:=hid hrow;have HB:=hid hbb;have HO:=hid h2;have HV1:=hid hV1;have HK:=hid hk;have HS:=hid hs;have HU:=hid hu;have HN:=hid hn;have HF:=hid (fun W hW nm=>pK V rb cap n l ga bs nm W hn hn2 hW);have HOV:=hid (fun W k hW=>vi V rb cap n j k l ga bs W hn hn2 hW hj);generalize hch:Tm.aJ s.ax=ch at *
 have HCH:=hid hch;have fin:∀W,Below w.heap.size w W→s.wh=true∨Tm.aJ s.ax=false∨j∈out→(Ending.returned (.bool false)=Ending.returned (.bool (Fx.ready l.row out j))∧Below w.heap.size w W):=fun W hW hc=>⟨by rw[vZ hs hc],hW⟩
 have FIN:=hid fin;clear hrow hbb h2 h hk hs hu hV1 hn c0 c9 fin hch
 by_cases h4:k0=4
 ·have q1:((k0:Int)==4)=true:=by rw[beq_iff_eq];omega
  have q3:(k0==4)=true:=by rw[beq_iff_eq];exact h4
  have HW:=hid (HK.out.1 h4);clear h4;go_enter Tryz.func121,Tryz.ntmps121;go_wp2_with fail;rw[show w.alloc _=V1 from HV1.out.symm];refine(HF.out V1 HO.out.it s.name).mono ?_;rintro e w2 ⟨rfl,hb2⟩;have hr2:=HROW.out.below hb2 HROW.out.lt;have c0:=hr2.cell0 0 (by simp);simp only[aP,Z0,Z1]at c0;have HB2:=hid (HB.out.trans (hb2.mono HB.out.size));clear hb2 hr2;go_wp2_with fail;go_ret;exact FIN.out _ HB2.out (.inl HW.out)
 ·have hw:s.wh=false:=by
   cases h:s.wh with
   |false=>rfl
   |true=>exact absurd (HK.out.2 h) h4
  have q1:((k0:Int)==4)=false:=by rw[Z8];omega
  have q3:(k0==4)=false:=by rw[Z8];exact h4
  have HW:=hid hw;clear h4 hw;go_enter Tryz.func121,Tryz.ntmps121;go_wp2_with fail;rw[show w.alloc _=V1 from HV1.out.symm];refine(HF.out V1 HO.out.it s.name).mono ?_;rintro e w2 ⟨rfl,hb2⟩;rw[HU.out HW.out];have hr2:=HROW.out.below hb2 HROW.out.lt;have c0:=hr2.cell0 0 (by simp);have c9:=hr2.cell0 9 (by simp);simp only[aP,Z0,Z1]at c0 c9;have hO2:=HO.out.up hb2;have d2:=hO2.r2.cell0 0 (by simp);have d1b:=hO2.r1.cell0 0 (by simp);simp only[Z0]at d2 d1b;have HO2:=hid hO2;have HB2:=hid (HB.out.trans (hb2.mono HB.out.size));clear hb2 hr2 hO2 d1 c2;cases ch with
  |false=>
   have q5:(((av s.ax).1:Int)!=3)=true:=by rw[bne,r2];rfl
   have q6:((av s.ax).1 !=3)=true:=by rw[bne,r1];rfl
   clear r1 r2;go_wp2_with fail;go_ret;exact FIN.out _ HB2.out (.inr (.inl HCH.out))
  |true=>
   have q5:(((av s.ax).1:Int)!=3)=false:=by rw[bne,r2];rfl
   have q6:((av s.ax).1 !=3)=false:=by rw[bne,r1];rfl
   clear r1 r2;go_wp2_with fail;refine(mf oa on oc (out.map fun(i:Nat)=>(i:Int)) (j:Int) _ (by rw[List.length_map];exact HO2.out.len) (by omega) HO2.out.own.sI).mono ?_;rintro e w3 ⟨rfl,rfl⟩
   by_cases hm:j∈out
   ·have e1:decide ((j:Int)∈out.map fun(i:Nat)=>(i:Int))=true:=Z9 (mg.2 hm);rw[e1];have HM:=hid hm;clear hm e1;go_wp2_with fail;go_ret;exact FIN.out _ HB2.out (.inr (.inr HM.out))
   ·have e1:decide ((j:Int)∈out.map fun(i:Nat)=>(i:Int))=false:=Y9 (fun h=>hm (mg.1 h));rw[e1];have HM:=hid hm;have HRD:=hid (B9 HS.out HW.out HCH.out hm);clear hm e1;obtain⟨pf,hpf⟩:∃pf:Nat→Bool,pf=fun k=> !(Tm.eC l.row j k&&Tm.bK l.row k&& !out.contains k):=⟨_,rfl⟩
    have hrl:l.row.length=n:=by rw[Tm.cP];exact HN.out.symm
    have HRD2:=hid (show Fx.ready l.row out j=(List.range n).all pf by rw[HRD.out,hrl,hpf]);have HPF:=hid (fun k=>congrFun hpf k);clear hrl hpf;go_wp2_with fail;go_loopw [26] (fun v26 wr=>∃k:Nat,v26= .int .i64 k∧k≤n∧Hid ((List.range k).all pf=true)∧Hid (Below w2.heap.size w2 wr)) (fun v26 _=>n - (intOf v26).toNat)
    case atStart=>exact⟨0,rfl,Nat.zero_le _,hid (by simp),hid (Y4 _ _)⟩
    case round=>
     obtain⟨k,rfl,hkn,HQ,HBW⟩:=hrel;have hOw:=HO2.out.up HBW.out;have g1:=hOw.r1.cell0 0 (by simp);have g2:=hOw.r2.cell0 0 (by simp);simp only[Z0]at g1 g2;have HOW:=hid hOw
     by_cases hlt:k < n
     ·have hki:(k:Int) < (n:Int):=by omega
      have q7:decide ((k:Int) < (n:Int))=true:=Z9 hki;have q8:decide (k < n)=true:=Z9 hlt;have HLT:=hid hlt;clear hOw d2 d1b;go_wp2_with fail;refine(HOV.out wr k HOW.out.it).mono ?_;rintro e w4 ⟨rfl,hb4⟩;have HB4:=hid (HBW.out.trans (hb4.mono HBW.out.size));have hO4:=HOW.out.up hb4;have g3:=hO4.r1.cell0 0 (by simp);have g4:=hO4.r2.cell0 0 (by simp);simp only[Z0]at g3 g4;obtain⟨x,rfl⟩:∃x,ga=some x:=by
       cases ga with
       |none=>have:=hO4.it.own.aO.1;rw[← HN.out]at this;omega
       |some x=>exact⟨x,rfl⟩
      obtain⟨gb,rfl⟩:∃gb,x=⟨gb,0,none⟩:=⟨x.block,hO4.it.own.row.1⟩;obtain⟨s9,m0,m1,m4,m5,m3,m6,m8,m12,mn,mc,hs9,hrow9,hm0,hm4,hw9⟩:=hO4.it.cells k (by rw[← HN.out];exact hlt);have f9:=hrow9.cell 9 (by simp);simp only[aP,Z0,Z1]at f9;have hca:Tm.bK l.row k=Tm.aJ s9.ax:=by unfold Tm.bK;rw[hs9]
      obtain⟨r9a,r9b,_⟩:=ff s9.ax;have HO4:=hid hO4;have HPK:=hid (HPF.out k);have HCA:=hid hca;clear hb4 hO4 hs9 hrow9 hm0 hm4 hw9 hlt hca g1 g2;have next:pf k=true→Hid ((List.range (k+1)).all pf=true):=fun h=>hid (DW HQ.out h)
      have stop:pf k=false→Fx.ready l.row out j=false:=fun h=>by rw[HRD2.out];exact FH HLT.out h
      have HNX:=hid next;have HST:=hid stop;clear next stop;generalize hov:Tm.eC l.row j k=ov at *
      have HOVB:=hid hov;clear hov;cases ov with
      |false=>
       have HP:=hid (HNX.out (by rw[HPK.out];rfl));go_wp2_with fail;go_roundw
       case rel=>exact⟨k+1,by go_num,by omega,HP.out,HB4⟩
       case measure=>simp[intOf];omega
      |true=>
       generalize hc9:Tm.aJ s9.ax=ch9 at *
       have HC9:=hid hc9;clear hc9;cases ch9 with
       |false=>
        have HP:=hid (HNX.out (by rw[HPK.out,HCA.out];simp));go_wp2_with fail;go_roundw
        case rel=>exact⟨k+1,by go_num,by omega,HP.out,HB4⟩
        case measure=>simp[intOf];omega
       |true=>
        go_wp2_with fail;refine(mf oa on oc (out.map fun(i:Nat)=>(i:Int)) (k:Int) _ (by rw[List.length_map];exact HO4.out.len) (by omega) HO4.out.own.sI).mono ?_;rintro e w5 ⟨rfl,rfl⟩
        by_cases hm:k∈out
        ·have e1:decide ((k:Int)∈out.map fun(i:Nat)=>(i:Int))=true:=Z9 (mg.2 hm);rw[e1];have HP:=hid (HNX.out (by rw[HPK.out];simp[hm]));clear hm e1;go_wp2_with fail;go_roundw
         case rel=>exact⟨k+1,by go_num,by omega,HP.out,HB4⟩
         case measure=>simp[intOf];omega
        ·have e1:decide ((k:Int)∈out.map fun(i:Nat)=>(i:Int))=false:=Y9 (fun h=>hm (mg.1 h));rw[e1];have HP:=hid (HST.out (by rw[HPK.out,HCA.out];simp[hm]));clear hm e1;go_wp2_with fail;go_ret;exact⟨by rw[HP.out];rfl,HB2.out.trans (HB4.out.mono HB2.out.size)⟩
     ·obtain rfl:k=n:=by omega
      have hd:decide ((k:Int) < (k:Int))=false:=by simp
      have hd2:decide (k < k)=false:=by simp
      clear hOw;go_wp2_with fail;go_ret;refine⟨?_,HB2.out.trans (HBW.out.mono HB2.out.size)⟩;rw[HRD2.out,HQ.out];rfl
end
end Go.Proofs.YtlomecfhobehnaaGreatDoor
