import Derived.Test.YtlomecfhobehnaaGreatDoorChecked
import Derived.Test.YtlomecfhobehnaaGreatDoorMgFixTwice0
import Derived.Test.YtlomecfhobehnaaGreatDoorMgFixTwice35
import Derived.Test.YtlomecfhobehnaaGreatDoorMgFixTwice21
import Derived.Test.YtlomecfhobehnaaGreatDoorMgFixTwice33
set_option linter.unusedVariables false
set_option linter.unusedSimpArgs false
namespace Go.Proofs.YtlomecfhobehnaaGreatDoor
open Lib (hid)
section
namespace Fx
open Ly Tm
inductive Dn where
 |ok (u:Wd)
 |bad (e:Nat)
open Classical in
noncomputable def vt(L:List Ty)(root:Wd)(o:Option Wd)(s:Nd):Dn:=match o with
 |none=> .bad 3
 |some u=>if 4000 < u.length then .bad 1 else match rdT L root u with
  |none=> .bad 2
  |some m=>if Nd.strip m=s then .ok u else .bad 2
noncomputable def cP(C:Wd→Nat)(L:List Ty)(root:Wd)(d:Nd):Dn:=
 match cY C L root d.kids with
 |none=> .bad 0
 |some p=>vt L root (wrT L root {d with kids:=p}) (Nd.strip {d with kids:=p})
theorem pK{C:Wd→Nat}{L:List Ty}{root u:Wd}{d:Nd}:cP C L root d= .ok u↔zo C L root d u:=by
 unfold cP zo
 cases h1:cY C L root d.kids with
 |none=>simp
 |some p=>
  simp only[]
  unfold vt
  cases h2:wrT L root {d with kids:=p}with
  |none=>simp[h2]
  |some u'=>
   simp only[]
   by_cases h3:4000 < u'.length
   ·rw[if_pos h3]
    constructor
    ·intro h;cases h
    ·rintro⟨p',e1,e2,e3,_⟩
     cases e1
     rw[h2]at e2
     cases e2
     omega
   ·rw[if_neg h3]
    cases h4:rdT L root u' with
    |none=>
     constructor
     ·intro h;cases h
     ·rintro⟨p',e1,e2,e3,m,e4,_⟩
      cases e1
      rw[h2]at e2
      cases e2
      rw[h4]at e4
      cases e4
    |some m=>
     simp only[]
     by_cases h5:Nd.strip m=Nd.strip {d with kids:=p}
     ·rw[if_pos h5]
      constructor
      ·intro h;cases h
       exact⟨p,rfl,h2,by omega,m,h4,h5⟩
      ·rintro⟨p',e1,e2,e3,m',e4,e5⟩
       cases e1
       rw[h2]at e2
       cases e2
       rfl
     ·rw[if_neg h5]
      constructor
      ·intro h;cases h
      ·rintro⟨p',e1,e2,e3,m',e4,e5⟩
       cases e1
       rw[h2]at e2
       cases e2
       rw[h4]at e4
       cases e4
       exact absurd e5 h5
end Fx
end
section
namespace Fx
open Ly Tm
def jt:Nds→Nds→Bool
 | .nil,.nil=>true
 | .cons a1 a2 _ _ a5 a6 a7 r1,.cons b1 b2 _ _ b5 b6 b7 r2=>decide (a1=b1)&&decide (a2=b2)&&decide (a5=b5)&&decide (a6=b6)&&jt a7 b7&&jt r1 r2
 |_,_=>false
theorem mQ:∀X Y:Nds,jt X Y=true↔strip X=strip Y
 | .nil,.nil=>by simp[jt]
 | .nil,.cons ..=>by simp[jt,strip]
 | .cons ..,.nil=>by simp[jt,strip]
 | .cons a1 a2 a3 a4 a5 a6 a7 r1,.cons b1 b2 b3 b4 b5 b6 b7 r2=>by
  simp only[jt,strip,Bool.and_eq_true,decide_eq_true_eq,mQ a7 b7,mQ r1 r2,Nds.cons.injEq,true_and]
  constructor
  ·rintro⟨⟨⟨⟨⟨h1,h2⟩,h3⟩,h4⟩,h5⟩,h6⟩;exact⟨h1,h2,h3,h4,h5,h6⟩
  ·rintro⟨h1,h2,h3,h4,h5,h6⟩;exact⟨⟨⟨⟨⟨h1,h2⟩,h3⟩,h4⟩,h5⟩,h6⟩
def dN(a b:Nd):Bool:=decide (a.name=b.name)&&decide (a.kind=b.kind)&&decide (a.val=b.val)&&decide (a.text=b.text)&&jt a.kids b.kids
theorem rO(a b:Nd):dN a b=true↔Nd.strip a=Nd.strip b:=by
 unfold dN Nd.strip
 simp only[Bool.and_eq_true,decide_eq_true_eq,mQ,Nd.mk.injEq,true_and]
 constructor
 ·rintro⟨⟨⟨⟨h1,h2⟩,h3⟩,h4⟩,h5⟩;exact⟨h1,h2,h3,h4,h5⟩
 ·rintro⟨h1,h2,h3,h4,h5⟩;exact⟨⟨⟨⟨h1,h2⟩,h3⟩,h4⟩,h5⟩
def dZ:List Nat→Nd→Option Nd
 |[],d=>some d
 |k::p,d=>(nth k d.kids).bind (dZ p)
end Fx
end
section
namespace Fx
open Ly Tm
end Fx
end
section
namespace Fx
open Ly Tm
theorem pL{W:Wri}{h:Hd}{l:Its}{a b c d e f g r}(h1:(bc W h ⟨a,b,c,d,e,f,g⟩).isSome=true)(h2:(aG W l r).isSome=true):(aG W (.cons h l) (.cons a b c d e f g r)).isSome=true:=by
 obtain⟨u,hu⟩:=Option.isSome_iff_exists.1 h1
 obtain⟨v,hv⟩:=Option.isSome_iff_exists.1 h2
 unfold aG
 rw[hu,hv];rfl
end Fx
end
section
namespace Fx
open Ly Tm
end Fx
end
section
namespace Fx
open Ly Tm
abbrev Itf:=Wd→List Nat→Option Hd
def j8(R:Itf)(h:Hd):List Nat→Option Hd
 |[]=>some h
 |k::p=>match h.k with
  | .struct t=>R t (k::p)
  |_=>none
def hdI(R:Itf)(h:Hd):List Nat→Option Hd
 |[]=>some h
 |k::p=>if cN h then j8 R h p else j8 R h (k::p)
def nO(R:Itf):Its→List Nat→Option Hd
 | .nil,_=>none
 | .cons h l,p=>match p with
  |[]=>none
  |0::q=>hdI R h q
  |(k+1)::q=>nO R l (k::q)
 | .when _ _ body l,p=>match p with
  |[]=>none
  |0::q=>nO R body q
  |(k+1)::q=>nO R l (k::q)
def itS:List Ty→Itf
 |[],_,_=>none
 |t::r,nm,p=>if t.name=nm then nO (itS r) t.items p else itS r nm p
def atN(f:Nd→Nd):Nat→Nds→Nds
 |_,.nil=> .nil
 |0,.cons a b c d e g k r=>(f ⟨a,b,c,d,e,g,k⟩).put r
 |n+1,.cons a b c d e g k r=> .cons a b c d e g k (atN f n r)
def di(f:Nd→Nd):List Nat→Nd→Nd
 |[],d=>f d
 |k::p,d=>{d with kids:=atN (di f p) k d.kids}
def FU(k:Nat)(q:List Nat)(X:Nds):Option Nd:=(nth k X).bind (dZ q)
def GoS(W:Wri)(R:Itf)(f:Nd→Nd)(h:Hd):Prop:=∀(nm:Wd) (k:Nat) (q:List Nat) (X:Nds) (x:Nd),(W nm X).isSome=true→R nm (k::q)=some h→FU k q X=some x→x.kind=kNo h.k→(W nm (atN (di f q) k X)).isSome=true
theorem C6(k:Knd):(9:Nat)≠kNo k:=by cases k <;> simp[kNo]
theorem Bi{W:Wri}{h:Hd}{t:Wd}(hk:h.k= .struct t){d:Nd}{X:Nds}(hd:(ba W h d).isSome=true)(hX:(W t X).isSome=true):(ba W h {d with kids:=X}).isSome=true:=by
 unfold ba at hd⊢
 rw[hk]at hd⊢
 simp only[]at hd⊢
 split at hd
 ·cases hd
 ·rename_i hn
  rw[if_neg hn];exact hX
theorem vu{W:Wri}{R:Itf}{f:Nd→Nd}{h:Hd}(hG:GoS W R f h)(hf:∀d,(ba W h d).isSome=true→(ba W h (f d)).isSome=true){h0:Hd}{d x:Nd}:∀{p:List Nat},(ba W h0 d).isSome=true→j8 R h0 p=some h→dZ p d=some x→x.kind=kNo h.k→(ba W h0 (di f p d)).isSome=true
 |[],hd,hi,_,_=>by cases hi;exact hf d hd
 |k::q,hd,hi,hx,hk=>by
  unfold j8 at hi
  cases h1:h0.k with
  |scalar w=>rw[h1]at hi;cases hi
  |bytes=>rw[h1]at hi;cases hi
  |struct t=>
   rw[h1]at hi
   exact Bi h1 hd (hG t k q d.kids x (bG h1 hd) hi hx hk)
theorem vw{g:Nd→Option Wd}{f:Nd→Nd}:∀(k:Nat) (X:Nds),(∀d,nth k X=some d→(g d).isSome=true→(g (f d)).isSome=true)→(cG g X).isSome=true→(cG g (atN f k X)).isSome=true
 |k,.nil,_,h=>by cases k <;> exact h
 |k,.cons a b c d e t x r,hM,h=>by
  unfold cG at h
  cases h1:g ⟨a,b,c,d,e,t,x⟩with
  |none=>rw[h1]at h;cases h
  |some u=>
   rw[h1]at h
   cases h2:cG g r with
   |none=>rw[h2]at h;cases h
   |some v=>
    cases k with
    |zero=>
     obtain⟨z,hz⟩:=Option.isSome_iff_exists.1 (hM ⟨a,b,c,d,e,t,x⟩ rfl (by rw[h1];rfl))
     show(cG g ((f ⟨a,b,c,d,e,t,x⟩).put r)).isSome=true
     unfold Nd.put cG
     have hz2:g ⟨(f ⟨a,b,c,d,e,t,x⟩).name,(f ⟨a,b,c,d,e,t,x⟩).kind,(f ⟨a,b,c,d,e,t,x⟩).at_,(f ⟨a,b,c,d,e,t,x⟩).size,(f ⟨a,b,c,d,e,t,x⟩).val,(f ⟨a,b,c,d,e,t,x⟩).text,(f ⟨a,b,c,d,e,t,x⟩).kids⟩=some z:=hz
     rw[hz2,h2];rfl
    |succ k=>
     obtain⟨z,hz⟩:=Option.isSome_iff_exists.1 (vw k r (fun d hd=>hM d hd) (by rw[h2];rfl))
     simp only[atN,cG]
     rw[h1,hz];rfl
theorem EK{W:Wri}{R:Itf}{f:Nd→Nd}{h:Hd}(hG:GoS W R f h)(hf:∀d,(ba W h d).isSome=true→(ba W h (f d)).isSome=true){h0:Hd}{d x:Nd}{p:List Nat}(hd:(bc W h0 d).isSome=true)(hi:hdI R h0 p=some h)(hx:dZ p d=some x)(hk:x.kind=kNo h.k):(bc W h0 (di f p d)).isSome=true:=by
 unfold bc at hd⊢
 by_cases hm:cN h0=true
 ·rw[if_pos hm]at hd⊢
  split at hd
  ·cases hd
  ·rename_i hn
   cases p with
   |nil=>
    cases hi
    cases hx
    rw[not_or]at hn
    have:=Classical.not_not.1 hn.2
    rw[hk]at this
    exact absurd this.symm (C6 _)
   |cons k q=>
    have hi2:j8 R h0 q=some h:=by
     have hi3:(if cN h0=true then j8 R h0 q else j8 R h0 (k::q))=some h:=hi
     rw[if_pos hm]at hi3;exact hi3
    show(if d.name≠h0.name∨d.kind≠9 then none else cG (ba W h0) (atN (di f q) k d.kids)).isSome=true
    rw[if_neg hn]
    refine vw k _ (fun d2 h2 h3=> ?_) hd
    have hx2:dZ q d2=some x:=by
     have:(nth k d.kids).bind (dZ q)=some x:=hx
     rw[h2]at this;exact this
    exact vu hG hf h3 hi2 hx2 hk
 ·rw[if_neg hm]at hd⊢
  have hi2:j8 R h0 p=some h:=by
   cases p with
   |nil=>exact hi
   |cons k q=>
    have hi3:(if cN h0=true then j8 R h0 q else j8 R h0 (k::q))=some h:=hi
    rw[if_neg hm]at hi3;exact hi3
  exact vu hG hf hd hi2 hx hk
theorem lN{W:Wri}{R:Itf}{f:Nd→Nd}{h:Hd}(hG:GoS W R f h)(hf:∀d,(ba W h d).isSome=true→(ba W h (f d)).isSome=true){x:Nd}(hk:x.kind=kNo h.k):∀(l:Its) (k:Nat) (q:List Nat) (X:Nds),(aG W l X).isSome=true→nO R l (k::q)=some h→FU k q X=some x→(aG W l (atN (di f q) k X)).isSome=true
 | .nil,k,q,X,hX,hi,_=>by cases hi
 | .cons ..,k,q,.nil,hX,_,_=>by cases hX
 | .when ..,k,q,.nil,hX,_,_=>by cases hX
 | .cons h0 l,0,q,.cons a b c d e t g r,hX,hi,hx=>by
  have h1:=dC hX
  have h2:=EK hG hf h1.1 hi hx hk
  show(aG W (.cons h0 l) ((di f q ⟨a,b,c,d,e,t,g⟩).put r)).isSome=true
  exact pL h2 h1.2
 | .cons h0 l,k+1,q,.cons a b c d e t g r,hX,hi,hx=>pL (dC hX).1 (lN hG hf hk l k q r (dC hX).2 hi hx)
 | .when p0 q0 body l,k+1,q,.cons a b c d e t g r,hX,hi,hx=>by
  have h2:=lN hG hf hk l k q r (ca hX).2.2 hi hx
  simp only[atN]
  rw[fR]at hX⊢
  rw[dL]at h2
  split at hX
  ·rename_i hl
   rw[if_pos (by simp only[eZ,Nds.len]at hl⊢;omega)]
   rw[kQ]at hX⊢
   simp only[texts,List.all_cons,Bool.and_eq_true]at hX⊢
   exact⟨hX.1,h2.2⟩
  ·cases hX
 | .when p0 q0 body l,0,q,.cons a b c d e t g r,hX,hi,hx=>by
  have h3:=ca hX
  have ha:¬(a≠[]∨b≠4):=by
   intro hn
   unfold aG at hX
   rw[if_pos hn]at hX
   cases hX
  obtain⟨z,hz⟩:=Option.isSome_iff_exists.1 h3.2.2
  have hi2:nO R body q=some h:=hi
  have hx2:dZ q ⟨a,b,c,d,e,t,g⟩=some x:=hx
  cases q with
  |nil=>cases body <;> cases hi2
  |cons k2 q2=>
   have hx3:FU k2 q2 g=some x:=hx2
   have he:e≠0:=by
    intro he
    rw[h3.2.1 he]at hx3
    cases k2 <;> cases hx3
   obtain⟨y,hy⟩:=Option.isSome_iff_exists.1 (lN hG hf hk body k2 q2 g (h3.1 he) hi2 hx3)
   show(aG W (.when p0 q0 body l) (.cons a b c d e t (atN (di f q2) k2 g) r)).isSome=true
   unfold aG
   rw[if_neg ha,if_neg he,hz,hy];rfl
theorem pM{f:Nd→Nd}{h:Hd}(hf:∀W d,(ba W h d).isSome=true→(ba W h (f d)).isSome=true):∀L:List Ty,GoS (wrS L) (itS L) f h
 |[],nm,k,q,X,x,hX,_,_,_=>by cases hX
 |t::r,nm,k,q,X,x,hX,hi,hx,hk=>by
  unfold wrS at hX⊢
  unfold itS at hi
  by_cases hn:t.name=nm
  ·rw[if_pos hn]at hX hi⊢
   exact lN (pM hf r) (hf _) hk t.items k q X hX hi hx
  ·rw[if_neg hn]at hX hi⊢
   exact pM hf r nm k q X x hX hi hx hk
theorem C7{L:List Ty}{root:Wd}{f:Nd→Nd}{h:Hd}(hf:∀W d,(ba W h d).isSome=true→(ba W h (f d)).isSome=true){d x:Nd}(hd:(wrT L root d).isSome=true){k:Nat}{q:List Nat}(hi:itS L root (k::q)=some h)(hx:dZ (k::q) d=some x)(hk:x.kind=kNo h.k):(wrT L root (di f (k::q) d)).isSome=true:=by
 obtain⟨hX,n1,n2⟩:=fT hd
 unfold wrT ba
 show(if d.name≠(bZ root).name∨d.kind≠kNo (bZ root).k then none else wrS L root (atN (di f q) k d.kids)).isSome=true
 rw[if_neg (by rw[not_or];exact⟨fun h=>h n1,fun h=>h n2⟩)]
 exact pM hf L root k q d.kids x hX hi hx hk
theorem vx{g:Nd→Option Wd}:∀(k:Nat) (X:Nds) (d:Nd),(cG g X).isSome=true→nth k X=some d→(g d).isSome=true
 |k,.nil,d,_,hn=>by cases k <;> cases hn
 |k,.cons a b c d e t x r,d2,h,hn=>by
  unfold cG at h
  cases h1:g ⟨a,b,c,d,e,t,x⟩with
  |none=>rw[h1]at h;cases h
  |some u=>
   rw[h1]at h
   cases h2:cG g r with
   |none=>rw[h2]at h;cases h
   |some v=>
    cases k with
    |zero=>cases hn;rw[h1];rfl
    |succ k=>exact vx k r d2 (by rw[h2];rfl) hn
end Fx
end
section
open Go Go.RowKit
open Rd
open Ly
structure Mut(w w':World)(bl:List Nat):Prop where
 os:w'.os=w.os
 tape:w'.tape=w.tape
 output:w'.output=w.output
 size:w.heap.size≤w'.heap.size
 block:∀k,k < w.heap.size→k∉bl→w'.heap[k]? =w.heap[k]?
theorem Mut.refl(w:World)(bl:List Nat):Mut w w bl:=⟨rfl,rfl,rfl,Z5 _,fun _ _ _=>rfl⟩
theorem Mut.trans{w w1 w2:World}{bl:List Nat}(h:Mut w w1 bl)(k:Mut w1 w2 bl):Mut w w2 bl:=
 ⟨k.os.trans h.os,k.tape.trans h.tape,k.output.trans h.output,Nat.le_trans h.size k.size,fun i hi h1=>(k.block i (Nat.lt_of_lt_of_le hi h.size) h1).trans (h.block i hi h1)⟩
theorem Mut.mono{w w1:World}{bl bm:List Nat}(h:Mut w w1 bl)(hs:∀x∈bl,x∈bm):Mut w w1 bm:=⟨h.os,h.tape,h.output,h.size,fun k hk hn=>h.block k hk (fun hm=>hn (hs k hm))⟩
theorem Mut.az{w w1:World}{bl:List Nat}(h:Below w.heap.size w w1):Mut w w1 bl:=⟨h.os,h.tape,h.output,h.size,fun k hk _=>h.block k hk⟩
theorem Mut.setCell{w:World}{bl:List Nat}{b:Nat}(hb:b∈bl)(o:Nat)(u:Value):Mut w (w.setCell ⟨b,o,none⟩ u) bl:=
 ⟨rfl,rfl,rfl,by simp[World.setCell],fun k _ h=>Below.heap_setCell _ _ _ _ (fun e=>h (by rw[e];exact hb))⟩
theorem Mut.below{B0:Nat}{w0 w w':World}{bl:List Nat}(h:Below B0 w0 w)(k:Mut w w' bl)(hB:B0≤w.heap.size)(hb:∀b∈bl,B0≤b):Below B0 w0 w':=
 h.trans ⟨k.os,k.tape,k.output,k.size,fun i hi=>k.block i (by omega) (fun hm=>by have:=hb i hm;omega)⟩
theorem kU{a b c:List Nat}(h:(a++(b++c)).Nodup):(a++b).Nodup:=by
 rw[← List.append_assoc]at h
 exact(List.nodup_append.1 h).1
theorem aW.focus{w:World}{B:Nat}:∀(k1:Nds) (d:Nd) (r:Nds) (bl:List Nat) (vs:List Value),aW w B (k1.app (d.put r)) bl vs→bl.Nodup→
  ∃g2 c2 b2 vs2,aQ w B d.kids g2 c2 b2 vs2∧(∀x∈aU g2++b2,x∈bl)∧(vs.drop (k1.len * 7)).take 7=ad d.name d.kind d.at_ d.size d.val d.text (.slice g2 d.kids.len c2)∧
   ∀(w':World) (p:Nds) (vs2':List Value),Mut w w' (aU g2++b2)→p.len=d.kids.len→aQ w' B p g2 c2 b2 vs2'→aW w' B (k1.app (Nd.put {d with kids:=p} r)) bl vs
 | .nil,d,r,bl,vs,he,hn=>by
  obtain⟨ga,cap,bs,us,b1,b2,rfl,h1,h3,rfl,h5⟩:=he
  have hnd:=List.nodup_append.1 hn
  refine⟨ga,cap,b1,bs,⟨h1,h3,kU hn⟩,fun x hx=> ?_,?_,fun w' p vs2' hm hp hk=> ?_⟩
  ·rcases List.mem_append.1 hx with h|h
   ·exact List.mem_append_left _ h
   ·exact List.mem_append_right _ (List.mem_append_left _ h)
  ·rw[Nds.len,Nat.zero_mul,List.drop_zero]
   rfl
  ·refine⟨ga,cap,vs2',us,b1,b2,rfl,hk.own,hk.enc,?_,h5.al _ _ _ fun b hb=>hm.block b (h5.mem _ _ _ b hb).2 (fun hx=> ?_)⟩
   ·show ad d.name d.kind d.at_ d.size d.val d.text (.slice ga d.kids.len cap)++us=ad d.name d.kind d.at_ d.size d.val d.text (.slice ga p.len cap)++us
    rw[hp]
   ·rcases List.mem_append.1 hx with h|h
    ·exact hnd.2.2 b h b (List.mem_append_right _ hb) rfl
    ·exact(List.nodup_append.1 hnd.2.1).2.2 b h b hb rfl
 | .cons nm kd a sz v tx ks k1,d,r,bl,vs,he,hn=>by
  obtain⟨ga,cap,bs,us,b1,b2,rfl,h1,h3,rfl,h5⟩:=he
  have hnd:=List.nodup_append.1 hn
  have hnd2:=List.nodup_append.1 hnd.2.1
  obtain⟨g2,c2,bb,vs2,i1,i2,i3,i4⟩:=aW.focus k1 d r b2 us h5 hnd2.2.1
  refine⟨g2,c2,bb,vs2,i1,fun x hx=>List.mem_append_right _ (List.mem_append_right _ (i2 x hx)),?_,fun w' p vs2' hm hp hk=> ?_⟩
  ·show((ad nm kd a sz v tx (.slice ga ks.len cap)++us).drop ((k1.len+1) * 7)).take 7=_
   rw[show(k1.len+1) * 7=7+k1.len * 7 by omega,← List.drop_drop]
   exact i3
  ·refine⟨ga,cap,bs,us,b1,b2,rfl,h1.al fun x hx=>hm.block _ (h1.gE x hx) (fun hb=> ?_),h3.al _ _ _ fun b hb=>hm.block b (h3.mem _ _ _ b hb).2 (fun hx=> ?_),rfl,i4 w' p vs2' hm hp hk⟩
   ·exact hnd.2.2 x.block (by rw[hx];simp[aU]) x.block (List.mem_append_right _ (i2 _ hb)) rfl
   ·exact hnd2.2.2 b hb b (i2 b hx) rfl
theorem aW.dF{w:World}{B:Nat}(v:Int):∀(i:Nat) (ks:Nds) (bl:List Nat) (vs:List Value),aW w B ks bl vs→aW w B (Fx.dF i v ks) bl (if i < ks.len then vs.set (i * 7+4) (.int .i64 v)else vs)
 |i,.nil,bl,vs,he=>by
  rw[if_neg (show ¬i < Nds.nil.len from Nat.not_lt_zero _)]
  cases i <;> exact he
 |0,.cons nm kd a sz v0 tx ks r,bl,vs,he=>by
  obtain⟨ga,cap,bs,us,b1,b2,rfl,h1,h3,rfl,h5⟩:=he
  rw[if_pos (by show 0 < r.len+1;omega)]
  exact⟨ga,cap,bs,us,b1,b2,rfl,h1,h3,rfl,h5⟩
 |i+1,.cons nm kd a sz v0 tx ks r,bl,vs,he=>by
  obtain⟨ga,cap,bs,us,b1,b2,rfl,h1,h3,rfl,h5⟩:=he
  have ih:=aW.dF v i r b2 us h5
  refine⟨ga,cap,bs,_,b1,b2,rfl,h1,h3,?_,ih⟩
  by_cases hl:i < r.len
  ·rw[if_pos (by show i+1 < r.len+1;omega),if_pos hl,show(i+1) * 7+4=i * 7+4+7 by omega]
   rfl
  ·rw[if_neg (by show ¬i+1 < r.len+1;omega),if_neg hl]
theorem aQ.dF{w:World}{B g cap i:Nat}{ks:Nds}{bl:List Nat}{vs:List Value}(h:aQ w B ks (some ⟨g,0,none⟩) cap bl vs)(hi:i < ks.len)(v:Int):aQ (w.setCell ⟨g,i * 7+4,none⟩ (.int .i64 v)) B (Fx.dF i v ks) (some ⟨g,0,none⟩) cap bl (vs.set (i * 7+4) (.int .i64 v)):=by
 have hl:=h.enc.len
 have hnd:=List.nodup_append.1 h.nodup
 refine⟨?_,?_,h.nodup⟩
 ·rw[Fx.lL]
  exact h.own.set _ (by rw[hl];omega) _
 ·have h2:=aW.dF v i ks bl vs h.enc
  rw[if_pos hi]at h2
  exact h2.al _ _ _ fun b hb=>Below.heap_setCell _ _ _ _ (fun e=>hnd.2.2 g (by simp[aU]) b hb e.symm)
theorem zp:∀(k1 m:Nds),(k1.app m).tot=k1.tot+m.tot
 | .nil,m=>by show m.tot=0+m.tot;omega
 | .cons a b c d e f g r,m=>by
  have:=zp r m
  simp only[Nds.app,Nds.tot,this];omega
theorem iL:∀(ks:Nds),ks.len * 8≤ks.tot
 | .nil=>Z5 _
 | .cons a b c d e f g r=>by
  have:=iL r
  simp only[Nds.len,Nds.tot];omega
theorem pN:∀(n:Nat) (d:Nd),d.tot < n→d.tot≤800000→C2 d
 |0,d,h,_=>absurd h (Nat.not_lt_zero _)
 |n+1,d,h,ht=>by
  have hk:d.kids.tot≤d.tot:=by unfold Nd.tot;omega
  have hl:=iL d.kids
  refine vq d (by omega) (fun k1 d2 r he=> ?_)
  have h2:d2.tot+8≤d.tot:=by
   have h3:=zp k1 (d2.put r)
   rw[← he,eN]at h3
   unfold Nd.tot at h3⊢
   omega
  exact pN n d2 (by omega) (by omega)
theorem yh(d:Nd)(ht:d.tot≤800000)(w:World)(B:Nat)(bl:List Nat)(v:Value)(hv:NdV w B bl d v):Calls Tryz.prog 43 #[v] w (ti w d):=pN _ d (Nat.lt_succ_self _) ht w B bl v hv
def EL(w':World)(B:Nat)(gk:Option Addr)(gcap:Nat)(bl:List Nat)(o:Option Nds)(v:Value):Prop:=match o with
 |some p=>v= .nilIface∧∃vs',aQ w' B p gk gcap bl vs'
 |none=>v= .iface 48 (.int .i64 2)
def ea(w:World)(B:Nat)(gk:Option Addr)(gcap:Nat)(bl:List Nat)(o:Option Nds)(e:Ending)(w':World):Prop:=Mut w w' (aU gk++bl)∧∃v,e= .returned v∧EL w' B gk gcap bl o v
structure FxE(U:World)(rb:Nat)(tys:List Tm.Ty)(a:Option Addr)(cap:Nat):Prop where
 ex:∃Bt tvs,an U Bt 97 3 a tys.length cap tvs∧Tm.cz U rb tys tvs
 few:tys.length≤100
 nodup:(names tys).Nodup
theorem FxE.same{U:World}{rb cap:Nat}{tys:List Tm.Ty}{a:Option Addr}(h:FxE U rb tys a cap){s t:Tm.Ty}(hs:s∈tys)(ht:t∈tys)(he:s.name=t.name):s=t:=by
 have hn:=h.nodup
 unfold names at hn
 clear h
 induction tys with
 |nil=>cases hs
 |cons x l ih=>
  rw[List.map_cons,List.nodup_cons]at hn
  rcases List.mem_cons.1 hs with h1|h1
  ·rcases List.mem_cons.1 ht with h2|h2
   ·rw[h1,h2]
   ·exact absurd (List.mem_map.2 ⟨t,h2,by rw[← he,h1]⟩) hn.1
  ·rcases List.mem_cons.1 ht with h2|h2
   ·exact absurd (List.mem_map.2 ⟨s,h1,by rw[he,h2]⟩) hn.1
   ·exact ih h1 h2 hn.2
def vy(U:World)(rb:Nat)(tys:List Tm.Ty)(a:Option Addr)(cap:Nat)(W:Wri)(F:Nds→Option Nds)(l:Tm.Its):Prop:=∀(w:World) (B gcap capi:Nat) (gi gk:Option Addr) (bs vs:List Value) (bl:List Nat) (ks:Nds),
 Below U.heap.size U w→an U (rb+1) 70 13 gi l.len capi bs→Tm.bo U rb l bs→aQ w B ks gk gcap bl vs→U.heap.size≤B→ks.ok→ks.tot≤800000→(aG W l ks).isSome=true→
 Calls Tryz.prog 70 #[.agg #[.slice a tys.length cap],.slice gi l.len capi,.slice gk ks.len gcap] w (ea w B gk gcap bl (F ks))
def EM(U:World)(rb:Nat)(tys:List Tm.Ty)(a:Option Addr)(cap:Nat)(W:Wri)(Bf:Fx.Fxr)(nm:Tm.Wd):Prop:=∃t∈tys,t.name=nm∧∃W',(∀ks,W nm ks=aG W' t.items ks)∧vy U rb tys a cap W' (Bf nm) t.items
end
section
set_option maxRecDepth 100000
open Go.RowKit
theorem Bj(a:Option Addr)(n c:Nat)(L:List Int)(x:Int)(w:World)(hL:L.length=n)(hn:n≤4611686018427387904)(ha:im w a L):
  Calls Tryz.prog 141 #[.slice a n c,.int .i64 x] w fun e w'=>∃r:Int,e= .returned (.int .i64 r)∧w=w'∧ -1≤r∧r < n∧(0≤r↔x∈L):=by
 have HL:=hid hL;clear hL
 have HA:=hid ha;clear ha
 go_enter Tryz.func141,Tryz.ntmps141
 go_wp2_with fail
 go_loop [8] (fun i=>∃k:Nat,k≤n∧i= .int .i64 k∧Hid (∀j,j < k→L.getD j 0≠x)) (fun i=>n - (intOf i).toNat)
 case atStart=>exact⟨0,by omega,rfl,fun j hj=>by omega⟩
 case round=>
  obtain⟨k,hk,rfl,HP⟩:=hrel
  by_cases hlt:k < n
  ·obtain⟨g,off,rfl,hc⟩:=HA.out.pos (by rw[HL.out];omega)
   have hc1:=hc k (by rw[HL.out];omega)
   clear hc
   have hki:(k:Int) < (n:Int):=by omega
   generalize hx:L.getD k 0=y at *
   have HX:=hid hx;clear hx
   by_cases hxy:x=y
   ·have hb:(x==y)=true:=by simp[hxy]
    have HXY:=hid hxy;clear hxy
    go_wp2_with fail
    go_ret
    refine⟨k,rfl,rfl,by omega,by omega,⟨fun _=> ?_,fun _=>by omega⟩⟩
    rw[HXY.out,← HX.out,List.getD_eq_getElem?_getD,Y1 (by rw[HL.out];exact hlt)]
    exact List.getElem_mem _
   ·have hb:(x==y)=false:=by simpa using hxy
    have HXY:=hid hxy;clear hxy
    go_wp2_with fail
    go_round
    case rel=>
     refine⟨k+1,by omega,by go_num,?_⟩
     intro j hj
     rcases Nat.lt_or_ge j k with h|h
     ·exact HP.out j h
     ·obtain rfl:j=k:=by omega
      rw[HX.out]
      exact fun h=>HXY.out h.symm
    case measure=>simp[intOf];omega
  ·obtain rfl:k=n:=by omega
   have hd:decide ((k:Int) < (k:Int))=false:=by simp
   go_wp2_with fail
   go_ret
   refine⟨-1,rfl,rfl,by omega,by omega,⟨fun h=>by omega,fun h=> ?_⟩⟩
   obtain⟨i,hi,he⟩:=List.getElem_of_mem h
   have:=HP.out i (by rw[HL.out]at hi;exact hi)
   rw[List.getD_eq_getElem?_getD,Y1 hi]at this
   exact absurd he this
theorem lO(a:Option Addr)(n c:Nat)(L:List Int)(x:Int)(w:World)(hL:L.length=n)(hn:n≤4611686018427387904)(ha:im w a L):
  Calls Tryz.prog 122 #[.slice a n c,.int .i64 x] w fun e w'=>e= .returned (.bool (decide (x∈L)))∧w=w':=by
 go_enter Tryz.func122,Tryz.ntmps122
 go_wp2_with fail
 refine(Bj a n c L x _ hL hn ha).mono ?_
 rintro e w1 ⟨r,rfl,rfl,h1,h2,h3⟩
 have H3:=hid h3;clear h3
 clear ha
 go_wp2_with fail
 go_ret
 refine⟨iV ?_,rfl⟩
 rw[decide_eq_decide]
 exact H3.out
end
section
set_option maxRecDepth 100000
set_option maxHeartbeats 2000000
open Go.RowKit
open Rd
structure OcS(V W:World)(rb cap n:Nat)(l:Tm.Its)(ga:Option Addr)(bs:List Value)(lb ob on oc B:Nat)(oa:Option Addr)(out:List Nat):Prop where
 it:ItV V W rb l ga cap bs
 r1:ae W lb 0 63 [.slice ga n cap]
 r2:ae W ob 0 40 [.slice oa on oc]
 own:an W B 3 1 oa on oc (ed (out.map fun(i:Nat)=>(i:Int)))
 len:out.length=on
theorem OcS.up{V W W':World}{rb cap n:Nat}{l:Tm.Its}{ga:Option Addr}{bs:List Value}{lb ob on oc B:Nat}{oa:Option Addr}{out:List Nat}(h:OcS V W rb cap n l ga bs lb ob on oc B oa out)(hb:Below W.heap.size W W'):OcS V W' rb cap n l ga bs lb ob on oc B oa out:=
 ⟨h.it.up hb,h.r1.below hb h.r1.lt,h.r2.below hb h.r2.lt,h.own.below hb (Z5 _),h.len⟩
theorem vz{R:List Tm.Sk}{out:List Nat}{j:Nat}{s:Tm.Sk}(hs:R[j]? =some s)(h:s.wh=true∨Tm.aI s.ay=false∨j∈out):Fx.ready R out j=false:=by
 unfold Fx.ready
 rw[hs]
 rcases h with h|h|h <;> simp[h]
theorem Bl{R:List Tm.Sk}{out:List Nat}{j:Nat}{s:Tm.Sk}(hs:R[j]? =some s)(h1:s.wh=false)(h2:Tm.aI s.ay=true)(h3:j∉out):Fx.ready R out j=(List.range R.length).all fun k=> !(Tm.eu R j k&&Tm.bH R k&& !out.contains k):=by
 unfold Fx.ready
 rw[hs]
 simp[h1,h2,h3]
theorem lP{out:List Nat}{j:Nat}:((j:Int)∈out.map fun(i:Nat)=>(i:Int))↔j∈out:=by
 rw[List.mem_map]
 constructor
 ·rintro⟨a,h1,h2⟩
  have:a=j:=by omega
  rw[← this];exact h1
 ·exact fun h=>⟨j,h,rfl⟩
theorem EN{n k:Nat}{p:Nat→Bool}(hk:k < n)(h:p k=false):(List.range n).all p=false:=by
 rw[List.all_eq_false]
 exact⟨k,List.mem_range.2 hk,by rw[h];simp⟩
theorem C8{k:Nat}{p:Nat→Bool}(h:(List.range k).all p=true)(h2:p k=true):(List.range (k+1)).all p=true:=by
 rw[List.range_succ,List.all_append,h];simp[h2]
theorem EO(V w:World)(rb cap n lb ob on oc B j:Nat)(l:Tm.Its)(ga oa:Option Addr)(bs:List Value)(out:List Nat)(hn:n=Tm.Its.len l)(hn2:n≤100000)(hon:on≤100000)(h:OcS V w rb cap n l ga bs lb ob on oc B oa out)
  (s:Tm.Sk)(k0 k1 k4 k5:Nat)(s3:ByteArray)(b6:Bool)(p8 a12:Option Addr)(n12 c12:Nat)(hk:k0=4↔s.wh=true)(hk4:k0≤4)(hs:l.row[j]? =some s)(hu:s.wh=false→Tm.aV l.row s.name=(j:Int))(hj:j < n):
  Calls Tryz.prog 121 #[.agg (aP s k0 k1 k4 k5 s3 b6 p8 a12 n12 c12).toArray,.pointer (some ⟨lb,0,none⟩),.pointer (some ⟨ob,0,none⟩)] w fun e w'=>e= .returned (.bool (Fx.ready l.row out j))∧Below w.heap.size w w':=by
 have hcap:n≤cap:=by rw[hn];exact aT h.it.own
 obtain⟨r1,r2,_⟩:=eT s.ay
 obtain⟨V1,hV1⟩:∃V1,V1=w.alloc (.cells (aP s k0 k1 k4 k5 s3 b6 p8 a12 n12 c12).toArray 70):=⟨_,rfl⟩
 have hrow:ae V1 w.heap.size 0 70 (aP s k0 k1 k4 k5 s3 b6 p8 a12 n12 c12):=by rw[hV1];exact ae.new w _ _
 have hbb:Below w.heap.size w V1:=by rw[hV1];exact(Y4 w.heap.size w).alloc (Z5 _) _
 have c0:=hrow.cell0 0 (by simp);have c2:=hrow.cell0 2 (by simp);have c9:=hrow.cell0 9 (by simp)
 have h2:=h.up hbb
 have d1:=h2.r1.cell0 0 (by simp)
 simp only[aP,Z0,Z1]at c0 c2 c9 d1
 rw[hV1]at c2 d1
 have HROW:=hid hrow;have HB:=hid hbb;have HO:=hid h2;have HV1:=hid hV1;have HK:=hid hk;have HS:=hid hs;have HU:=hid hu;have HN:=hid hn
 have HF:=hid (fun W hW nm=>pj V rb cap n l ga bs nm W hn hn2 hW)
 have HOV:=hid (fun W k hW=>uP V rb cap n j k l ga bs W hn hn2 hW hj)
 generalize hch:Tm.aI s.ay=ch at *
 have HCH:=hid hch
 have fin:∀W,Below w.heap.size w W→s.wh=true∨Tm.aI s.ay=false∨j∈out→(Ending.returned (.bool false)=Ending.returned (.bool (Fx.ready l.row out j))∧Below w.heap.size w W):=fun W hW hc=>⟨by rw[vz hs hc],hW⟩
 have FIN:=hid fin
 clear hrow hbb h2 h hk hs hu hV1 hn c0 c9 fin hch
 by_cases h4:k0=4
 ·have q1:((k0:Int)==4)=true:=by rw[beq_iff_eq];omega
  have q3:(k0==4)=true:=by rw[beq_iff_eq];exact h4
  have HW:=hid (HK.out.1 h4)
  clear h4
  go_enter Tryz.func121,Tryz.ntmps121
  go_wp2_with fail
  rw[show w.alloc _=V1 from HV1.out.symm]
  refine(HF.out V1 HO.out.it s.name).mono ?_
  rintro e w2 ⟨rfl,hb2⟩
  have hr2:=HROW.out.below hb2 HROW.out.lt
  have c0:=hr2.cell0 0 (by simp)
  simp only[aP,Z0,Z1]at c0
  have HB2:=hid (HB.out.trans (hb2.mono HB.out.size))
  clear hb2 hr2
  go_wp2_with fail
  go_ret
  exact FIN.out _ HB2.out (.inl HW.out)
 ·have hw:s.wh=false:=by
   cases h:s.wh with
   |false=>rfl
   |true=>exact absurd (HK.out.2 h) h4
  have q1:((k0:Int)==4)=false:=by rw[Z8];omega
  have q3:(k0==4)=false:=by rw[Z8];exact h4
  have HW:=hid hw
  clear h4 hw
  go_enter Tryz.func121,Tryz.ntmps121
  go_wp2_with fail
  rw[show w.alloc _=V1 from HV1.out.symm]
  refine(HF.out V1 HO.out.it s.name).mono ?_
  rintro e w2 ⟨rfl,hb2⟩
  rw[HU.out HW.out]
  have hr2:=HROW.out.below hb2 HROW.out.lt
  have c0:=hr2.cell0 0 (by simp);have c9:=hr2.cell0 9 (by simp)
  simp only[aP,Z0,Z1]at c0 c9
  have hO2:=HO.out.up hb2
  have d2:=hO2.r2.cell0 0 (by simp);have d1b:=hO2.r1.cell0 0 (by simp)
  simp only[Z0]at d2 d1b
  have HO2:=hid hO2
  have HB2:=hid (HB.out.trans (hb2.mono HB.out.size))
  clear hb2 hr2 hO2 d1 c2
  cases ch with
  |false=>
   have q5:(((av s.ay).1:Int)!=3)=true:=by rw[bne,r2];rfl
   have q6:((av s.ay).1 !=3)=true:=by rw[bne,r1];rfl
   clear r1 r2
   go_wp2_with fail
   go_ret
   exact FIN.out _ HB2.out (.inr (.inl HCH.out))
  |true=>
   have q5:(((av s.ay).1:Int)!=3)=false:=by rw[bne,r2];rfl
   have q6:((av s.ay).1 !=3)=false:=by rw[bne,r1];rfl
   clear r1 r2
   go_wp2_with fail
   refine(lO oa on oc (out.map fun(i:Nat)=>(i:Int)) (j:Int) _ (by rw[List.length_map];exact HO2.out.len) (by omega) HO2.out.own.si).mono ?_
   rintro e w3 ⟨rfl,rfl⟩
   by_cases hm:j∈out
   ·have e1:decide ((j:Int)∈out.map fun(i:Nat)=>(i:Int))=true:=Z9 (lP.2 hm)
    rw[e1]
    have HM:=hid hm
    clear hm e1
    go_wp2_with fail
    go_ret
    exact FIN.out _ HB2.out (.inr (.inr HM.out))
   ·have e1:decide ((j:Int)∈out.map fun(i:Nat)=>(i:Int))=false:=Y9 (fun h=>hm (lP.1 h))
    rw[e1]
    have HM:=hid hm
    have HRD:=hid (Bl HS.out HW.out HCH.out hm)
    clear hm e1
    obtain⟨pf,hpf⟩:∃pf:Nat→Bool,pf=fun k=> !(Tm.eu l.row j k&&Tm.bH l.row k&& !out.contains k):=⟨_,rfl⟩
    have hrl:l.row.length=n:=by rw[Tm.cH];exact HN.out.symm
    have HRD2:=hid (show Fx.ready l.row out j=(List.range n).all pf by rw[HRD.out,hrl,hpf])
    have HPF:=hid (fun k=>congrFun hpf k)
    clear hrl hpf
    go_wp2_with fail
    go_loopw [26] (fun v26 wr=>∃k:Nat,v26= .int .i64 k∧k≤n∧Hid ((List.range k).all pf=true)∧Hid (Below w2.heap.size w2 wr)) (fun v26 _=>n - (intOf v26).toNat)
    case atStart=>exact⟨0,rfl,Nat.zero_le _,hid (by simp),hid (Y4 _ _)⟩
    case round=>
     obtain⟨k,rfl,hkn,HQ,HBW⟩:=hrel
     have hOw:=HO2.out.up HBW.out
     have g1:=hOw.r1.cell0 0 (by simp);have g2:=hOw.r2.cell0 0 (by simp)
     simp only[Z0]at g1 g2
     have HOW:=hid hOw
     by_cases hlt:k < n
     ·have hki:(k:Int) < (n:Int):=by omega
      have q7:decide ((k:Int) < (n:Int))=true:=Z9 hki
      have q8:decide (k < n)=true:=Z9 hlt
      have HLT:=hid hlt
      clear hOw d2 d1b
      go_wp2_with fail
      refine(HOV.out wr k HOW.out.it).mono ?_
      rintro e w4 ⟨rfl,hb4⟩
      have HB4:=hid (HBW.out.trans (hb4.mono HBW.out.size))
      have hO4:=HOW.out.up hb4
      have g3:=hO4.r1.cell0 0 (by simp);have g4:=hO4.r2.cell0 0 (by simp)
      simp only[Z0]at g3 g4
      obtain⟨x,rfl⟩:∃x,ga=some x:=by
       cases ga with
       |none=>have:=hO4.it.own.aN.1;rw[← HN.out]at this;omega
       |some x=>exact⟨x,rfl⟩
      obtain⟨gb,rfl⟩:∃gb,x=⟨gb,0,none⟩:=⟨x.block,hO4.it.own.row.1⟩
      obtain⟨s9,m0,m1,m4,m5,m3,m6,m8,m12,mn,mc,hs9,hrow9,hm0,hm4,hw9⟩:=hO4.it.cells k (by rw[← HN.out];exact hlt)
      have f9:=hrow9.cell 9 (by simp)
      simp only[aP,Z0,Z1]at f9
      have hca:Tm.bH l.row k=Tm.aI s9.ay:=by unfold Tm.bH;rw[hs9]
      obtain⟨r9a,r9b,_⟩:=eT s9.ay
      have HO4:=hid hO4
      have HPK:=hid (HPF.out k)
      have HCA:=hid hca
      clear hb4 hO4 hs9 hrow9 hm0 hm4 hw9 hlt hca g1 g2
      have next:pf k=true→Hid ((List.range (k+1)).all pf=true):=fun h=>hid (C8 HQ.out h)
      have stop:pf k=false→Fx.ready l.row out j=false:=fun h=>by rw[HRD2.out];exact EN HLT.out h
      have HNX:=hid next;have HST:=hid stop
      clear next stop
      generalize hov:Tm.eu l.row j k=ov at *
      have HOVB:=hid hov
      clear hov
      cases ov with
      |false=>
       have HP:=hid (HNX.out (by rw[HPK.out];rfl))
       go_wp2_with fail
       go_roundw
       case rel=>exact⟨k+1,by go_num,by omega,HP.out,HB4⟩
       case measure=>simp[intOf];omega
      |true=>
       generalize hc9:Tm.aI s9.ay=ch9 at *
       have HC9:=hid hc9
       clear hc9
       cases ch9 with
       |false=>
        have HP:=hid (HNX.out (by rw[HPK.out,HCA.out];simp))
        go_wp2_with fail
        go_roundw
        case rel=>exact⟨k+1,by go_num,by omega,HP.out,HB4⟩
        case measure=>simp[intOf];omega
       |true=>
        go_wp2_with fail
        refine(lO oa on oc (out.map fun(i:Nat)=>(i:Int)) (k:Int) _ (by rw[List.length_map];exact HO4.out.len) (by omega) HO4.out.own.si).mono ?_
        rintro e w5 ⟨rfl,rfl⟩
        by_cases hm:k∈out
        ·have e1:decide ((k:Int)∈out.map fun(i:Nat)=>(i:Int))=true:=Z9 (lP.2 hm)
         rw[e1]
         have HP:=hid (HNX.out (by rw[HPK.out];simp[hm]))
         clear hm e1
         go_wp2_with fail
         go_roundw
         case rel=>exact⟨k+1,by go_num,by omega,HP.out,HB4⟩
         case measure=>simp[intOf];omega
        ·have e1:decide ((k:Int)∈out.map fun(i:Nat)=>(i:Int))=false:=Y9 (fun h=>hm (lP.1 h))
         rw[e1]
         have HP:=hid (HST.out (by rw[HPK.out,HCA.out];simp[hm]))
         clear hm e1
         go_wp2_with fail
         go_ret
         exact⟨by rw[HP.out];rfl,HB2.out.trans (HB4.out.mono HB2.out.size)⟩
     ·obtain rfl:k=n:=by omega
      have hd:decide ((k:Int) < (k:Int))=false:=by simp
      have hd2:decide (k < k)=false:=by simp
      clear hOw
      go_wp2_with fail
      go_ret
      refine⟨?_,HB2.out.trans (HBW.out.mono HB2.out.size)⟩
      rw[HRD2.out,HQ.out]
      rfl
end
section
namespace Fx
open Ly Tm
structure ju(R:List Sk):Prop where
 ay:∀(i:Nat) (s:Sk),R[i]? =some s→bu R i s=none
 uniq:∀(i:Nat) (s:Sk),R[i]? =some s→s.wh=false→aV R s.name=(i:Int)
def kp:Its→Prop
 | .nil=>True
 | .cons _ l=>kp l
 | .when _ _ b l=>(ju b.row∧kp b)∧kp l
theorem nD{R:List Sk}:∀(l:List Sk) (b:Nat),dG R b l=none→∀(i:Nat) (s:Sk),l[i]? =some s→bu R (b+i) s=none
 |[],b,_,i,s,h=>by cases h
 |s0::l,b,hr,i,s,h=>by
  unfold dG at hr
  cases h1:bu R b s0 with
  |some e=>rw[h1]at hr;cases hr
  |none=>
   rw[h1]at hr
   cases i with
   |zero=>cases h;exact h1
   |succ i=>
    have:=nD l (b+1) hr i s h
    rw[show b+(i+1)=b+1+i by omega];exact this
def FV(R:List Sk):Prop:=∀(i j:Nat) (s t:Sk),R[i]? =some s→R[j]? =some t→s.wh=false→t.wh=false→s.name=t.name→i=j
theorem Bm{R:List Sk}(h:FV R){i:Nat}{s:Sk}(hs:R[i]? =some s)(hw:s.wh=false):aV R s.name=(i:Int):=by
 have hi:=(List.getElem?_eq_some_iff.1 hs).1
 have he:=(List.getElem?_eq_some_iff.1 hs).2
 have:R.findIdx? (called s.name)=some i:=by
  rw[List.findIdx?_eq_some_iff_getElem]
  refine⟨hi,by rw[he];simp[called,hw],fun j hji=> ?_⟩
  intro hc
  unfold called at hc
  simp only[Bool.and_eq_true,Bool.not_eq_true',beq_iff_eq]at hc
  have:=h j i R[j] s (Y1 (by omega)) hs hc.1 hw hc.2
  omega
 unfold aV
 rw[this]
theorem nE{R:List Sk}(h:de R=none)(hd:FV R):ju R:=by
 refine⟨fun i s hs=> ?_,fun i s hs hw=>Bm hd hs hw⟩
 unfold de at h
 cases h1:dG R 0 R with
 |some e=>rw[h1]at h;cases h
 |none=>have:=nD R 0 h1 i s hs;rw[Nat.zero_add]at this;exact this
theorem jU{ts:List Wd}:∀(l:Its) (ns seen ns' seen':List Wd),bA ts l ns seen= .ok ns' seen'→(∀x∈ns,x∈ns')∧(∀s∈l.row,s.wh=false→s.name∉ns∧s.name∈ns')∧FV l.row∧kp l
 | .nil,ns,seen,ns',seen',e=>by
  unfold bA at e
  injection e with e1 e2
  subst e1
  exact⟨fun x hx=>hx,(fun s hs=>by cases hs),(fun i j s t h=>by cases h),trivial⟩
 | .cons h l,ns,seen,ns',seen',e=>by
  unfold bA at e
  split at e
  ·cases e
  ·rename_i hn
   split at e
   ·cases e
   ·split at e
    ·obtain⟨h1,h2,h3,h4⟩:=jU l _ _ _ _ e
     have hn2:h.name∉ns:=by simpa using hn
     refine⟨fun x hx=>h1 x (List.mem_cons_of_mem _ hx),fun s hs hw=> ?_,fun i j s t hi hj ws wt hst=> ?_,h4⟩
     ·rcases List.mem_cons.1 hs with rfl|hs
      ·exact⟨hn2,h1 _ (by simp[skH])⟩
      ·have:=h2 s hs hw
       exact⟨fun hm=>this.1 (List.mem_cons_of_mem _ hm),this.2⟩
     ·cases i with
      |zero=>
       cases j with
       |zero=>rfl
       |succ j=>
        cases hi
        have:=(h2 t (List.mem_of_getElem? hj) wt).1
        exact absurd (by rw[← hst];simp[skH]) this
      |succ i=>
       cases j with
       |zero=>
        cases hj
        have:=(h2 s (List.mem_of_getElem? hi) ws).1
        exact absurd (by rw[hst];simp[skH]) this
       |succ j=>rw[h3 i j s t hi hj ws wt hst]
    ·cases e
 | .when a c b l,ns,seen,ns',seen',e=>by
  unfold bA at e
  split at e
  ·cases hb:bA ts b ns seen with
   |bad x=>rw[hb]at e;cases e
   |ok n2 s2=>
    rw[hb]at e
    simp only[]at e
    split at e
    ·cases e
    ·rename_i hr
     obtain⟨h1,h2,h3,h4⟩:=jU b _ _ _ _ hb
     obtain⟨g1,g2,g3,g4⟩:=jU l _ _ _ _ e
     refine⟨fun x hx=>g1 x (h1 x hx),fun s hs hw=> ?_,fun i j s t hi hj ws wt hst=> ?_,⟨⟨nE hr h3,h4⟩,g4⟩⟩
     ·rcases List.mem_cons.1 hs with rfl|hs
      ·cases hw
      ·have:=g2 s hs hw
       exact⟨fun hm=>this.1 (h1 _ hm),this.2⟩
     ·cases i with
      |zero=>cases hi;cases ws
      |succ i=>
       cases j with
       |zero=>cases hj;cases wt
       |succ j=>rw[g3 i j s t hi hj ws wt hst]
  ·cases e
theorem C9:∀(l:List Ty) (ts:List Wd),chk ts l=none→∀t∈l,ju t.items.row∧kp t.items
 |[],ts,_,t,ht=>by cases ht
 |t0::l,ts,h,t,ht=>by
  unfold chk at h
  split at h
  ·cases h
  ·cases hb:bA ts t0.items [] []with
   |bad x=>rw[hb]at h;cases h
   |ok n2 s2=>
    rw[hb]at h
    simp only[]at h
    split at h
    ·cases h
    ·rename_i hr
     obtain⟨h1,h2,h3,h4⟩:=jU _ _ _ _ _ hb
     rcases List.mem_cons.1 ht with rfl|ht
     ·exact⟨nE hr h3,h4⟩
     ·exact C9 l _ h t ht
structure yi(R:List Sk)(i:Nat)(r:Rl)(a b:Nat):Prop where
 first:aV R (bf r)=(a:Int)
 last:cU R r=(b:Int)
 le:a≤b
 lt:b < R.length
theorem EP{R:List Sk}(h:ju R){i:Nat}{s:Sk}(hs:R[i]? =some s)(hr:isNone s.ay=false):∃a b,yi R i s.ay a b:=by
 have h1:=h.ay i s hs
 unfold bu at h1
 rw[hr]at h1
 simp only[Bool.false_eq_true,if_false]at h1
 split at h1
 ·cases h1
 ·rename_i g1
  split at h1
  ·cases h1
  ·split at h1
   ·cases h1
   ·rename_i g2
    rw[not_or]at g1
    have hb:cU R s.ay < R.length:=by
     unfold cU
     split
     ·unfold aV
      cases hf:R.findIdx? (called (cO s.ay))with
      |none=>simp only[];omega
      |some k=>have:=(List.findIdx?_eq_some_iff_getElem.1 hf).1;simp only[];omega
     ·unfold aV
      cases hf:R.findIdx? (called (bf s.ay))with
      |none=>simp only[];omega
      |some k=>have:=(List.findIdx?_eq_some_iff_getElem.1 hf).1;simp only[];omega
    exact⟨(aV R (bf s.ay)).toNat,(cU R s.ay).toNat,by omega,by omega,by omega,by omega⟩
theorem rP{f:Nds→Option Nds}:∀(ks p:Nds),du f ks=some p→p.len=ks.len
 | .nil,p,h=>by cases h;rfl
 | .cons a b c d e t g r,p,h=>by
  unfold du at h
  obtain⟨g',_,h2⟩:=Option.bind_eq_some_iff.1 h
  obtain⟨q,h3,rfl⟩:=Option.map_eq_some_iff.1 h2
  simp only[Nds.len,rP r q h3]
theorem C'{C:Wd→Nat}{W:Wri}{l:Its}{ks p:Nds}{i:Nat}(h:fZ C W l ks i=some p):p.len=ks.len:=by
 unfold fZ at h
 split at h
 ·cases h;rfl
 ·split at h
  ·cases h;exact lL _ _ _
  ·cases h
theorem vA{C:Wd→Nat}{W:Wri}{l:Its}:∀(O:List Nat) (ks p:Nds),ey C W l O ks=some p→p.len=ks.len
 |[],ks,p,h=>by cases h;rfl
 |i::O,ks,p,h=>by
  unfold ey at h
  obtain⟨q,h1,h2⟩:=Option.bind_eq_some_iff.1 h
  rw[vA O q p h2,C' h1]
def Da(B:Fxr):Prop:=∀nm ks p,B nm ks=some p→p.len=ks.len
theorem ER{B:Fxr}(hB:Da B){h:Hd}{ks p:Nds}(hh:hdF B h ks=some p):p.len=ks.len:=by
 unfold hdF at hh
 split at hh
 ·split at hh
  ·exact rP _ _ hh
  ·exact hB _ _ _ hh
 ·cases hh;rfl
theorem kV{C:Wd→Nat}{W:Wri}{B:Fxr}:∀(l:Its) (ks p:Nds),aM C W B l ks=some p→p.len=ks.len
 | .nil,ks,p,h=>by unfold aM at h;cases h;rfl
 | .cons h l,.nil,p,hh=>by unfold aM at hh;cases hh;rfl
 | .when ..,.nil,p,h=>by unfold aM at h;cases h;rfl
 | .cons h l,.cons a b c d e f g r,p,hh=>by
  unfold aM at hh
  obtain⟨g',_,h2⟩:=Option.bind_eq_some_iff.1 hh
  obtain⟨q,h3,rfl⟩:=Option.map_eq_some_iff.1 h2
  simp only[Nds.len,kV l r q h3]
 | .when p0 q0 body l,.cons a b c d e f g r,p,hh=>by
  unfold aM at hh
  obtain⟨g',_,h2⟩:=Option.bind_eq_some_iff.1 hh
  obtain⟨q,h3,rfl⟩:=Option.map_eq_some_iff.1 h2
  simp only[Nds.len,kV l r q h3]
theorem vB{C:Wd→Nat}{W:Wri}{B:Fxr}{l:Its}{ks p:Nds}(h:eW C W B l ks=some p):p.len=ks.len:=by
 unfold eW at h
 obtain⟨q,h1,h2⟩:=Option.bind_eq_some_iff.1 h
 rw[vA _ _ _ h2,kV _ _ _ h1]
theorem pO{C:Wd→Nat}:∀L:List Ty,Da (cY C L)
 |[],nm,ks,p,h=>by cases h;rfl
 |t::r,nm,ks,p,h=>by
  unfold cY at h
  split at h
  ·exact vB h
  ·exact pO r nm ks p h
def vC(f:Nds→Option Nds)(q r:Nds):Option Nds:=(du f r).map (q.app ·)
theorem yj{f:Nds→Option Nds}{q r:Nds}{d:Nd}(h:f d.kids=none):vC f q (d.put r)=none:=by
 show((du f (.cons d.name d.kind d.at_ d.size d.val d.text d.kids r)).map _)=none
 unfold du
 rw[h];rfl
theorem yk{f:Nds→Option Nds}{q r g:Nds}{d:Nd}(h:f d.kids=some g):vC f q (d.put r)=vC f (q.app (Nd.put {d with kids:=g} .nil)) r:=by
 show((du f (.cons d.name d.kind d.at_ d.size d.val d.text d.kids r)).map _)=(du f r).map _
 conv=>lhs;unfold du
 rw[h]
 simp only[Option.bind_some,Option.map_map]
 congr 1
 funext z
 simp only[Function.comp,Nds.dA]
 rfl
def whF(C:Wd→Nat)(W:Wri)(B:Fxr)(body:Its)(e:Int)(g:Nds):Option Nds:=if e=0 then some g else eW C W B body g
def lQ(C:Wd→Nat)(W:Wri)(B:Fxr)(q:Nds)(l:Its)(r:Nds):Option Nds:=(aM C W B l r).map (q.app ·)
theorem qG{C:Wd→Nat}{W:Wri}{B:Fxr}{q r:Nds}{h:Hd}{l:Its}{d:Nd}(hh:hdF B h d.kids=none):lQ C W B q (.cons h l) (d.put r)=none:=by
 show((aM C W B (.cons h l) (.cons d.name d.kind d.at_ d.size d.val d.text d.kids r)).map _)=none
 unfold aM
 rw[hh];rfl
theorem Db{C:Wd→Nat}{W:Wri}{B:Fxr}{q r g:Nds}{h:Hd}{l:Its}{d:Nd}(hh:hdF B h d.kids=some g):lQ C W B q (.cons h l) (d.put r)=lQ C W B (q.app (Nd.put {d with kids:=g} .nil)) l r:=by
 show((aM C W B (.cons h l) (.cons d.name d.kind d.at_ d.size d.val d.text d.kids r)).map _)=(aM C W B l r).map _
 conv=>lhs;unfold aM
 rw[hh]
 simp only[Option.bind_some,Option.map_map]
 congr 1
 funext z
 simp only[Function.comp,Nds.dA]
 rfl
theorem qH{C:Wd→Nat}{W:Wri}{B:Fxr}{q r:Nds}{a:Nat}{c:Ex.X}{body l:Its}{d:Nd}(hh:whF C W B body d.val d.kids=none):lQ C W B q (.when a c body l) (d.put r)=none:=by
 show((aM C W B (.when a c body l) (.cons d.name d.kind d.at_ d.size d.val d.text d.kids r)).map _)=none
 unfold whF eW at hh
 conv=>lhs;unfold aM
 rw[hh];rfl
theorem Dc{C:Wd→Nat}{W:Wri}{B:Fxr}{q r g:Nds}{a:Nat}{c:Ex.X}{body l:Its}{d:Nd}(hh:whF C W B body d.val d.kids=some g):lQ C W B q (.when a c body l) (d.put r)=lQ C W B (q.app (Nd.put {d with kids:=g} .nil)) l r:=by
 show((aM C W B (.when a c body l) (.cons d.name d.kind d.at_ d.size d.val d.text d.kids r)).map _)=(aM C W B l r).map _
 unfold whF eW at hh
 conv=>lhs;unfold aM
 rw[hh]
 simp only[Option.bind_some,Option.map_map]
 congr 1
 funext z
 simp only[Function.comp,Nds.dA]
 rfl
end Fx
end
end Go.Proofs.YtlomecfhobehnaaGreatDoor
