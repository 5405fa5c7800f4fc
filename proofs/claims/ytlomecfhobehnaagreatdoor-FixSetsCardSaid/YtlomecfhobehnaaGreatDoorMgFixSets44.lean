import Derived.Test.YtlomecfhobehnaaGreatDoorMgFixSets43
set_option linter.unusedVariables false
set_option linter.unusedSimpArgs false
namespace Go.Proofs.YtlomecfhobehnaaGreatDoor
open Lib (hid)
section
open Go Go.RowKit
open Rd
open Ly
theorem Eh(nm:Tm.Wd)(kd a sz:Nat)(v:Int)(tx:Tm.Wd)(sv:Value):(ae nm kd a sz v tx sv).length=7:=rfl
theorem aW.Ei{w:World}{B:Nat}:∀(k1:Nds) (d:Nd) (r:Nds) (bl:List Nat) (vs:List Value),aW w B (k1.app (d.put r)) bl vs→bl.Nodup→
  ∃g2 c2 b2 vs2,aQ w B d.kids g2 c2 b2 vs2∧(∀x∈aU g2++b2,x∈bl)∧(vs.drop (k1.len * 7)).take 7=ae d.name d.kind d.at_ d.size d.val d.text (.slice g2 d.kids.len c2)∧
   ∀(w':World) (d':Nd) (g2':Option Addr) (c2':Nat) (b2':List Nat) (vs2':List Value),(∀b∈bl,b∉aU g2++b2→w'.heap[b]? =w.heap[b]?)→aQ w' B d'.kids g2' c2' b2' vs2'→(∀b∈aU g2'++b2',b∈aU g2++b2∨w.heap.size≤b)→
    ∃bl',aW w' B (k1.app (d'.put r)) bl' (vs.take (k1.len * 7)++ae d'.name d'.kind d'.at_ d'.size d'.val d'.text (.slice g2' d'.kids.len c2')++vs.drop (k1.len * 7+7))∧bl'.Nodup∧∀b∈bl',b∈bl∨w.heap.size≤b
 | .nil,d,r,bl,vs,he,hn=>by
  obtain⟨ga,cap,bs,us,b1,b2,rfl,h1,h3,rfl,h5⟩:=he;have hnd:=List.nodup_append.1 hn;have hnd2:=List.nodup_append.1 hnd.2.1;refine⟨ga,cap,b1,bs,⟨h1,h3,lg hn⟩,fun x hx=> ?_,?_,fun w' d' g' c' b' vs' hk hv hs=> ?_⟩
  ·rcases List.mem_append.1 hx with h|h
   ·exact List.mem_append_left _ h
   ·exact List.mem_append_right _ (List.mem_append_left _ h)
  ·rw[Nds.len,Nat.zero_mul,List.drop_zero];rfl
  ·have hfar:∀b∈b2,b∉aU ga++b1:=fun b hb hx=>by
    rcases List.mem_append.1 hx with h|h
    ·exact hnd.2.2 b h b (List.mem_append_right _ hb) rfl
    ·exact hnd2.2.2 b h b hb rfl
   refine⟨aU g'++(b'++b2),⟨g',c',vs',us,b',b2,rfl,hv.own,hv.enc,?_,h5.al _ _ _ fun b hb=>hk b (List.mem_append_right _ (List.mem_append_right _ hb)) (hfar b hb)⟩,?_,fun b hb=> ?_⟩
   ·rw[Nds.len,Nat.zero_mul,List.take_zero,List.nil_append,Nat.zero_add];rfl
   ·rw[← List.append_assoc,List.nodup_append];refine⟨hv.nodup,hnd2.2.1,fun x hx y hy e=> ?_⟩;subst e;rcases hs x hx with h|h
    ·exact hfar x hy h
    ·have:=(h5.mem _ _ _ x hy).2;omega
   ·rw[← List.append_assoc]at hb;rcases List.mem_append.1 hb with h|h
    ·rcases hs b h with h2|h2
     ·left;rcases List.mem_append.1 h2 with h3|h3
      ·exact List.mem_append_left _ h3
      ·exact List.mem_append_right _ (List.mem_append_left _ h3)
     ·exact .inr h2
    ·exact .inl (List.mem_append_right _ (List.mem_append_right _ h))
 | .cons nm kd a sz v tx ks k1,d,r,bl,vs,he,hn=>by
  obtain⟨ga,cap,bs,us,b1,b2,rfl,h1,h3,rfl,h5⟩:=he;have hnd:=List.nodup_append.1 hn;have hnd2:=List.nodup_append.1 hnd.2.1;obtain⟨g2,c2,bb,vs2,i1,i2,i3,i4⟩:=aW.Ei k1 d r b2 us h5 hnd2.2.1;have e7:(k1.len+1) * 7=7+k1.len * 7:=by omega
  refine⟨g2,c2,bb,vs2,i1,fun x hx=>List.mem_append_right _ (List.mem_append_right _ (i2 x hx)),?_,fun w' d' g' c' b' vs' hk hv hs=> ?_⟩
  ·show((ae nm kd a sz v tx (.slice ga ks.len cap)++us).drop ((k1.len+1) * 7)).take 7=_;rw[e7,← List.drop_drop];exact i3
  ·obtain⟨bl',j1,j2,j3⟩:=i4 w' d' g' c' b' vs' (fun b hb hx=>hk b (List.mem_append_right _ (List.mem_append_right _ hb)) hx) hv hs;have k1':∀b∈aU ga++b1,b∉aU g2++bb:=fun b hb hx=>by
    have:=i2 b hx;rcases List.mem_append.1 hb with h|h
    ·exact hnd.2.2 b h b (List.mem_append_right _ this) rfl
    ·exact hnd2.2.2 b h b this rfl
   refine⟨aU ga++(b1++bl'),⟨ga,cap,bs,_,b1,bl',rfl,h1.al fun x hx=>hk _ (List.mem_append_left _ (by rw[hx];simp[aU])) (k1' _ (List.mem_append_left _ (by rw[hx];simp[aU]))),h3.al _ _ _ fun b hb=>hk b (List.mem_append_right _ (List.mem_append_left _ hb)) (k1' b (List.mem_append_right _ hb)),?_,j1⟩,?_,fun b hb=> ?_⟩
   ·show(ae nm kd a sz v tx (.slice ga ks.len cap)++us).take ((k1.len+1) * 7)++_++(ae nm kd a sz v tx (.slice ga ks.len cap)++us).drop ((k1.len+1) * 7+7)=_;rw[e7,show 7+k1.len * 7+7=7+(k1.len * 7+7) by omega,← List.drop_drop,List.take_add];show(ae nm kd a sz v tx (.slice ga ks.len cap)++us.take (k1.len * 7))++_++us.drop (k1.len * 7+7)=_;simp only[List.append_assoc]
   ·rw[← List.append_assoc,List.nodup_append];refine⟨lg hn,j2,fun x hx y hy e=> ?_⟩;subst e;rcases j3 x hy with h|h
    ·rcases List.mem_append.1 hx with h4|h4
     ·exact hnd.2.2 x h4 x (List.mem_append_right _ h) rfl
     ·exact hnd2.2.2 x h4 x h rfl
    ·rcases List.mem_append.1 hx with h4|h4
     ·obtain⟨y,rfl,rfl⟩:=ia h4;have:=h1.lt.2;omega
     ·have:=(h3.mem _ _ _ x h4).2;omega
   ·rw[← List.append_assoc]at hb;rcases List.mem_append.1 hb with h|h
    ·left;rcases List.mem_append.1 h with h4|h4
     ·exact List.mem_append_left _ h4
     ·exact List.mem_append_right _ (List.mem_append_left _ h4)
    ·rcases j3 b h with h4|h4
     ·exact .inl (List.mem_append_right _ (List.mem_append_right _ h4))
     ·exact .inr h4
def eh(w:World)(B nb:Nat)(d:Nd):Prop:=∃g c bl vs,ad w nb 0 28 (ae d.name d.kind d.at_ d.size d.val d.text (.slice g d.kids.len c))∧aQ w B d.kids g c bl vs∧nb∉aU g++bl
theorem rh{w:World}{g off:Nat}{e:TypeId}:∀(xs:List Value),ad w g off e xs→(w.setCells g off xs).heap[g]? =w.heap[g]? :=by
 intro xs h;obtain⟨cur,fz,h1,h2,h3⟩:=h
 by_cases hl:xs=[]
 ·subst hl;rfl
 ·have hle:off+xs.length≤cur.size:=by
   have hp:0 < xs.length:=List.length_pos_iff.2 hl;have h4:=h2 (xs.length - 1) (by omega);have h5:(xs[xs.length - 1]?).isSome=true:=by simp;omega
   rw[← h4]at h5;have:=(Array.getElem?_eq_some_iff.1 (Option.isSome_iff_exists.1 h5).choose_spec).1;omega
  obtain⟨cur',a1,a2,a3⟩:=iS g e fz xs off w cur h1 hle;rw[a1,h1];have:cur'=cur:=by
   apply Array.ext_getElem?;intro k;rw[a3 k];split
   ·rename_i hk
    rw[← h2 (k - off) (by omega)]
    congr 1;omega
   ·rfl
  rw[this]
theorem qt{w w':World}{g off:Nat}{e:TypeId}{xs:List Value}(h:ad w g off e xs)(ys:List Value)(hl:ys.length=xs.length)(hg:w'.heap[g]? =(w.setCells g off ys).heap[g]?):ad w' g off e ys:=by
 obtain⟨cur,fz,h1,h2,h3⟩:=h
 by_cases hn:ys=[]
 ·subst hn;exact⟨cur,fz,hg.trans h1,by simp,by simp⟩
 ·have hle:off+ys.length≤cur.size:=by
   have hp:0 < ys.length:=List.length_pos_iff.2 hn;have h4:=h2 (xs.length - 1) (by omega);have h5:(xs[xs.length - 1]?).isSome=true:=by simp;omega
   rw[← h4]at h5;have:=(Array.getElem?_eq_some_iff.1 (Option.isSome_iff_exists.1 h5).choose_spec).1;omega
  obtain⟨cur',a1,a2,a3⟩:=iS g e fz ys off w cur h1 hle;refine⟨cur',fz,hg.trans a1,fun i hi=> ?_,fun i hi=>h3 i (by omega)⟩;rw[a3,if_pos (by omega)]
  congr 1;omega
structure Foc(w:World)(B nb:Nat)(root:Nd)(p:List Nat)(gn on:Nat)(x:Nd)(g:Option Addr)(c:Nat)(bl:List Nat)(vs:List Value):Prop where
 row:ad w gn on 28 (ae x.name x.kind x.at_ x.size x.val x.text (.slice g x.kids.len c))
 kv:aQ w B x.kids g c bl vs
 off:gn∉aU g++bl
 get:Fx.bD p root=some x
 put:∀(w':World) (x':Nd) (g':Option Addr) (c':Nat) (bl':List Nat) (vs':List Value),w'.heap[gn]? =(w.setCells gn on (ae x'.name x'.kind x'.at_ x'.size x'.val x'.text (.slice g' x'.kids.len c'))).heap[gn]? →
  (∀b,b < w.heap.size→b≠gn→b∉aU g++bl→w'.heap[b]? =w.heap[b]?)→aQ w' B x'.kids g' c' bl' vs'→(∀b∈aU g'++bl',b∈aU g++bl∨w.heap.size≤b)→eh w' B nb (Fx.cB (fun _=>x') p root)
 base:B≤gn∨gn=nb
theorem eh.foc{w:World}{B nb:Nat}{d:Nd}(h:eh w B nb d):∃g c bl vs,Foc w B nb d [] nb 0 d g c bl vs:=by
 obtain⟨g,c,bl,vs,h1,h2,h3⟩:=h;refine⟨g,c,bl,vs,h1,h2,h3,rfl,fun w' x' g' c' bl' vs' hg hk hv hs=>⟨g',c',bl',vs',qt h1 _ rfl hg,hv,fun hm=> ?_⟩,.inr rfl⟩;rcases hs nb hm with h|h
 ·exact h3 h
 ·have:=h1.lt;omega
namespace Fx
theorem sA(f:Nd→Nd)(k:Nat):∀(p:List Nat) (d x:Nd),bD p d=some x→cB f (p++[k]) d=cB (fun _=>{x with kids:=atN f k x.kids}) p d
 |[],d,x,h=>by cases h;rfl
 |j::p,d,x,h=>by
  have h2:(nth j d.kids).bind (bD p)=some x:=h;obtain⟨y,h3,h4⟩:=Option.bind_eq_some_iff.1 h2;show({d with kids:=atN (cB f (p++[k])) j d.kids}:Nd)={d with kids:=atN (cB (fun _=>{x with kids:=atN f k x.kids}) p) j d.kids}
  congr 1
  have:∀(j:Nat) (X:Nds),nth j X=some y→atN (cB f (p++[k])) j X=atN (cB (fun _=>{x with kids:=atN f k x.kids}) p) j X:=by
   intro j X
   induction j generalizing X with
   |zero=>
    cases X with
    |nil=>intro h;cases h
    |cons a b c e f' g x' r=>
     intro h;cases h;show(cB f (p++[k]) _).put r=(cB _ p _).put r;rw[sA f k p _ x h4]
   |succ j ih=>
    cases X with
    |nil=>intro h;cases h
    |cons a b c e f' g x' r=>
     intro h;show Nds.cons a b c e f' g x' (atN _ j r)=Nds.cons a b c e f' g x' (atN _ j r);rw[ih r h]
  exact this j d.kids h3
theorem nH(k:Nat):∀(p:List Nat) (d x:Nd),bD p d=some x→bD (p++[k]) d=nth k x.kids
 |[],d,x,h=>by
  cases h;show(nth k d.kids).bind (bD [])=_;cases nth k d.kids <;> rfl
 |j::p,d,x,h=>by
  have h2:(nth j d.kids).bind (bD p)=some x:=h;obtain⟨y,h3,h4⟩:=Option.bind_eq_some_iff.1 h2;show(nth j d.kids).bind (bD (p++[k]))=_;rw[h3];exact nH k p y x h4
theorem sB(k:Nat):∀(p q:List Nat) (d x:Nd),bD p d=some x→nth k x.kids=none→bD (p++k::q) d=none
 |[],q,d,x,h,hn=>by
  cases h;show(nth k d.kids).bind (bD q)=none;rw[hn];rfl
 |j::p,q,d,x,h,hn=>by
  have h2:(nth j d.kids).bind (bD p)=some x:=h;obtain⟨y,h3,h4⟩:=Option.bind_eq_some_iff.1 h2;show(nth j d.kids).bind (bD (p++k::q))=_;rw[h3];exact sB k p q y x h4 hn
theorem tW(k1:Nds)(d:Nd)(r:Nds):nth k1.len (k1.app (d.put r))=some d:=by
 induction k1 with
 |nil=>rfl
 |cons a b c e f g x k1 _ ih=>exact ih
theorem FV(f:Nd→Nd)(k1:Nds)(d:Nd)(r:Nds):atN f k1.len (k1.app (d.put r))=k1.app ((f d).put r):=by
 induction k1 with
 |nil=>rfl
 |cons a b c e g h x k1 _ ih=>
  show Nds.cons a b c e g h x (atN f k1.len (k1.app (d.put r)))=Nds.cons a b c e g h x (k1.app ((f d).put r));rw[ih]
theorem qu:∀(k:Nat) (X:Nds),k < X.len→∃(k1:Nds) (d:Nd) (r:Nds),X=k1.app (d.put r)∧k1.len=k
 |k,.nil,h=>absurd h (Nat.not_lt_zero _)
 |0,.cons a b c e f g x r,_=>⟨.nil,⟨a,b,c,e,f,g,x⟩,r,rfl,rfl⟩
 |k+1,.cons a b c e f g x r,h=>by
  obtain⟨k1,d,r',h1,h2⟩:=qu k r (by simp only[Nds.len]at h;omega);exact⟨.cons a b c e f g x k1,d,r',by rw[h1];rfl,by simp only[Nds.len,h2]⟩
end Fx
theorem Foc.down{w:World}{B nb gn on gb c:Nat}{root x:Nd}{p:List Nat}{bl:List Nat}{vs:List Value}{k1:Nds}{d:Nd}{r:Nds}(h:Foc w B nb root p gn on x (some ⟨gb,0,none⟩) c bl vs)(hx:x.kids=k1.app (d.put r)):
  ∃g2 c2 b2 vs2,Foc w B nb root (p++[k1.len]) gb (k1.len * 7) d g2 c2 b2 vs2:=by
 obtain⟨h1,h2,h3,h4,h5,h55⟩:=h;have hnd:=List.nodup_append.1 h2.nodup;have he:=h2.enc;rw[hx]at he;obtain⟨g2,c2,b2,vs2,i1,i2,i3,i4⟩:=aW.Ei k1 d r bl vs he hnd.2.1;have hgb:gb∉bl:=fun hb=>hnd.2.2 gb (by simp[aU]) gb hb rfl
 have hrow:=h2.own.row.2.2.2.2.part (k1.len * 7) 7;rw[Nat.zero_add,i3]at hrow;have hlen:k1.len < x.kids.len:=by
  rw[hx,Nds.cX];show k1.len < k1.len+(r.len+1);omega
 have hvl:=h2.own.len;refine⟨g2,c2,b2,vs2,hrow,i1,fun hb=>hgb (i2 _ hb),by rw[Fx.nH _ p root x h4,hx];exact Fx.tW k1 d r,fun w' d' g' c' bl' vs' hg hk hv hs=> ?_,.inl h2.own.lt.1⟩;rw[Fx.sA _ _ p root x h4,hx,Fx.FV];obtain⟨bq,j1,j2,j3⟩:=i4 w' d' g' c' bl' vs' (fun b hb hn=>hk b (h2.enc.mem _ _ _ b hb).2 (fun e=>hgb (by rw[← e];exact hb)) hn) hv hs;have hgl:gb < w.heap.size:=h2.own.lt.2;have hown:an w' B 28 7 (some ⟨gb,0,none⟩) x.kids.len c (vs.take (k1.len * 7)++ae d'.name d'.kind d'.at_ d'.size d'.val d'.text (.slice g' d'.kids.len c')++vs.drop (k1.len * 7+7)):=by
  have h6:=an.setCells (ae d'.name d'.kind d'.at_ d'.size d'.val d'.text (.slice g' d'.kids.len c')) (k1.len * 7) w vs h2.own (by rw[hvl,Eh];omega);rw[Eh]at h6;exact h6.al fun y hy=>by cases hy;exact hg
 have hkv:aQ w' B (k1.app (d'.put r)) (some ⟨gb,0,none⟩) c bq (vs.take (k1.len * 7)++ae d'.name d'.kind d'.at_ d'.size d'.val d'.text (.slice g' d'.kids.len c')++vs.drop (k1.len * 7+7)):=by
  refine⟨?_,j1,?_⟩
  ·have e:(k1.app (d'.put r)).len=x.kids.len:=by rw[hx,Nds.cX,Nds.cX];rfl
   rw[e];exact hown
  ·show(gb::bq).Nodup;rw[List.nodup_cons];refine⟨fun hb=> ?_,j2⟩;rcases j3 gb hb with h|h
   ·exact hgb h
   ·omega
 have hgn:gn≠gb:=fun e=>h3 (by rw[e];simp[aU])
 have hgnb:gn∉bl:=fun hb=>h3 (List.mem_append_right _ hb)
 refine h5 w' {x with kids:=k1.app (d'.put r)} (some ⟨gb,0,none⟩) c bq _ ?_ ?_ hkv ?_
 ·have e:(k1.app (d'.put r)).len=x.kids.len:=by rw[hx,Nds.cX,Nds.cX];rfl
  simp only[];rw[e,rh _ h1];exact hk gn h1.lt hgn (fun hb=>hgnb (i2 _ hb))
 ·intro b hb hbn hbm;exact hk b hb (fun e=>hbm (by rw[e];simp[aU])) (fun hb2=>hbm (List.mem_append_right _ (i2 _ hb2)))
 ·intro b hb;rcases List.mem_append.1 hb with h|h
  ·exact .inl (List.mem_append_left _ h)
  ·rcases j3 b h with h|h
   ·exact .inl (List.mem_append_right _ h)
   ·exact .inr h
namespace Fx
open Tm Ly
def Tdy:Nds→Prop
 | .nil=>True
 | .cons _ kd _ _ _ _ ks r=>(kd=1∨kd=2→ks= .nil)∧Tdy ks∧Tdy r
theorem Tdy.nth:∀{k:Nat} {X:Nds} {d:Nd},Tdy X→nth k X=some d→(d.kind=1∨d.kind=2→d.kids= .nil)∧Tdy d.kids
 |k,.nil,d,_,h=>by cases k <;> cases h
 |0,.cons a b c e f g x r,d,ht,h=>by cases h;exact⟨ht.1,ht.2.1⟩
 |k+1,.cons a b c e f g x r,d,ht,h=>Tdy.nth (k:=k) ht.2.2 h
theorem zi:∀(r:List Ty) (nm:Wd) (ks:Nds),(wrS r nm ks).isSome=true→∃t∈r,t.name=nm∧∃r':List Ty,(∀x∈r',x∈r)∧(aH (wrS r') t.items ks).isSome=true∧∀p,itS r nm p=km (itS r') t.items p
 |[],nm,ks,h=>by cases h
 |t::r,nm,ks,h=>by
  unfold wrS at h
  by_cases hn:t.name=nm
  ·rw[if_pos hn]at h;refine⟨t,by simp,hn,r,fun x hx=>by simp[hx],h,fun p=> ?_⟩;show(if t.name=nm then _ else _)=_;rw[if_pos hn]
  ·rw[if_neg hn]at h;obtain⟨t2,h1,h2,r',h3,h4,h5⟩:=zi r nm ks h;refine⟨t2,by simp[h1],h2,r',fun x hx=>by simp[h3 x hx],h4,fun p=> ?_⟩;show(if t.name=nm then _ else _)=_;rw[if_neg hn];exact h5 p
theorem tX:∀(l:Its) (k:Nat) (h:Hd) (l':Its) (R:Itf) (p:List Nat),l.drop k= .cons h l'→km R l (k::p)=hdI R h p
 | .nil,k,h,l',R,p,hd=>by cases k <;> cases hd
 | .cons h0 l,0,h,l',R,p,hd=>by cases hd;rfl
 | .when _ _ _ l,0,h,l',R,p,hd=>by cases hd
 | .cons h0 l,k+1,h,l',R,p,hd=>tX l k h l' R p hd
 | .when _ _ _ l,k+1,h,l',R,p,hd=>tX l k h l' R p hd
theorem tY:∀(l:Its) (k a:Nat) (c:Ex.X) (b l':Its) (R:Itf) (p:List Nat),l.drop k= .when a c b l'→km R l (k::p)=km R b p
 | .nil,k,a,c,b,l',R,p,hd=>by cases k <;> cases hd
 | .cons h0 l,0,a,c,b,l',R,p,hd=>by cases hd
 | .when _ _ _ l,0,a,c,b,l',R,p,hd=>by cases hd;rfl
 | .cons h0 l,k+1,a,c,b,l',R,p,hd=>tY l k a c b l' R p hd
 | .when _ _ _ l,k+1,a,c,b,l',R,p,hd=>tY l k a c b l' R p hd
theorem qv:∀(l:Its) (X:Nds) (k:Nat) (W:Wri) (d:Nd),(aH W l X).isSome=true→nth k X=some d→(∃h l',l.drop k= .cons h l'∧(bc W h d).isSome=true)∨∃a c b l',l.drop k= .when a c b l'∧d.kind=4∧(d.val≠0→(aH W b d.kids).isSome=true)∧(d.val=0→d.kids= .nil)
 |l,.nil,k,W,d,_,h=>by cases k <;> cases h
 | .nil,.cons ..,k,W,d,hw,_=>by cases hw
 | .cons h l,.cons a b c e f g x r,0,W,d,hw,hn=>by cases hn;exact .inl ⟨h,l,rfl,(cg hw).1⟩
 | .when a0 c0 b0 l,.cons a b c e f g x r,0,W,d,hw,hn=>by
  cases hn;have hb:b=4:=by
   unfold aH at hw;split at hw
   ·cases hw
   ·rename_i hno
    rw[not_or]at hno;exact Classical.not_not.1 hno.2
  exact .inr ⟨a0,c0,b0,l,rfl,hb,(bF hw).1,(bF hw).2.1⟩
 | .cons h l,.cons a b c e f g x r,k+1,W,d,hw,hn=>qv l r k W d (cg hw).2 hn
 | .when a0 c0 b0 l,.cons a b c e f g x r,k+1,W,d,hw,hn=>qv l r k W d (bF hw).2.2 hn
end Fx
theorem jD{w w':World}{g:Nat}:∀(xs:List Value) (o:Nat) (w w':World),w'.heap[g]? =w.heap[g]? →(w'.setCells g o xs).heap[g]? =(w.setCells g o xs).heap[g]?
 |[],o,w,w',h=>h
 |v::r,o,w,w',h=>jD (w:=w) (w':=w') r (o+1) _ _ (by simp[World.setCell,Array.getElem?_modify,h])
theorem Foc.up{w w1:World}{B nb gn on c:Nat}{root x:Nd}{p:List Nat}{g:Option Addr}{bl:List Nat}{vs:List Value}(h:Foc w B nb root p gn on x g c bl vs)(hb:Below w.heap.size w w1):Foc w1 B nb root p gn on x g c bl vs:=by
 refine⟨h.row.below hb h.row.lt,h.kv.al fun b _ hl=>hb.block b hl,h.off,h.get,fun w' x' g' c' bl' vs' hg hk hv hs=>h.put w' x' g' c' bl' vs' ?_ (fun b hbl hn hm=>(hk b (Nat.lt_of_lt_of_le hbl hb.size) hn hm).trans (hb.block b hbl)) hv (fun b hbm=>(hs b hbm).imp id (fun h2=>Nat.le_trans hb.size h2)),h.base⟩;rw[hg];exact jD (w:=w) (w':=w1) _ _ _ _ (hb.block gn h.row.lt)
inductive Cxt(U:World)(rb:Nat)(tys:List Tm.Ty)(root:Tm.Wd)(x:Nd)(q:List Nat)(lv xv:Value):Prop where
 |leaf (h:x.kids= .nil)
 |its (l:Tm.Its) (r:List Tm.Ty) (gi:Option Addr) (capi:Nat) (bs:List Value) (hlv:lv= .slice gi l.len capi) (hk:x.kind≠9) (hr:∀t∈r,t∈tys) (hw:(aH (wrS r) l x.kids).isSome=true) (ho:an U (rb+1) 70 13 gi l.len capi bs) (he:Tm.bp U rb l bs)
   (hi:∀k p,Fx.itS tys.reverse root (q++k::p)=Fx.km (Fx.itS r) l (k::p))
 |lst (h:Tm.Hd) (r:List Tm.Ty) (gx ox:Nat) (cv:Value) (hxv:xv= .pointer (some ⟨gx,ox,none⟩)) (hrow:ad U gx ox 70 (Tm.ag h cv)) (hk:x.kind=9) (hr:∀t∈r,t∈tys) (hw:(cO (aY (wrS r) h) x.kids).isSome=true)
   (hi:∀k p,Fx.itS tys.reverse root (q++k::p)=Fx.gf (Fx.itS r) h p)
inductive Itm(U:World)(tys:List Tm.Ty)(root:Tm.Wd)(x:Nd)(q:List Nat)(gx ox:Nat):Prop where
 |hd (h:Tm.Hd) (cv:Value) (hrow:ad U gx ox 70 (Tm.ag h cv)) (hi:Fx.itS tys.reverse root q=some h) (hk:x.kind=kNo h.k∨x.kind=9)
 |wh (ai:Nat) (cv sv:Value) (hrow:ad U gx ox 70 (Tm.au ai cv sv)) (hk:x.kind=4)
inductive Ej(U:World)(rb:Nat)(tys:List Tm.Ty)(root:Tm.Wd)(d:Nd)(q:List Nat)(gx ox:Nat):Prop where
 |wh (ai:Nat) (cv:Value) (gc:Option Addr) (nc cc:Nat) (hrow:ad U gx ox 70 (Tm.au ai cv (.slice gc nc cc))) (hc:Cxt U rb tys root d q (.slice gc nc cc) (.pointer (some ⟨gx,ox,none⟩)))
 |st (h:Tm.Hd) (cv:Value) (t:Tm.Ty) (hrow:ad U gx ox 70 (Tm.ag h cv)) (hk:h.k= .struct t.name) (hd:d.kind=3) (ht:t∈tys) (hc:∀gi capi bs,an U (rb+1) 70 13 gi t.items.len capi bs→Tm.bp U rb t.items bs→Cxt U rb tys root d q (.slice gi t.items.len capi) (.pointer (some ⟨gx,ox,none⟩)))
 |no (h:Tm.Hd) (cv:Value) (hrow:ad U gx ox 70 (Tm.ag h cv)) (hk:(∀t,h.k≠.struct t)∨d.kind≠3) (hc:∀lv,Cxt U rb tys root d q lv (.pointer (some ⟨gx,ox,none⟩)))
theorem wL{U:World}{rb:Nat}{tys:List Tm.Ty}{root:Tm.Wd}{d:Nd}{q:List Nat}{gx ox:Nat}{h:Tm.Hd}{cv:Value}{r:List Tm.Ty}(hrow:ad U gx ox 70 (Tm.ag h cv))(hr:∀t∈r,t∈tys)(hw:(aY (wrS r) h d).isSome=true)(ht:d.kind=1∨d.kind=2→d.kids= .nil)(hi:∀p,Fx.itS tys.reverse root (q++p)=Fx.gf (Fx.itS r) h p):Ej U rb tys root d q gx ox∧d.kind=kNo h.k:=by
 obtain⟨u,hu⟩:=Option.isSome_iff_exists.1 hw;obtain⟨_,hkd,_⟩:=ik hu;refine⟨?_,hkd⟩;cases hk:h.k with
 |scalar w0=>exact .no h cv hrow (.inl fun t e=>by rw[hk]at e;cases e) fun lv=> .leaf (ht (.inl (by rw[hkd,hk];rfl)))
 |bytes=>exact .no h cv hrow (.inl fun t e=>by rw[hk]at e;cases e) fun lv=> .leaf (ht (.inr (by rw[hkd,hk];rfl)))
 |struct t0=>
  obtain⟨t,h1,rfl,r',h3,h4,h5⟩:=Fx.zi r t0 d.kids (Fx.bt hk hw);have hd3:d.kind=3:=by rw[hkd,hk];rfl
  refine .st h cv t hrow hk hd3 (hr t h1) fun gi capi bs ho he=> .its t.items r' gi capi bs rfl (by omega) (fun x hx=>hr x (h3 x hx)) h4 ho he fun k p=> ?_
  rw[hi (k::p),← h5];show(match h.k with| .struct t=>Fx.itS r t (k::p)|_=>none)=_;rw[hk]
theorem FW{U:World}{rb:Nat}{tys:List Tm.Ty}{root:Tm.Wd}{x d:Nd}{q:List Nat}{k gi capi:Nat}{bs:List Value}{l:Tm.Its}{r:List Tm.Ty}(hn:Fx.nth k x.kids=some d)(htd:(d.kind=1∨d.kind=2→d.kids= .nil))(hr:∀t∈r,t∈tys)(hw:(aH (wrS r) l x.kids).isSome=true)(ho:an U (rb+1) 70 13 (some ⟨gi,0,none⟩) l.len capi bs)(he:Tm.bp U rb l bs)
  (hi:∀k p,Fx.itS tys.reverse root (q++k::p)=Fx.km (Fx.itS r) l (k::p)):Ej U rb tys root d (q++[k]) gi (k * 13)∧Itm U tys root d (q++[k]) gi (k * 13):=by
 rcases Fx.qv l x.kids k (wrS r) d hw hn with⟨h,l',hd,hp⟩|⟨a,c,b,l',hd,hk4,hv1,hv0⟩
 ·obtain⟨cv,_,hrow,_⟩:=Tm.bp.hd ho he hd;have hi2:∀p,Fx.itS tys.reverse root (q++[k]++p)=Fx.hdI (Fx.itS r) h p:=fun p=>by
   rw[List.append_assoc];show Fx.itS tys.reverse root (q++k::p)=_;rw[hi k p,Fx.tX l k h l' _ p hd]
  have hi0:Fx.itS tys.reverse root (q++[k])=some h:=by have:=hi2 [];rw[List.append_nil]at this;exact this
  unfold bc at hp
  by_cases hm:Tm.cI h=true
  ·rw[if_pos hm]at hp;split at hp
   ·cases hp
   ·rename_i hno
    rw[not_or]at hno;have hk9:d.kind=9:=Classical.not_not.1 hno.2;refine⟨.no h cv hrow (.inr (by omega)) fun lv=> .lst h r gi (k * 13) cv rfl hrow hk9 hr hp fun k2 p=> ?_,.hd h cv hrow hi0 (.inr hk9)⟩;rw[hi2 (k2::p)];show(if Tm.cI h then Fx.gf (Fx.itS r) h p else _)=_;rw[if_pos hm]
  ·rw[if_neg hm]at hp;have h3:=wL (rb:=rb) (q:=q++[k]) hrow hr hp htd (fun p=>by
    rw[hi2 p];cases p with
    |nil=>rfl
    |cons k2 p=>
     show(if Tm.cI h then _ else Fx.gf (Fx.itS r) h (k2::p))=_;rw[if_neg hm])
   exact⟨h3.1,.hd h cv hrow hi0 (.inl h3.2)⟩
 ·obtain⟨cb,gc,capc,bsc,hxc,hoc,hec,hrow,_⟩:=Tm.bp.wh ho he hd;refine⟨.wh a _ gc b.len capc hrow ?_,.wh a _ _ hrow hk4⟩
  by_cases hv:d.val=0
  ·exact .leaf (hv0 hv)
  ·refine .its b r gc capc bsc rfl (by omega) hr (hv1 hv) hoc hec fun k2 p=> ?_
   rw[List.append_assoc];show Fx.itS tys.reverse root (q++k::(k2::p))=_;rw[hi k (k2::p),Fx.tY l k a c b l' _ _ hd]
theorem FX{U:World}{rb:Nat}{tys:List Tm.Ty}{root:Tm.Wd}{x d:Nd}{q:List Nat}{k gx ox:Nat}{cv:Value}{h:Tm.Hd}{r:List Tm.Ty}(hn:Fx.nth k x.kids=some d)(htd:(d.kind=1∨d.kind=2→d.kids= .nil))(hrow:ad U gx ox 70 (Tm.ag h cv))(hr:∀t∈r,t∈tys)(hw:(cO (aY (wrS r) h) x.kids).isSome=true)
  (hi:∀k p,Fx.itS tys.reverse root (q++k::p)=Fx.gf (Fx.itS r) h p):Ej U rb tys root d (q++[k]) gx ox∧Itm U tys root d (q++[k]) gx ox:=by
 have hp:=Fx.me k _ _ hw hn;have hi2:∀p,Fx.itS tys.reverse root (q++[k]++p)=Fx.gf (Fx.itS r) h p:=fun p=>by
  rw[List.append_assoc];exact hi k p
 have hi0:Fx.itS tys.reverse root (q++[k])=some h:=by have:=hi2 [];rw[List.append_nil]at this;exact this
 have h3:=wL (rb:=rb) (q:=q++[k]) hrow hr hp htd hi2;exact⟨h3.1,.hd h cv hrow hi0 (.inl h3.2)⟩
end
section
open Go.RowKit
def RdI(w:World)(a:Option Addr)(L:List Int):Prop:=∀i,i < L.length→∃x:Addr,a=some x∧x.block < w.heap.size∧w.cell? (x.add i)=some (.int .i64 (L.getD i 0))
theorem getD_take(L:List Int)(n i:Nat)(h:i < n):(L.take n).getD i 0=L.getD i 0:=by
 simp only[List.getD_eq_getElem?_getD,List.getElem?_take];rw[if_pos h]
theorem gG.rd{w:World}{a:Option Addr}{n c:Nat}{zs:List Int}(h:gG .i64 w a n c zs):RdI w a (zs.take n):=by
 intro i hi;rw[List.length_take]at hi;obtain⟨x,h1,h2,h3⟩:=h.cell i (by omega);exact⟨x,h1,h2,by rw[getD_take _ _ _ (by omega)];exact h3⟩
theorem gG.take_len{w:World}{a:Option Addr}{n c:Nat}{zs:List Int}(h:gG .i64 w a n c zs):(zs.take n).length=n:=by
 have:=h.len;rw[List.length_take];omega
theorem RdI.below{w w':World}{a:Option Addr}{L:List Int}(h:RdI w a L){B:Nat}(hb:Below B w w')(hB:w.heap.size≤B):RdI w' a L:=by
 intro i hi;obtain⟨x,h1,h2,h3⟩:=h i hi;refine⟨x,h1,Nat.lt_of_lt_of_le (Nat.lt_of_lt_of_le h2 (Z5 _)) hb.size,?_⟩;rw[World.cell?_of_block (w:=w) (w':=w') (a:=x.add i)]
 ·exact h3
 ·rw[Addr.cM];exact hb.block _ (Nat.lt_of_lt_of_le h2 hB)
theorem add_lit(b o i:Nat):(⟨b,o,none⟩:Addr).add i=⟨b,o+i,none⟩:=by
 unfold Addr.add;split <;> simp_all
theorem iw.rd{w:World}{a:Option Addr}{L:List Int}(h:iw w a L):RdI w a L:=by
 intro i hi;rcases h with h|⟨g,off,h1,hc⟩
 ·subst h;simp at hi
 ·refine⟨_,h1,?_,?_⟩
  ·have:=World.block_lt_of_cell? w _ (hc i hi);exact this
  ·rw[add_lit];exact hc i hi
end
end Go.Proofs.YtlomecfhobehnaaGreatDoor
