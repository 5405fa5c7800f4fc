import Derived.Test.YtlomecfhobehnaaGreatDoorMgFixSets7
set_option linter.unusedVariables false
set_option linter.unusedSimpArgs false
namespace Go.Proofs.YtlomecfhobehnaaGreatDoor
open Lib (hid)
section
namespace Tm
open Ex
def ca:X→List Wd
 | .num _ _=>[]
 | .name _ s=>[s]
 | .bin _ _ l r=>ca l++ca r
def dV:Option X→List Wd
 |none=>[]
 |some x=>ca x
structure Sk where
 wh:Bool
 name:Wd
 ax:Rl
 many:Bool
 w4:Bool
def w4K:Knd→Bool
 | .scalar w=>decide (((kindOf w).getD (0,0,false)).1=4)&& !((kindOf w).getD (0,0,false)).2.2
 |_=>false
def cI(h:Hd):Bool:=match h.k,h.cnt with
 | .bytes,_=>false
 |_,some _=>true
 |_,none=>false
def skH(h:Hd):Sk:=⟨false,h.name,h.ax,cI h,w4K h.k⟩
def skW:Sk:=⟨true,[],.none,false,false⟩
def Its.row:Its→List Sk
 | .nil=>[]
 | .cons h l=>skH h::l.row
 | .when _ _ _ l=>skW::l.row
def called(w:Wd)(s:Sk):Bool:= !s.wh&&s.name==w
def aV(R:List Sk)(w:Wd):Int:=match R.findIdx? (called w)with
 |some k=>(k:Int)
 |none=> -1
def aJ:Rl→Bool
 | .check _ _=>true
 |_=>false
def bT:Rl→Bool
 | .count _=>true
 |_=>false
def isNone:Rl→Bool
 | .none=>true
 |_=>false
def bg:Rl→Wd
 | .none=>[]
 | .size f=>f
 | .count f=>f
 | .check f _=>f
def cW:Rl→Wd
 | .check _ l=>l
 |_=>[]
def dc(R:List Sk)(r:Rl):Int:=if aJ r then aV R (cW r)else aV R (bg r)
def mL(R:List Sk)(k:Int):Bool:=match R[k.toNat]? with
 |some s=>s.many
 |none=>false
def bw(R:List Sk)(i:Nat)(s:Sk):Option Nat:=
 if isNone s.ax then none else
 if aV R (bg s.ax) < 0∨dc R s.ax < 0 then some 7 else
 if(bT s.ax&& !mL R (aV R (bg s.ax)))||(aJ s.ax&& !s.w4)then some 13 else
 if dc R s.ax < aV R (bg s.ax)then some 10 else
 if aV R (bg s.ax)≤(i:Int)∧(i:Int)≤dc R s.ax then some 6 else none
def dL(R:List Sk):Nat→List Sk→Option Nat
 |_,[]=>none
 |i,s::l=>match bw R i s with
  |some e=>some e
  |none=>dL R (i+1) l
def eC(R:List Sk)(i k:Nat):Bool:=match R[i]? with
 |some s=>aJ s.ax&&decide (aV R (bg s.ax)≤(k:Int))&&decide ((k:Int)≤aV R (cW s.ax))
 |none=>false
def bK(R:List Sk)(k:Nat):Bool:=match R[k]? with
 |some s=>aJ s.ax
 |none=>false
def eM(R:List Sk):Nat→Nat→Nat→Bool
 |0,_,_=>false
 |n+1,i,to=>(List.range R.length).any fun k=>eC R i k&&(k==to||(bK R k&&eM R n k to))
def cyc(R:List Sk):Nat→List Sk→Option Nat
 |_,[]=>none
 |i,s::l=>if aJ s.ax&&eM R R.length i i then some 11 else cyc R (i+1) l
def dr(R:List Sk):Option Nat:=match dL R 0 R with
 |some e=>some e
 |none=>cyc R 0 R
def asks(seen ns:List Wd):Bool:=ns.all fun n=>seen.contains n
def kt(ts:List Wd):Knd→Bool
 | .struct t=> !ts.contains t
 |_=>false
def single(h:Hd):Bool:=match h.k,h.cnt with
 | .scalar _,none=>true
 |_,_=>false
inductive Res where
 |bad (e:Nat)
 |ok (ns seen:List Wd)
def bC(ts:List Wd):Its→List Wd→List Wd→Res
 | .nil,ns,seen=> .ok ns seen
 | .cons h l,ns,seen=>if ns.contains h.name then .bad 9 else if kt ts h.k then .bad 7 else if asks seen (dV h.cnt)then bC ts l (h.name::ns) (if single h then seen++[h.name]else seen)else .bad 5
 | .when _ c b l,ns,seen=>if asks seen (ca c)then
   match bC ts b ns seen with
   | .bad e=> .bad e
   | .ok ns' _=>match dr b.row with
    |some e=> .bad e
    |none=>bC ts l ns' seen
  else .bad 5
def chk:List Wd→List Ty→Option Nat
 |_,[]=>none
 |ts,t::r=>if ts.contains t.name then some 9 else match bC ts t.items [] []with
  | .bad e=>some e
  | .ok _ _=>match dr t.items.row with
   |some e=>some e
   |none=>chk (t.name::ts) r
variable{f:Wd→Wd}
def kM(f:Wd→Wd):Prop:=∀u w,aN u=true→aN w=true→f u=f w→u=w
theorem Ren.inj(hf:Ren f)(hi:kM f){u w:Wd}(hu:aN u=true):f u=f w↔u=w:=by
 constructor
 ·intro h
  by_cases hw:aN w=true
  ·exact hi u w hu hw h
  ·rw[hf.zC w (by simpa using hw)]at h;rw[← h]at hw;exact absurd (hf.name u hu) hw
 ·rintro rfl;rfl
def Sk.ren(f:Wd→Wd)(s:Sk):Sk:=⟨s.wh,f s.name,mG f s.ax,s.many,s.w4⟩
def qP(s:Sk):Prop:=s.wh=true∨aN s.name=true
theorem xO(hf:Ren f)(hi:kM f){s:Sk}(hs:qP s)(w:Wd):called (f w) (s.ren f)=called w s:=by
 unfold called Sk.ren;rcases hs with h|h
 ·simp only[h,Bool.not_true,Bool.false_and]
 ·congr 1
  rw[Bool.eq_iff_iff,beq_iff_eq,beq_iff_eq];exact hf.inj hi h
theorem gY(hf:Ren f)(hi:kM f){R:List Sk}(hR:∀s∈R,qP s)(w:Wd):aV (R.map (Sk.ren f)) (f w)=aV R w:=by
 unfold aV;have:(R.map (Sk.ren f)).findIdx? (called (f w))=R.findIdx? (called w):=by
  induction R with
  |nil=>rfl
  |cons s R ih=>
   rw[List.map_cons,List.findIdx?_cons,List.findIdx?_cons,xO hf hi (hR s (by simp)),ih (fun t ht=>hR t (by simp[ht]))]
 rw[this]
theorem eW(r:Rl):aJ (mG f r)=aJ r:=by cases r <;> rfl
theorem uP(r:Rl):bT (mG f r)=bT r:=by cases r <;> rfl
theorem kN(hf:Ren f)(r:Rl):bg (mG f r)=f (bg r):=by
 cases r with
 |none=>exact(hf.zC [] (by decide)).symm
 |_=>rfl
theorem rD(hf:Ren f)(r:Rl):cW (mG f r)=f (cW r):=by
 cases r with
 |check=>rfl
 |_=>exact(hf.zC [] (by decide)).symm
theorem xP(r:Rl):isNone (mG f r)=isNone r:=by cases r <;> rfl
theorem Ba(hf:Ren f)(hi:kM f){R:List Sk}(hR:∀s∈R,qP s)(r:Rl):dc (R.map (Sk.ren f)) (mG f r)=dc R r:=by
 unfold dc;rw[eW,rD hf,kN hf,gY hf hi hR,gY hf hi hR]
theorem xQ(R:List Sk)(k:Int):mL (R.map (Sk.ren f)) k=mL R k:=by
 unfold mL;rw[List.getElem?_map];cases R[k.toNat]? <;> rfl
theorem Bb(hf:Ren f)(hi:kM f){R:List Sk}(hR:∀s∈R,qP s)(i:Nat)(s:Sk):bw (R.map (Sk.ren f)) i (s.ren f)=bw R i s:=by
 unfold bw;have e1:(s.ren f).ax=mG f s.ax:=rfl;have e2:(s.ren f).w4=s.w4:=rfl;rw[e1,e2,Ba hf hi hR,kN hf,gY hf hi hR,eW,uP,xQ,xP]
theorem pk(hf:Ren f)(hi:kM f){R:List Sk}(hR:∀s∈R,qP s):∀(l:List Sk) (i:Nat),dL (R.map (Sk.ren f)) i (l.map (Sk.ren f))=dL R i l
 |[],i=>rfl
 |s::l,i=>by
  rw[List.map_cons];unfold dL;rw[Bb hf hi hR,pk hf hi hR l]
theorem Bc(hf:Ren f)(hi:kM f){R:List Sk}(hR:∀s∈R,qP s)(i k:Nat):eC (R.map (Sk.ren f)) i k=eC R i k:=by
 unfold eC;rw[List.getElem?_map];cases R[i]? with
 |none=>rfl
 |some s=>
  have e1:(s.ren f).ax=mG f s.ax:=rfl;simp only[Option.map_some,e1];rw[eW,rD hf,kN hf,gY hf hi hR,gY hf hi hR]
theorem uQ(R:List Sk)(k:Nat):bK (R.map (Sk.ren f)) k=bK R k:=by
 unfold bK;rw[List.getElem?_map];cases R[k]? with
 |none=>rfl
 |some s=>exact eW s.ax
theorem po(hf:Ren f)(hi:kM f){R:List Sk}(hR:∀s∈R,qP s):∀n i to,eM (R.map (Sk.ren f)) n i to=eM R n i to
 |0,i,to=>rfl
 |n+1,i,to=>by
  unfold eM;rw[List.length_map]
  congr 1
  funext k
  rw[Bc hf hi hR,uQ,po hf hi hR n]
theorem zH(hf:Ren f)(hi:kM f){R:List Sk}(hR:∀s∈R,qP s):∀(l:List Sk) (i:Nat),cyc (R.map (Sk.ren f)) i (l.map (Sk.ren f))=cyc R i l
 |[],i=>rfl
 |s::l,i=>by
  rw[List.map_cons];unfold cyc;have e1:(s.ren f).ax=mG f s.ax:=rfl;rw[e1,eW,List.length_map,po hf hi hR,zH hf hi hR l]
theorem pq(hf:Ren f)(hi:kM f){R:List Sk}(hR:∀s∈R,qP s):dr (R.map (Sk.ren f))=dr R:=by
 unfold dr;rw[pk hf hi hR,zH hf hi hR]
theorem oy(hf:Ren f)(hi:kM f){l:List Wd}(hl:∀w∈l,aN w=true)(n:Wd):(l.map f).contains (f n)=l.contains n:=by
 rw[Bool.eq_iff_iff,List.contains_iff_mem,List.contains_iff_mem,List.mem_map];constructor
 ·rintro⟨a,h1,h2⟩;rw[← (hf.inj hi (hl a h1)).1 h2];exact h1
 ·intro h;exact⟨n,h,rfl⟩
theorem uR(hf:Ren f)(hi:kM f){seen:List Wd}(hl:∀w∈seen,aN w=true)(ns:List Wd):asks (seen.map f) (ns.map f)=asks seen ns:=by
 unfold asks;rw[List.all_map]
 congr 1
 funext n
 exact oy hf hi hl n
theorem iD:∀{x y:X},A0 f x y→ca y=(ca x).map f
 | .num _ _,.num _ _,_=>rfl
 | .name _ s,.name _ t,h=>by rw[show t=f s from h];rfl
 | .bin _ _ l r,.bin _ _ l' r',h=>by
  obtain⟨_,h1,h2⟩:=h;show ca l'++ca r'=_;rw[iD h1,iD h2];show _=(ca l++ca r).map f;rw[List.map_append]
 | .num _ _,.name _ _,h=>h.elim
 | .num _ _,.bin _ _ _ _,h=>h.elim
 | .name _ _,.num _ _,h=>h.elim
 | .name _ _,.bin _ _ _ _,h=>h.elim
 | .bin _ _ _ _,.num _ _,h=>h.elim
 | .bin _ _ _ _,.name _ _,h=>h.elim
theorem xR{x y:Option X}(h:Gm f x y):dV y=(dV x).map f:=by
 cases x with
 |none=>
  cases y with
  |none=>rfl
  |some b=>exact h.elim
 |some a=>
  cases y with
  |none=>exact h.elim
  |some b=>exact iD h
theorem rE{x y:Option X}(h:Gm f x y):y.isSome=x.isSome:=by
 cases x <;> cases y <;> first|rfl|exact h.elim
theorem lE(h:Hd):cI h=(match h.k with| .bytes=>false|_=>h.cnt.isSome):=by
 unfold cI;cases h.k <;> cases h.cnt <;> rfl
theorem eN(h:Hd):single h=(match h.k with| .scalar _=> !h.cnt.isSome|_=>false):=by
 unfold single;cases h.k <;> cases h.cnt <;> rfl
theorem EX{a b:Hd}(h:G' f a b):skH b=(skH a).ren f:=by
 obtain⟨h1,h2,h3,h4⟩:=h;unfold skH Sk.ren;simp only[];rw[lE,lE,h1,h2,h4,rE h3];cases a.k <;> rfl
theorem zI(hf:Ren f){l m:Its}(h:qO f l m):m.row=l.row.map (Sk.ren f):=by
 induction h with
 |nil=>rfl
 |cons hh _ ih=>
  show skH _::_=_;rw[EX hh,ih];rfl
 |when _ _ _ _ ih=>
  show skW::_=_;rw[ih];show _=skW.ren f::_
  congr 1
  unfold Sk.ren skW;simp only[mG];rw[hf.zC [] (by decide)]
theorem s8:∀{l:Its},bB l→∀s∈l.row,qP s
 | .nil,_,s,hs=>by cases hs
 | .cons h l,hf,s,hs=>by
  rcases List.mem_cons.1 hs with rfl|hs
  ·exact .inr hf.1.2.1.2
  ·exact s8 hf.2 s hs
 | .when _ _ _ l,hf,s,hs=>by
  rcases List.mem_cons.1 hs with rfl|hs
  ·exact .inl rfl
  ·exact s8 hf.2.2 s hs
theorem Be(hf:Ren f)(hi:kM f){ts:List Wd}(hl:∀w∈ts,aN w=true)(k:Knd):kt (ts.map f) (Gn f k)=kt ts k:=by
 cases k with
 |struct t=>show(!_)=(!_);rw[oy hf hi hl]
 |_=>rfl
def Res.ren(f:Wd→Wd):Res→Res
 | .bad e=> .bad e
 | .ok ns seen=> .ok (ns.map f) (seen.map f)
theorem iF{ts:List Wd}:∀{l:Its} {ns seen ns' seen':List Wd},bB l→(∀w∈ns,aN w=true)→(∀w∈seen,aN w=true)→bC ts l ns seen= .ok ns' seen'→(∀w∈ns',aN w=true)∧(∀w∈seen',aN w=true)
 | .nil,ns,seen,ns',seen',_,h1,h2,h=>by
  unfold bC at h;cases h;exact⟨h1,h2⟩
 | .cons a l,ns,seen,ns',seen',hf,h1,h2,h=>by
  unfold bC at h;split at h
  ·cases h
  ·split at h
   ·cases h
   ·split at h
    ·refine iF hf.2 ?_ ?_ h
     ·intro w hw;rcases List.mem_cons.1 hw with rfl|hw
      ·exact hf.1.2.1.2
      ·exact h1 w hw
     ·intro w hw;split at hw
      ·rcases List.mem_append.1 hw with hw|hw
       ·exact h2 w hw
       ·rw[List.mem_singleton]at hw;rw[hw];exact hf.1.2.1.2
      ·exact h2 w hw
    ·cases h
 | .when _ c b l,ns,seen,ns',seen',hf,h1,h2,h=>by
  unfold bC at h;split at h
  ·cases hb:bC ts b ns seen with
   |bad e=>rw[hb]at h;cases h
   |ok n2 s2=>
    rw[hb]at h;simp only[]at h;have hn2:=(iF hf.2.1 h1 h2 hb).1;split at h
    ·cases h
    ·exact iF hf.2.2 hn2 h2 h
  ·cases h
theorem Df(hf:Ren f)(hi:kM f){ts:List Wd}(hts:∀w∈ts,aN w=true){l m:Its}(h:qO f l m):bB l→∀ns seen:List Wd,(∀w∈ns,aN w=true)→(∀w∈seen,aN w=true)→bC (ts.map f) m (ns.map f) (seen.map f)=(bC ts l ns seen).ren f:=by
 induction h with
 |nil=>intro _ ns seen _ _;rfl
 |@cons a b l m hh _ ih=>
  intro hF ns seen h1 h2;obtain⟨g1,g2,g3,g4⟩:=hh;unfold bC;rw[g1,g2,oy hf hi h1,Be hf hi hts,xR g3,uR hf hi h2];split
  ·rfl
  ·split
   ·rfl
   ·split
    ·have e1:single b=single a:=by rw[eN,eN,g1,rE g3];cases a.k <;> rfl
     have e2:(if single b then seen.map f++[f a.name]else seen.map f)=(if single a then seen++[a.name]else seen).map f:=by
      rw[e1];split <;> simp
     rw[e2];refine ih hF.2 (a.name::ns) _ ?_ ?_
     ·intro w hw;rcases List.mem_cons.1 hw with rfl|hw
      ·exact hF.1.2.1.2
      ·exact h1 w hw
     ·intro w hw;split at hw
      ·rcases List.mem_append.1 hw with hw|hw
       ·exact h2 w hw
       ·rw[List.mem_singleton]at hw;rw[hw];exact hF.1.2.1.2
      ·exact h2 w hw
    ·rfl
 |@when a a' c c' b b' l m hx hb hl ih1 ih2=>
  intro hF ns seen h1 h2;unfold bC;rw[iD hx,uR hf hi h2,ih1 hF.2.1 ns seen h1 h2,zI hf hb,pq hf hi (s8 hF.2.1)];split
  ·cases hbr:bC ts b ns seen with
   |bad e=>rfl
   |ok n2 s2=>
    simp only[Res.ren];split
    ·rfl
    ·exact ih2 hF.2.2 n2 seen (iF hF.2.1 h1 h2 hbr).1 h2
  ·rfl
theorem EY(hf:Ren f)(hi:kM f){l m:List Ty}(h:uL f l m):(∀t∈l,aZ t)→∀ts:List Wd,(∀w∈ts,aN w=true)→chk (ts.map f) m=chk ts l:=by
 induction h with
 |nil=>intro _ ts _;rfl
 |@cons a b l m hh _ ih=>
  intro hF ts hts;obtain⟨g1,g2⟩:=hh;have hFa:=hF a (by simp);unfold chk;have hc:=Df hf hi hts g2 hFa.2 [] [] (fun w hw=>by cases hw) (fun w hw=>by cases hw);simp only[List.map_nil]at hc;rw[g1,oy hf hi hts,hc,zI hf g2,pq hf hi (s8 hFa.2)];split
  ·rfl
  ·cases bC ts a.items [] []with
   |bad e=>rfl
   |ok n2 s2=>
    simp only[Res.ren];split
    ·rfl
    ·refine ih (fun t ht=>hF t (by simp[ht])) (a.name::ts) ?_;intro w hw;rcases List.mem_cons.1 hw with rfl|hw
     ·exact hFa.1.2
     ·exact hts w hw
theorem lF{x y:X}(h:gh x y):A0 id x y:=by
 induction h with
 |num=>exact rfl
 |name=>exact rfl
 |bin a b op _ _ ih1 ih2=>exact⟨rfl,ih1,ih2⟩
theorem EZ(k:Knd):Gn id k=k:=by cases k <;> rfl
theorem E0(r:Rl):mG id r=r:=by cases r <;> rfl
theorem tc{l m:Its}(h:eA l m):qO id l m:=by
 induction h with
 |nil=>exact .nil
 |cons hh _ ih=>
  refine .cons ⟨by rw[EZ];exact hh.1.symm,hh.2.1.symm,?_,by rw[E0];exact hh.2.2.2.symm⟩ ih;have:=hh.2.2.1
  revert this
  cases Hd.cnt _ <;> cases Hd.cnt _ <;> intro h
  ·trivial
  ·exact h.elim
  ·exact h.elim
  ·exact lF h
 |when h1 _ _ ih1 ih2=>exact .when (lF h1) ih1 ih2
theorem qQ{l m:List Ty}(h:bZ l m):uL id l m:=by
 induction h with
 |nil=>exact .nil
 |cons hh _ ih=>exact .cons ⟨hh.1.symm,tc hh.2⟩ ih
theorem pw{l m:List Ty}(h:bZ l m)(hF:∀t∈l,aZ t):chk [] m=chk [] l:=EY Gp (fun u w _ _ h=>h) (qQ h) hF [] (fun w hw=>by cases hw)
def Fit:Nat→Nat→Its→Prop
 |_,_,.nil=>True
 |d,n,.cons _ l=>n < 16∧Fit d (n+1) l
 |d,n,.when _ _ b l=>n < 16∧d+1≤8∧Fit (d+1) 0 b∧Fit d (n+1) l
theorem HdP.make{E:Nat}{h:Hd}(hf:fO h){S R:List Tok}(hS:S.map Prod.fst=ptH h):∃h',iV h h'∧HdP E (S++R) h' R:=by
 obtain⟨t,S1,rfl,ht,hS1⟩:=fC hS;obtain⟨n,S2,rfl,hn,hS2⟩:=fC hS1;obtain⟨c',s',h1,h2,h3⟩:=AZ (E:=E) hf (R:=R) hS2;have hk:mF t h.k:=by
  obtain⟨at_,k,name,cnt,ax⟩:=h;simp only[]at ht⊢;cases k with
  |scalar w=>rw[show w=t.1 from ht.symm];exact .scalar (by rw[ht];exact hf.1)
  |bytes=>exact .bytes ht
  |struct w=>rw[show w=t.1 from ht.symm];exact .struct (by rw[ht];exact hf.1.2)
 have hnm:aN n.1=true:=by rw[hn];exact hf.2.1.2
 exact⟨⟨t.2,h.k,n.1,c',h.ax⟩,⟨rfl,hn.symm,h1,rfl⟩,.mk hk hnm h2 h3⟩
theorem Blk.make{E:Nat}:∀{l:Its} {d n:Nat},Fit d n l→bB l→∀S R:List Tok,S.map Prod.fst=ptI l++[[125]]→∃l',eA l l'∧Blk E d n (S++R) l' R
 | .nil,d,n,_,_,S,R,hS=>by
  obtain⟨t,S1,rfl,ht,hS1⟩:=fC hS;obtain rfl:=List.map_eq_nil_iff.1 hS1;exact⟨.nil,.nil,.fin ht⟩
 | .cons a l,d,n,h,hf,S,R,hS=>by
  rw[show ptI (.cons a l)=ptH a++ptI l from rfl,List.append_assoc]at hS;obtain⟨U,V,rfl,hU,hV⟩:=AY hS;obtain⟨l',g1,g2⟩:=Blk.make (E:=E) h.2 hf.2 V R hV;obtain⟨a',g3,g4⟩:=HdP.make (E:=E) hf.1 (R:=V++R) hU;exact⟨.cons a' l',.cons g3 g1,by rw[List.append_assoc];exact .item h.1 g4 g2⟩
 | .when a c body l,d,n,h,hf,S,R,hS=>by
  rw[show ptI (.when a c body l)=dz::(ptX c++[123]::(ptI body++[125]::ptI l))from rfl]at hS;obtain⟨u,S1,rfl,hu,hS1⟩:=fC (a:=dz) (l:=ptX c++([123]::(ptI body++[125]::(ptI l++[[125]])))) (by rw[hS];simp);obtain⟨P,Q,rfl,hP,hQ⟩:=AY hS1;obtain⟨o,Q1,rfl,ho,hQ1⟩:=fC hQ;obtain⟨B,C,rfl,hB,hC⟩:=AY (a:=ptI body++[[125]]) (b:=ptI l++[[125]]) (by rw[hQ1];simp);obtain⟨l',g1,g2⟩:=Blk.make (E:=E) h.2.2.2 hf.2.2 C R hC;obtain⟨b',g3,g4⟩:=Blk.make (E:=E) h.2.2.1 hf.2.1 B (C++R) hB;obtain⟨c',g5,g6⟩:=eI.back (E:=E) hf.1 hP (R:=o::(B++(C++R))) (rC o _ (by rw[ho];decide));refine⟨.when u.2 c' b' l',.when g5 g3 g1,?_⟩;have e:(u::(P++o::(B++C)))++R=u::(P++o::(B++(C++R))):=by simp
  rw[e];exact .when h.1 hu g6 ho h.2.1 g4 g2
theorem Tys.make{E:Nat}:∀{l:List Ty} {n:Nat},n+l.length≤8→(∀t∈l,aZ t∧Fit 1 0 t.items)→∀S:List Tok,S.map Prod.fst=C2 l→∃l',bZ l l'∧Tys E n S l'
 |[],n,_,_,S,hS=>by
  obtain rfl:=List.map_eq_nil_iff.1 hS;exact⟨[],.nil,.fin⟩
 |t::r,n,hn,hf,S,hS=>by
  obtain⟨hft,hfit⟩:=hf _ (List.mem_cons_self ..);rw[Z6]at hn;obtain⟨u,S1,rfl,hu,hS1⟩:=fC (a:=cN) (l:=t.name::[123]::((ptI t.items++[[125]])++C2 r)) (by rw[hS];show ptT _++C2 r=_;unfold ptT;simp);obtain⟨v,S2,rfl,hv,hS2⟩:=fC hS1;obtain⟨o,S3,rfl,ho,hS3⟩:=fC hS2;obtain⟨U,V,rfl,hU,hV⟩:=AY hS3;obtain⟨r',g1,g2⟩:=Tys.make (E:=E) (n:=n+1) (by omega) (fun t ht=>hf t (List.mem_cons_of_mem _ ht)) V hV;obtain⟨l',g3,g4⟩:=Blk.make (E:=E) hfit hft.2 U V hU;exact⟨⟨v.1,v.2,l'⟩::r',.cons ⟨hv.symm,g3⟩ g1,.one (by omega) hu (by rw[hv];exact hft.1.2) ho g4 g2⟩
end Tm
end
section
open Go.RowKit
def plc(k n o:Nat):Nat:=if o=1 then n - 1 - k else k
def byteOf(n k:Nat):Nat:=n / 256 ^ k % 256
def fF(n wd o k j:Nat):Nat:=if plc j wd o < k then byteOf n (plc j wd o)else 0
def putRow(n wd o k:Nat):List Value:=(List.range wd).map fun j=> .int .u8 ((fF n wd o k j:Nat):Int)
def lG(n wd o:Nat):List UInt8:=(List.range wd).map fun j=>UInt8.ofNat (byteOf n (plc j wd o))
theorem mM{k n o:Nat}(h:k < n):plc k n o < n:=by unfold plc;split <;> omega
theorem oz{k n o:Nat}(h:k < n):plc (plc k n o) n o=k:=by unfold plc;split <;> omega
theorem qR(n wd o k:Nat):(putRow n wd o k).length=wd:=by simp[putRow]
theorem uS(n wd o:Nat):putRow n wd o 0=List.replicate wd (.int .u8 0):=by
 apply List.ext_getElem
 ·simp[putRow]
 ·intro i h1 h2;simp[putRow,fF]
theorem uT(n wd o k:Nat)(h:k < wd):(putRow n wd o k).set (plc k wd o) (.int .u8 ((byteOf n k:Nat):Int))=putRow n wd o (k+1):=by
 apply List.ext_getElem
 ·simp[putRow]
 ·intro i h1 h2;have hi:i < wd:=by simpa[putRow]using h2
  rw[List.getElem_set]
  by_cases e:plc k wd o=i
  ·subst e;simp[putRow,fF,oz h]
  ·rw[if_neg e];have:plc i wd o≠k:=fun e'=>e (by rw[← e',oz hi])
   simp only[putRow,fF,List.getElem_map,List.getElem_range]
   congr 2
   by_cases h':plc i wd o < k
   ·rw[if_pos h',if_pos (by omega)]
   ·rw[if_neg h',if_neg (by omega)]
theorem Dg(k:Nat):(2:Int) ^ (8 * k)=((256 ^ k:Nat):Int):=by
 rw[Int.pow_mul];simp
theorem xS(n k:Nat):((n:Int) / 2 ^ (8 * k)) % 256=((byteOf n k:Nat):Int):=by
 unfold byteOf;rw[Dg];simp
theorem nM(n wd o:Nat):(lG n wd o).length=wd:=by simp[lG]
theorem uU(n wd o j:Nat)(h:j < wd):fF n wd o wd j=byteOf n (plc j wd o):=by
 unfold fF;rw[if_pos (mM h)]
theorem uV(n wd o:Nat):strOfNums ((List.range wd).map fun j=>((fF n wd o wd j:Nat):Int))=aa (lG n wd o):=by
 rw[lq]
 congr 1
 rw[List.map_map];apply List.map_congr_left;intro j hj;have hj':j < wd:=by simpa using hj
 simp[uU n wd o j hj']
def fG(l:List UInt8)(a wd o:Nat):Nat→Nat
 |0=>0
 |k+1=>fG l a wd o k+(l.getD (a+plc k wd o) 0).toNat * 256 ^ k
theorem iG(l:List UInt8)(a wd o k:Nat):fG l a wd o k < 256 ^ k:=by
 induction k with
 |zero=>simp[fG]
 |succ k ih=>
  have hb:=(l.getD (a+plc k wd o) 0).toNat_lt;have:(l.getD (a+plc k wd o) 0).toNat * 256 ^ k≤255 * 256 ^ k:=Nat.mul_le_mul_right _ (by omega);simp only[fG,Nat.pow_succ];omega
theorem jN{k:Nat}(h:k≤8):256 ^ k≤18446744073709551616:=by
 have:=Nat.pow_le_pow_right (n:=256) (by decide) h;simpa using this
theorem E1(g b k:Nat)(hg:g < 256 ^ k)(hb:b < 256)(hk:k < 8):
  bits .or .u64 (g:Int) (IntKind.u64.wrap ((b:Int) * 2 ^ (8 * k)))=((g+b * 256 ^ k:Nat):Int):=by
 have h1:b * 256 ^ k < 256 ^ (k+1):=by
  rw[Nat.pow_succ,Nat.mul_comm];exact Nat.mul_lt_mul_of_pos_left hb (Nat.pow_pos (by decide))
 have h2:=jN (show k+1≤8 by omega);have h3:=jN (show k≤8 by omega);have h4:IntKind.u64.wrap ((b:Int) * 2 ^ (8 * k))=((b * 256 ^ k:Nat):Int):=by
  rw[Dg,← Int.natCast_mul];exact IntWalk.u64_in _ ⟨by omega,by omega⟩
 rw[h4,bits_or_u64_nat _ _ (by omega) (by omega),Nat.or_comm];have h5:b * 256 ^ k|||g=b * 256 ^ k+g:=by
  have e:256 ^ k=2 ^ (8 * k):=by rw[Nat.pow_mul]
  apply nat_join (8 * k)
  ·rw[e];simp
  ·rw[← e];exact hg
 rw[h5,Nat.add_comm]
theorem E2(s:ByteArray)(i:Nat)(h:i < s.size):s[i]=s.data.toList.getD i 0:=by
 have h':i < s.data.toList.length:=by rw[Array.length_toList];exact h
 rw[List.getD_eq_getElem?_getD,Y1 h'];rfl
theorem Dh(s:ByteArray)(a wd o k G:Nat)(hG:fG s.data.toList a wd o k=G)(hg:G < 256 ^ k)(hk:k < 8)(h:a+plc k wd o < s.size):
  bits .or .u64 (G:Int) (IntKind.u64.wrap (IntKind.u64.wrap ((s[a+plc k wd o].toNat:Nat):Int) * 2 ^ (8 * k)))=((fG s.data.toList a wd o (k+1):Nat):Int):=by
 have hb:s[a+plc k wd o].toNat < 256:=UInt8.toNat_lt _;rw[IntWalk.u64_in ((s[a+plc k wd o].toNat:Nat):Int) ⟨by omega,by omega⟩,E1 G _ k hg hb hk,E2,fG,hG]
def i'(n wd:Nat):Nat:=n % 256 ^ wd
def gZ(n wd:Nat):Int:=if i' n wd < 256 ^ wd / 2 then(i' n wd:Int)else(i' n wd:Int) - ((256 ^ wd:Nat):Int)
def eZ(n:Int):Nat:=(n % 18446744073709551616).toNat
theorem zJ(n:Int):eZ n < 18446744073709551616:=by unfold eZ;omega
theorem Bg(n:Int):((eZ n:Nat):Int)=n % 18446744073709551616:=by unfold eZ;omega
theorem mN(n:Int):IntKind.u64.wrap n=((eZ n:Nat):Int):=by rw[IntKind.wrap_u64,Bg]
theorem iH(n wd k:Nat)(h:k < wd):byteOf (n % 256 ^ wd) k=byteOf n k:=by
 unfold byteOf;have e:256 ^ wd=256 ^ k * 256 ^ (wd - k):=by rw[← Nat.pow_add];congr 1;omega
 have e2:256 ^ (wd - k)=256 * 256 ^ (wd - k - 1):=by rw[← Nat.pow_succ'];congr 1;omega
 rw[e,Nat.mod_mul_right_div_self,e2,Nat.mod_mul_right_mod]
theorem Di(n wd o:Nat):lG (n % 256 ^ wd) wd o=lG n wd o:=by
 unfold lG;apply List.map_congr_left;intro j hj;rw[iH _ _ _ (mM (by simpa using hj))]
theorem xT(g b k:Nat)(hg:g < 256 ^ k)(j:Nat)(h:j < k):byteOf (g+b * 256 ^ k) j=byteOf g j:=by
 rw[← iH (g+b * 256 ^ k) k j h,Nat.add_mul_mod_self_right,iH _ _ _ h]
theorem xU(g b k:Nat)(hg:g < 256 ^ k)(hb:b < 256):byteOf (g+b * 256 ^ k) k=b:=by
 unfold byteOf;rw[Nat.add_mul_div_right _ _ (Nat.pow_pos (by decide)),Nat.div_eq_of_lt hg];omega
theorem gD(l:List UInt8)(a wd o:Nat):∀m k,k < m→byteOf (fG l a wd o m) k=(l.getD (a+plc k wd o) 0).toNat:=by
 intro m
 induction m with
 |zero=>intro k h;omega
 |succ m ih=>
  intro k h;rw[fG]
  by_cases e:k=m
  ·subst e;exact xU _ _ _ (iG _ _ _ _ _) (UInt8.toNat_lt _)
  ·rw[xT _ _ _ (iG _ _ _ _ _) _ (by omega)];exact ih k (by omega)
theorem rF(l:List UInt8)(wd o:Nat)(h:l.length=wd):lG (fG l 0 wd o wd) wd o=l:=by
 apply List.ext_getElem
 ·simp[lG,h]
 ·intro i h1 h2;have hi:i < wd:=by omega
  simp only[lG,List.getElem_map,List.getElem_range];rw[gD _ _ _ _ _ _ (mM hi),oz hi,Nat.zero_add,List.getD_eq_getElem?_getD,Y1 h2];simp
end
section
namespace Ly
open Ex (X Names ev)
open Tm
inductive Nds where
 |nil
 |cons (name:Wd) (kind at_ size:Nat) (val:Int) (text:Wd) (kids rest:Nds)
structure Nd where
 name:Wd
 kind:Nat
 at_:Nat
 size:Nat
 val:Int
 text:Wd
 kids:Nds
def Nd.put(d:Nd)(r:Nds):Nds:= .cons d.name d.kind d.at_ d.size d.val d.text d.kids r
def Nds.app:Nds→Nds→Nds
 | .nil,m=>m
 | .cons a b c d e f g r,m=> .cons a b c d e f g (r.app m)
def Nds.len:Nds→Nat
 | .nil=>0
 | .cons _ _ _ _ _ _ _ r=>r.len+1
theorem Nds.eT:∀l:Nds,l.app .nil=l
 | .nil=>rfl
 | .cons _ _ _ _ _ _ _ r=>by show Nds.cons _ _ _ _ _ _ _ (r.app .nil)=_;rw[Nds.eT r]
theorem Nds.dF:∀l m k:Nds,(l.app m).app k=l.app (m.app k)
 | .nil,_,_=>rfl
 | .cons _ _ _ _ _ _ _ r,m,k=>by show Nds.cons _ _ _ _ _ _ _ ((r.app m).app k)=Nds.cons _ _ _ _ _ _ _ (r.app (m.app k));rw[Nds.dF r]
structure St where
 at_:Nat
 n:Nat
def nod(st:St):Option St:=if st.n=400 then none else some ⟨st.at_,st.n+1⟩
def tak(s:Wd)(k:Int)(st:St):Option (Wd×St):=if k < 0∨(s.length:Int) - (st.at_:Int) < k then none else some ((s.drop st.at_).take k.toNat,⟨st.at_+k.toNat,st.n⟩)
def bj(w:Wd):Nat:=((kindOf w).getD (0,0,false)).1
def fR(w:Wd):Nat:=((kindOf w).getD (0,0,false)).2.1
def eF(w:Wd):Bool:=((kindOf w).getD (0,0,false)).2.2
def mO(w u:Wd):Int:=if eF w then gZ (fG u 0 (bj w) (fR w) (bj w)) (bj w)else((fG u 0 (bj w) (fR w) (bj w):Nat):Int)
def py(w:Wd)(v:Int):Wd:=lG (eZ v) (bj w) (fR w)
def cz(w:Wd)(v:Int):Bool:=if eF w then decide (gZ (eZ v) (bj w)=v)else decide (0≤v)&&decide (i' (eZ v) (bj w)=eZ v)
def kNo:Knd→Nat
 | .scalar _=>1
 | .bytes=>2
 | .struct _=>3
def upd(N:Names)(w:Wd)(v:Int):Names:=fun x=>if x=w then some v else N x
abbrev Sub:=Wd→St→Option (Nds×St)
def bI(S:Sub)(s:Wd)(N:Names)(h:Hd)(st:St):Option (Nd×St):=
 (nod st).bind fun st1=>match h.k with
 | .scalar w=>(tak s (bj w:Nat) st1).map fun p=>(⟨h.name,1,st.at_,p.2.at_ - st.at_,mO w p.1,[],.nil⟩,p.2)
 | .bytes=>(h.cnt.bind (ev N)).bind fun k=>(tak s k st1).map fun p=>(⟨h.name,2,st.at_,p.2.at_ - st.at_,0,p.1,.nil⟩,p.2)
 | .struct t=>(S t st1).map fun p=>(⟨h.name,3,st.at_,p.2.at_ - st.at_,0,[],p.1⟩,p.2)
def rep(f:St→Option (Nd×St)):Nat→St→Option (Nds×St)
 |0,st=>some (.nil,st)
 |k+1,st=>(f st).bind fun p=>(rep f k p.2).map fun q=>(p.1.put q.1,q.2)
def hH(S:Sub)(s:Wd)(N:Names)(h:Hd)(st:St):Option (Nd×St):=
 (nod st).bind fun st1=>(h.cnt.bind (ev N)).bind fun k=>if k < 0 then none else(rep (bI S s N h) k.toNat st1).map fun p=>(⟨h.name,9,st.at_,p.2.at_ - st.at_,0,[],p.1⟩,p.2)
def hdR(S:Sub)(s:Wd)(N:Names)(h:Hd)(st:St):Option (Nd×St):=if cI h then hH S s N h st else bI S s N h st
def bM(S:Sub)(s:Wd):Its→Names→St→Option (Nds×Names×St)
 | .nil,N,st=>some (.nil,N,st)
 | .cons h l,N,st=>(hdR S s N h st).bind fun p=>(bM S s l (if single h then upd N h.name p.1.val else N) p.2).map fun q=>(p.1.put q.1,q.2)
 | .when _ c b l,N,st=>(nod st).bind fun st1=>(ev N c).bind fun v=>
   (if v=0 then some (Nds.nil,N,st1)else bM S s b N st1).bind fun p=>
    (bM S s l p.2.1 p.2.2).map fun q=>(Nds.cons [] 4 st.at_ (p.2.2.at_ - st.at_) (if v=0 then 0 else 1) [] p.1 q.1,q.2)
def rdS(s:Wd):List Ty→Sub
 |[],_,_=>none
 |t::r,nm,st=>if t.name=nm then(bM (rdS s r) s t.items (fun _=>none) st).map fun p=>(p.1,p.2.2)else rdS s r nm st
abbrev Wri:=Wd→Nds→Option Wd
def aY(W:Wri)(h:Hd)(d:Nd):Option Wd:=if d.name≠h.name∨d.kind≠kNo h.k then none else match h.k with
 | .scalar w=>if cz w d.val then some (py w d.val)else none
 | .bytes=>some d.text
 | .struct t=>W t d.kids
def cO(f:Nd→Option Wd):Nds→Option Wd
 | .nil=>some []
 | .cons a b c d e g k r=>(f ⟨a,b,c,d,e,g,k⟩).bind fun u=>(cO f r).map (u++ ·)
def bc(W:Wri)(h:Hd)(d:Nd):Option Wd:=if cI h then(if d.name≠h.name∨d.kind≠9 then none else cO (aY W h) d.kids)else aY W h d
def aH(W:Wri):Its→Nds→Option Wd
 | .nil,.nil=>some []
 | .cons h l,.cons a b c d e g k r=>(bc W h ⟨a,b,c,d,e,g,k⟩).bind fun u=>(aH W l r).map (u++ ·)
 | .when _ _ body l,.cons a b _ _ e _ k r=>if a≠[]∨b≠4 then none else
   (if e=0 then(match k with| .nil=>some []|_=>none)else aH W body k).bind fun u=>(aH W l r).map (u++ ·)
 |_,_=>none
def wrS:List Ty→Wri
 |[],_,_=>none
 |t::r,nm,ks=>if t.name=nm then aH (wrS r) t.items ks else wrS r nm ks
def seg(s:Wd)(i j:Nat):Wd:=(s.drop i).take (j - i)
theorem td(s:Wd){i j k:Nat}(h1:i≤j)(h2:j≤k):seg s i j++seg s j k=seg s i k:=by
 unfold seg;have e:s.drop j=(s.drop i).drop (j - i):=by rw[List.drop_drop];congr 1;omega
 rw[e,show k - i=(j - i)+(k - j) by omega,List.take_add]
theorem zK(s:Wd)(i:Nat):seg s i i=[]:=by unfold seg;simp
structure Step(s:Wd)(st st':St):Prop where
 le:st.at_≤st'.at_
 len:st'.at_≤s.length
theorem kO{st st1:St}(h:nod st=some st1):st1.at_=st.at_:=by
 unfold nod at h;split at h
 ·cases h
 ·cases h;rfl
theorem te{s:Wd}{k:Int}{st st2:St}{u:Wd}(h:tak s k st=some (u,st2))(ha:st.at_≤s.length):Step s st st2∧u=seg s st.at_ st2.at_∧u.length=k.toNat:=by
 unfold tak at h;split at h
 ·cases h
 ·rename_i hn
  rw[not_or]at hn;cases h;refine⟨⟨by simp,by simp;omega⟩,?_,?_⟩
  ·unfold seg;simp
  ·rw[List.length_take,List.length_drop];omega
end Ly
end
section
open Go Go.RowKit Go.Maps Go.WideElems Go.ChangeMaps Go.WideMaps
open Rd
namespace Ly
open Tm
structure But(w w':World)(b:Nat)(m:Option Nat):Prop where
 os:w'.os=w.os
 tape:w'.tape=w.tape
 output:w'.output=w.output
 size:w.heap.size≤w'.heap.size
 block:∀k,k < w.heap.size→k≠b→some k≠m→w'.heap[k]? =w.heap[k]?
theorem But.refl(w:World)(b:Nat)(m:Option Nat):But w w b m:=⟨rfl,rfl,rfl,Z5 _,fun _ _ _ _=>rfl⟩
theorem But.trans{w w' w'':World}{b:Nat}{m:Option Nat}(h:But w w' b m)(k:But w' w'' b m):But w w'' b m:=
 ⟨k.os.trans h.os,k.tape.trans h.tape,k.output.trans h.output,Nat.le_trans h.size k.size,fun i hi h1 h2=>(k.block i (Nat.lt_of_lt_of_le hi h.size) h1 h2).trans (h.block i hi h1 h2)⟩
theorem But.az{w w':World}{b:Nat}{m:Option Nat}(h:Below w.heap.size w w'):But w w' b m:=⟨h.os,h.tape,h.output,h.size,fun k hk _ _=>h.block k hk⟩
theorem But.uW{w w':World}{b:Nat}{m:Option Nat}(h:w.grownBy w' (some b)):But w w' b m:=⟨h.os,h.tape,h.output,h.size,fun k hk h1 _=>h.block k hk (fun e=>by injection e with e;exact h1 e)⟩
theorem But.setCell{w:World}{b:Nat}{m:Option Nat}(o:Nat)(u:Value):But w (w.setCell ⟨b,o,none⟩ u) b m:=
 ⟨rfl,rfl,rfl,by simp[World.setCell],fun k _ h _=>Below.heap_setCell _ _ _ _ h⟩
theorem But.drew{w w':World}{b:Nat}{m:Option Nat}(h:But w w' b m):But w w'.drew b m:=⟨h.os,h.tape,h.output,h.size,h.block⟩
theorem But.fresh{w w':World}{b g:Nat}{m:Option Nat}(h:But w w' b (some g))(hg:w.heap.size≤g):But w w' b m:=⟨h.os,h.tape,h.output,h.size,fun k hk h1 _=>h.block k hk h1 (fun e=>by injection e with e;omega)⟩
theorem But.wide{w w':World}{b:Nat}{m:Option Nat}(h:But w w' b none):But w w' b m:=⟨h.os,h.tape,h.output,h.size,fun k hk h1 _=>h.block k hk h1 (fun e=>by cases e)⟩
theorem But.below{B b:Nat}{m:Option Nat}{w0 w w':World}(h:Below B w0 w)(k:But w w' b m)(hB:B≤w.heap.size)(hb:B≤b)(hm:∀x,m=some x→B≤x):Below B w0 w':=
 h.trans ⟨k.os,k.tape,k.output,k.size,fun i hi=>k.block i (by omega) (by omega) (fun e=>by have:=hm i e.symm;omega)⟩
def ae(name:Wd)(kind at_ size:Nat)(val:Int)(text:Wd)(sv:Value):List Value:=
 [.string (aa name),.int .i64 (kind:Nat),.int .i64 (at_:Nat),.int .i64 (size:Nat),.int .i64 val,.string (aa text),sv]
def aU(a:Option Addr):List Nat:=match a with
 |none=>[]
 |some x=>[x.block]
theorem ia{a:Option Addr}{g:Nat}(h:g∈aU a):∃x,a=some x∧g=x.block:=by
 cases a with
 |none=>cases h
 |some x=>exact⟨x,rfl,by simpa[aU]using h⟩
def aW(w:World)(B:Nat):Nds→List Nat→List Value→Prop
 | .nil,bl,vs=>vs=[]∧bl=[]
 | .cons nm kd a sz v tx ks r,bl,vs=>∃ga cap bs us b1 b2,bl=aU ga++(b1++b2)∧an w B 28 7 ga ks.len cap bs∧aW w B ks b1 bs∧vs=ae nm kd a sz v tx (.slice ga ks.len cap)++us∧aW w B r b2 us
theorem aW.al{w w':World}{B:Nat}:∀(l:Nds) (bl:List Nat) (vs:List Value),(∀b∈bl,w'.heap[b]? =w.heap[b]?)→aW w B l bl vs→aW w' B l bl vs
 | .nil,_,vs,_,e=>e
 | .cons nm kd a sz v tx ks r,bl,vs,h,e=>by
  obtain⟨ga,cap,bs,us,b1,b2,rfl,h1,h3,h4,h5⟩:=e;exact⟨ga,cap,bs,us,b1,b2,rfl,h1.al fun x hx=>h _ (by subst hx;simp[aU]),aW.al ks b1 bs (fun b hb=>h b (by simp[hb])) h3,h4,aW.al r b2 us (fun b hb=>h b (by simp[hb])) h5⟩
theorem aW.low{w:World}{B B':Nat}(hb:B'≤B):∀(l:Nds) (bl:List Nat) (vs:List Value),aW w B l bl vs→aW w B' l bl vs
 | .nil,_,vs,e=>e
 | .cons nm kd a sz v tx ks r,bl,vs,e=>by
  obtain⟨ga,cap,bs,us,b1,b2,h0,h1,h3,h4,h5⟩:=e;exact⟨ga,cap,bs,us,b1,b2,h0,h1.mono hb,aW.low hb ks b1 bs h3,h4,aW.low hb r b2 us h5⟩
theorem aW.len{w:World}{B:Nat}:∀(l:Nds) (bl:List Nat) (vs:List Value),aW w B l bl vs→vs.length=l.len * 7
 | .nil,_,vs,e=>by rw[e.1];rfl
 | .cons nm kd a sz v tx ks r,bl,vs,e=>by
  obtain⟨ga,cap,bs,us,b1,b2,h0,h1,h3,rfl,h5⟩:=e;rw[Z7,aW.len r b2 us h5,Nds.len];show 7+r.len * 7=_;omega
theorem aW.mem{w:World}{B:Nat}:∀(l:Nds) (bl:List Nat) (vs:List Value),aW w B l bl vs→∀b∈bl,B≤b∧b < w.heap.size
 | .nil,bl,vs,e,b,hb=>by rw[e.2]at hb;cases hb
 | .cons nm kd a sz v tx ks r,bl,vs,e,b,hb=>by
  obtain⟨ga,cap,bs,us,b1,b2,rfl,h1,h3,rfl,h5⟩:=e;rcases List.mem_append.1 hb with h|h
  ·obtain⟨x,rfl,rfl⟩:=ia h;exact h1.lt
  ·rcases List.mem_append.1 h with h|h
   ·exact aW.mem ks b1 bs h3 b h
   ·exact aW.mem r b2 us h5 b h
theorem aW.app{w:World}{B:Nat}{m:Nds}{bm:List Nat}{us:List Value}(hm:aW w B m bm us):∀(l:Nds) (bl:List Nat) (vs:List Value),aW w B l bl vs→aW w B (l.app m) (bl++bm) (vs++us)
 | .nil,bl,vs,e=>by rw[e.1,e.2];exact hm
 | .cons nm kd a sz v tx ks r,bl,vs,e=>by
  obtain⟨ga,cap,bs,ys,b1,b2,rfl,h1,h3,rfl,h5⟩:=e;exact⟨ga,cap,bs,ys++us,b1,b2++bm,by simp only[List.append_assoc],h1,h3,by rw[List.append_assoc],aW.app hm r b2 ys h5⟩
theorem Nds.cX:∀l m:Nds,(l.app m).len=l.len+m.len
 | .nil,m=>by show m.len=0+m.len;omega
 | .cons _ _ _ _ _ _ _ r,m=>by show(r.app m).len+1=r.len+1+m.len;rw[Nds.cX r m];omega
def NdV(w:World)(B:Nat)(bl:List Nat)(d:Nd)(v:Value):Prop:=∃ga cap bs b1,v= .agg (ae d.name d.kind d.at_ d.size d.val d.text (.slice ga d.kids.len cap)).toArray∧bl=aU ga++b1∧an w B 28 7 ga d.kids.len cap bs∧aW w B d.kids b1 bs
structure aQ(w:World)(B:Nat)(ks:Nds)(ga:Option Addr)(cap:Nat)(bl:List Nat)(vs:List Value):Prop where
 own:an w B 28 7 ga ks.len cap vs
 enc:aW w B ks bl vs
 nodup:(aU ga++bl).Nodup
theorem aQ.nil(w:World)(B:Nat):aQ w B .nil none 0 [] []:=⟨an.nil _ _ _ _,⟨rfl,rfl⟩,by simp[aU]⟩
theorem aQ.mem{w:World}{B:Nat}{ks:Nds}{ga:Option Addr}{cap:Nat}{bl:List Nat}{vs:List Value}(h:aQ w B ks ga cap bl vs):∀b∈aU ga++bl,B≤b∧b < w.heap.size:=by
 intro b hb;rcases List.mem_append.1 hb with h1|h1
 ·obtain⟨x,rfl,rfl⟩:=ia h1;exact h.own.lt
 ·exact h.enc.mem _ _ _ b h1
theorem aQ.al{w w':World}{B:Nat}{ks:Nds}{ga:Option Addr}{cap:Nat}{bl:List Nat}{vs:List Value}(h:aQ w B ks ga cap bl vs)(hk:∀b,B≤b→b < w.heap.size→w'.heap[b]? =w.heap[b]?):aQ w' B ks ga cap bl vs:=
 ⟨h.own.al fun x hx=>by have ho:=h.own;subst hx;exact hk _ ho.lt.1 ho.lt.2,h.enc.al _ _ _ (fun b hb=>by have:=h.enc.mem _ _ _ b hb;exact hk b this.1 this.2),h.nodup⟩
theorem aQ.low{w:World}{B B':Nat}{ks:Nds}{ga:Option Addr}{cap:Nat}{bl:List Nat}{vs:List Value}(h:aQ w B ks ga cap bl vs)(hb:B'≤B):aQ w B' ks ga cap bl vs:=⟨h.own.mono hb,h.enc.low hb _ _ _,h.nodup⟩
theorem aQ.nd{w:World}{B:Nat}{ks:Nds}{ga:Option Addr}{cap:Nat}{bl:List Nat}{vs:List Value}(h:aQ w B ks ga cap bl vs)(nm:Wd)(kd a sz:Nat)(v:Int)(tx:Wd):
  NdV w B (aU ga++bl) ⟨nm,kd,a,sz,v,tx,ks⟩ (.agg (ae nm kd a sz v tx (.slice ga ks.len cap)).toArray):=⟨ga,cap,vs,bl,rfl,rfl,h.own,h.enc⟩
theorem NdV.leaf(w:World)(B:Nat)(nm:Wd)(kd a sz:Nat)(v:Int)(tx:Wd):NdV w B [] ⟨nm,kd,a,sz,v,tx,.nil⟩ (.agg (ae nm kd a sz v tx (.slice none 0 0)).toArray):=(aQ.nil w B).nd nm kd a sz v tx
theorem NdV.mem{w:World}{B:Nat}{bl:List Nat}{d:Nd}{v:Value}(h:NdV w B bl d v):∀b∈bl,B≤b∧b < w.heap.size:=by
 obtain⟨ga,cap,bs,b1,_,rfl,h1,h2⟩:=h;intro b hb;rcases List.mem_append.1 hb with h3|h3
 ·obtain⟨x,rfl,rfl⟩:=ia h3;exact h1.lt
 ·exact h2.mem _ _ _ b h3
theorem NdV.al{w w':World}{B:Nat}{bl:List Nat}{d:Nd}{v:Value}(h:NdV w B bl d v)(hk:∀b∈bl,w'.heap[b]? =w.heap[b]?):NdV w' B bl d v:=by
 obtain⟨ga,cap,bs,b1,e,rfl,h1,h2⟩:=h;exact⟨ga,cap,bs,b1,e,rfl,h1.al fun x hx=>hk _ (by subst hx;simp[aU]),h2.al _ _ _ (fun b hb=>hk b (by simp[hb]))⟩
theorem NdV.low{w:World}{B B':Nat}{bl:List Nat}{d:Nd}{v:Value}(h:NdV w B bl d v)(hb:B'≤B):NdV w B' bl d v:=by
 obtain⟨ga,cap,bs,b1,e,e2,h1,h2⟩:=h;exact⟨ga,cap,bs,b1,e,e2,h1.mono hb,h2.low hb _ _ _⟩
theorem NdV.cells{w:World}{B:Nat}{bl:List Nat}{d:Nd}{v:Value}(h:NdV w B bl d v):∃ga cap,v= .agg #[.string (aa d.name),.int .i64 (d.kind:Nat),.int .i64 (d.at_:Nat),.int .i64 (d.size:Nat),.int .i64 d.val,.string (aa d.text),.slice ga d.kids.len cap]:=by
 obtain⟨ga,cap,bs,b1,e,_⟩:=h;exact⟨ga,cap,e⟩
theorem aQ.push{w w1 w2:World}{B:Nat}{ks:Nds}{ga ga':Option Addr}{cap cap':Nat}{bl b1:List Nat}{vs cs:List Value}{d:Nd}(h:aQ w B ks ga cap bl vs)(hk:∀b,B≤b→b < w.heap.size→w1.heap[b]? =w.heap[b]?)
  (hd:NdV w1 w.heap.size b1 d (.agg cs.toArray))(hn:b1.Nodup)(hB:B≤w.heap.size)(hs:w.heap.size≤w1.heap.size)(ho:an w2 B 28 7 ga' (ks.len+1) cap' (vs++cs))(hg:w1.grownBy w2 (blk ga))(hl:∀x,ga'=some x→ga=some x∨w1.heap.size < x.block):
  aQ w2 B (ks.app (d.put .nil)) ga' cap' (bl++b1) (vs++cs):=by
 have hmem:=h.mem;have hmd:=hd.mem;have hkw:∀b,b < w1.heap.size→b∉aU ga→w2.heap[b]? =w1.heap[b]? :=fun b hb hne=>hg.block b hb (fun e=>by
  cases ha:ga with
  |none=>rw[ha]at e;simp[blk]at e
  |some x=>rw[ha]at e;simp only[blk,Option.map_some]at e;injection e with e;exact hne (by rw[ha,e];simp[aU]))
 have hnd:=List.nodup_append.1 h.nodup;refine⟨by rw[Nds.cX];exact ho,?_,?_⟩
 ·refine aW.app (m:=d.put .nil) ?_ ks bl vs ?_
  ·obtain⟨g2,c2,bs,b2,e,rfl,e1,e2⟩:=hd;have hcs:cs=ae d.name d.kind d.at_ d.size d.val d.text (.slice g2 d.kids.len c2):=by
    have:=congrArg Value.cells e;simp only[Value.cells]at this;have h4:=congrArg Array.toList this;simpa using h4
   have hfar:∀b∈aU g2++b2,w2.heap[b]? =w1.heap[b]? :=fun b hb=>hkw b (hmd b hb).2 (fun hm=>by
    have h1:=hmem b (List.mem_append_left _ hm);have h2:=hmd b hb;omega)
   refine⟨g2,c2,bs,[],b2,[],by simp,(e1.al fun x hx=>hfar _ (by subst hx;simp[aU])).mono hB,(e2.al _ _ _ fun b hb=>hfar b (by simp[hb])).low hB _ _ _,by rw[List.append_nil];exact hcs,rfl,rfl⟩
  ·exact(h.enc.al _ _ _ fun b hb=>hk b (h.enc.mem _ _ _ b hb).1 (h.enc.mem _ _ _ b hb).2).al _ _ _ fun b hb=>hkw b (by have:=h.enc.mem _ _ _ b hb;omega) (fun hm=>hnd.2.2 b hm b hb rfl)
 ·rw[List.nodup_append];refine⟨by cases ga' <;> simp[aU],?_,?_⟩
  ·rw[List.nodup_append];exact⟨hnd.2.1,hn,fun a ha b hb e=>by subst e;have h1:=hmem a (List.mem_append_right _ ha);have h2:=hmd a hb;omega⟩
  ·intro a ha b hb e;subst e;obtain⟨x,hx,rfl⟩:=ia ha;rcases List.mem_append.1 hb with hb|hb
   ·rcases hl x hx with h1|h1
    ·exact hnd.2.2 x.block (by rw[h1];simp[aU]) x.block hb rfl
    ·have:=hmem _ (List.mem_append_right _ hb);omega
   ·rcases hl x hx with h1|h1
    ·have h2:=hmem x.block (by rw[h1];simp[aU]);have h3:=hmd _ hb;omega
    ·have:=hmd _ hb;omega
structure LR(w:World)(b:Nat)(F:Value)(s:Wd)(st:St):Prop where
 row:ad w b 0 62 [F,.string (aa s),.int .i64 (st.at_:Nat),.int .i64 (st.n:Nat)]
 len:st.at_≤s.length
 few:st.n≤400
theorem LR.al{w w':World}{b:Nat}{F:Value}{s:Wd}{st:St}(h:LR w b F s st)(hb:w'.heap[b]? =w.heap[b]?):LR w' b F s st:=⟨h.row.of_heap hb,h.len,h.few⟩
def NmM(w:World)(b n:Nat)(N:Ex.Names):Prop:=∃D:DataW Unit,w.ownsMap Tryz.prog 9 (plainElem Tryz.prog 3) b n D∧IsMap D∧∀s,nm D s=N s
theorem NmM.made(w:World):NmM (w.alloc (.map #[] 0)) w.heap.size 0 (fun _=>none):=
 ⟨.map [],World.ownsMap_made _ _ _ _,isMap_empty,fun s=>by unfold nm;split <;> rfl⟩
theorem NmM.al{w w':World}{b n:Nat}{N:Ex.Names}(h:NmM w b n N)(hh:w'.heap[b]? =w.heap[b]?):NmM w' b n N:=by
 obtain⟨D,⟨es,clock,hb,F,h1,h2⟩,h3⟩:=h;exact⟨D,⟨es,clock,hh.trans hb,F,h1,h2⟩,h3⟩
theorem NmM.lt{w:World}{b n:Nat}{N:Ex.Names}(h:NmM w b n N):b < w.heap.size:=by obtain⟨D,h1,_⟩:=h;exact h1.lt
theorem NmM.at_{w:World}{b n:Nat}{N:Ex.Names}(h:NmM w b n N):∃k,lD w (.map (some b)) N k:=by
 obtain⟨D,h1,_,h3⟩:=h;obtain⟨k,_,hk⟩:=A' h1;rw[show nm D=N from funext h3]at hk;exact⟨k,hk⟩
theorem NmM.store{w:World}{b n:Nat}{N:Ex.Names}(h:NmM w b n N)(hn:n < maxLen)(s:Wd)(hs:s.length≤1000)(v:Int)(hv:Ex.InR v):
  ∃w',(Instr.mapUpdate 103 (.map (some b)) (.string (aa s)) (.int .i64 v)).run Tryz.prog w= .ok () w'∧NmM w' b (n+1) (upd N s v)∧w.grownBy w' (some b):=by
 obtain⟨D,h1,h2,h3⟩:=h;have hwf:(Lit.int .i64 v).wf=true:=by
  have h1:IntKind.i64.min= -9223372036854775808:=rfl;have h2:IntKind.i64.max=9223372036854775807:=rfl;obtain⟨h3,h4⟩:=hv;simp[Lit.wf,h1,h2];omega
 obtain⟨w',hrun,ho,hg⟩:=h1.update (string_keyed Tryz.underlying9) Tryz.underlying103 hn (kL Tryz.underlying9 s (by omega)) (plainElem_int Tryz.underlying3 hwf);refine⟨w',hrun,⟨_,ho,h2.put _ _,fun x=> ?_⟩,hg⟩;unfold upd
 by_cases hx:x=s
 ·subst hx;unfold nm;rw[if_neg (by omega),atKey_put_same h2 (zG x),if_pos rfl]
 ·have hne:(Lit.string x)≠.string s:=fun h=>by injection h with h4;exact hx h4
  rw[if_neg hx,← h3 x];unfold nm;rw[atKey_put_other hne]
end Ly
end
end Go.Proofs.YtlomecfhobehnaaGreatDoor
