import Derived.Test.YtlomecfhobehnaaGreatDoorMgFixSets5
set_option linter.unusedVariables false
set_option linter.unusedSimpArgs false
set_option maxRecDepth 100000
namespace Go.Proofs.YtlomecfhobehnaaGreatDoor
open Lib (hid)
section
namespace Tm
open Ex
variable{E:Nat}
theorem Cnt.det{T R R':List Tok}{c c':Option X}(h:Cnt E T c R)(h':Cnt E T c' R'):c=c'∧R=R':=by
 cases h with
 |no h1=>cases h' with
  |no _=>exact⟨rfl,rfl⟩
  |yes g1 _ _=>exact absurd g1 h1
 |yes h1 h2 h3=>cases h' with
  |no g1=>exact absurd h1 g1
  |yes g1 g2 g3=>
   obtain⟨e1,e2⟩:=h2.det g2;cases e2;subst e1;exact⟨rfl,rfl⟩
theorem xJ:dA≠cu∧dA≠bL∧cu≠bL:=by decide
theorem dS.det{T R R':List Tok}{r r':Rl}(h:dS T r R)(h':dS T r' R'):r=r'∧R=R':=by
 have hs:=xJ;cases h with
 |size h1 _=>cases h' with
  |size=>exact⟨rfl,rfl⟩
  |count g1=>rw[h1]at g1;exact absurd g1 hs.1
  |eJ g1=>rw[h1]at g1;exact absurd g1 hs.2.1
  |eK g1=>rw[h1]at g1;exact absurd g1 hs.2.1
 |count h1 _=>cases h' with
  |size g1=>rw[h1]at g1;exact absurd g1.symm hs.1
  |count=>exact⟨rfl,rfl⟩
  |eJ g1=>rw[h1]at g1;exact absurd g1 hs.2.2
  |eK g1=>rw[h1]at g1;exact absurd g1 hs.2.2
 |eJ h1 _ h3=>cases h' with
  |size g1=>rw[h1]at g1;exact absurd g1.symm hs.2.1
  |count g1=>rw[h1]at g1;exact absurd g1.symm hs.2.2
  |eJ=>exact⟨rfl,rfl⟩
  |eK _ _ g3=>exact absurd h3 g3
 |eK h1 _ h3=>cases h' with
  |size g1=>rw[h1]at g1;exact absurd g1.symm hs.2.1
  |count g1=>rw[h1]at g1;exact absurd g1.symm hs.2.2
  |eJ _ _ g3=>exact absurd g3 h3
  |eK=>exact⟨rfl,rfl⟩
theorem lB.det{k:Knd}{T R R':List Tok}{s s':Tok}{c c':Option X}{r r':Rl}(h:lB E k T c r (s::R))(hs:s.1=[59])(h':lB E k T c' r' (s'::R'))(hs':s'.1=[59]):c=c'∧r=r'∧s::R=s'::R':=by
 have key:∀{T R:List Tok} {t s:Tok} {c:Option X},Cnt E (t::T) c (s::R)→t.1=[61]→s.1=[59]→False:=by
  intro T R t s c h1 h2 h3;cases h1 with
  |no _=>rw[h2]at h3;exact absurd h3 (by decide)
  |yes g1 _ _=>rw[h2]at g1;exact absurd g1 (by decide)
 cases h with
 |cnt h1 h2=>cases h' with
  |cnt g1 _=>obtain⟨e1,e2⟩:=h1.det g1;exact⟨e1,rfl,e2⟩
  |ax g1 g2=>exact(key h1 g1 hs).elim
 |ax h1 h2=>cases h' with
  |cnt g1 _=>exact(key g1 h1 hs').elim
  |ax g1 g2=>obtain⟨e1,e2⟩:=h2.det g2;exact⟨rfl,e1,e2⟩
theorem gV{w:Wd}(h:aN w=true):kq w=false:=by
 unfold aN at h;simp only[Bool.and_eq_true,Bool.not_eq_true']at h;exact h.1.2
theorem mF.det{t:Tok}{k k':Knd}(h:mF t k)(h':mF t k'):k=k':=by
 have h0:(kindOf cC).isSome=false:=by decide
 cases h with
 |scalar h1=>cases h' with
  |scalar=>rfl
  |bytes g=>rw[g,h0]at h1;cases h1
  |struct g=>have:=gV g;unfold kq at this;rw[h1,Bool.true_or]at this;cases this
 |bytes h1=>cases h' with
  |scalar g=>rw[h1,h0]at g;cases g
  |bytes=>rfl
  |struct g=>have:=gV g;rw[h1]at this;exact absurd this (by decide)
 |struct h1=>cases h' with
  |scalar g=>have:=gV h1;unfold kq at this;rw[g,Bool.true_or]at this;cases this
  |bytes g=>have:=gV h1;rw[g]at this;exact absurd this (by decide)
  |struct=>rfl
theorem HdP.det{T R R':List Tok}{a b:Hd}(h:HdP E T a R)(h':HdP E T b R'):a=b∧R=R':=by
 cases h with
 |mk h1 h2 h3 h4=>cases h' with
  |mk g1 g2 g3 g4=>
   have:=h1.det g1;subst this;obtain⟨e1,e2,e3⟩:=h3.det h4 g3 g4;cases e3;subst e1 e2;exact⟨rfl,rfl⟩
theorem mF.no{t:Tok}{k:Knd}(h:mF t k):t.1≠[125]∧t.1≠dz:=by
 cases h with
 |scalar h1=>constructor <;> (intro e;rw[e]at h1;exact absurd h1 (by decide))
 |bytes h1=>rw[h1];decide
 |struct h1=>constructor <;> (intro e;rw[e]at h1;exact absurd h1 (by decide))
theorem HdP.no{T R:List Tok}{a:Hd}(h:HdP E T a R):ak T≠[125]∧ak T≠dz:=by
 cases h with
 |mk h1=>exact h1.no
theorem Blk.det{d n:Nat}{T R:List Tok}{l:Its}(h:Blk E d n T l R):∀l' R',Blk E d n T l' R'→l=l'∧R=R':=by
 induction h with
 |fin h1=>
  intro l' R' h';cases h' with
  |fin _=>exact⟨rfl,rfl⟩
  |item _ g _=>exact absurd h1 g.no.1
  |when _ g=>rw[h1]at g;exact absurd g (by decide)
 |item h1 h2 h3 ih=>
  intro l' R' h';cases h' with
  |fin g=>exact absurd g h2.no.1
  |item _ g1 g2=>
   obtain⟨e1,e2⟩:=h2.det g1;subst e1 e2;obtain⟨e3,e4⟩:=ih _ _ g2;exact⟨by rw[e3],e4⟩
  |when _ g=>exact absurd g h2.no.2
 |when h1 h2 h3 h4 h5 _ _ ih1 ih2=>
  intro l' R' h';cases h' with
  |fin g=>rw[h2]at g;exact absurd g (by decide)
  |item _ g _=>exact absurd h2 g.no.2
  |when _ _ g3 _ _ g6 g7=>
   obtain⟨e1,e2⟩:=h3.det g3;cases e2;subst e1;obtain⟨e3,e4⟩:=ih1 _ _ g6;subst e3 e4;obtain⟨e5,e6⟩:=ih2 _ _ g7;exact⟨by rw[e5],e6⟩
theorem Tys.det{n:Nat}{T:List Tok}{l:List Ty}(h:Tys E n T l):∀l',Tys E n T l'→l=l':=by
 induction h with
 |fin=>intro l' h';cases h';rfl
 |one h1 h2 h3 h4 h5 _ ih=>
  intro l' h';cases h' with
  |one _ _ _ _ g5 g6=>
   obtain⟨e1,e2⟩:=h5.det _ _ g5;subst e1 e2;rw[ih _ g6]
def cU(T:List Tok):Prop:=∀t∈T,t.1≠[]∧∀c r,t.1=c::r→Lex.word c=true→∀b∈t.1,Lex.word b=true
theorem cU.suf{T R:List Tok}(h:cU T)(hs:R <:+ T):cU R:=fun t ht=>h t (hs.subset ht)
theorem cU.name{t:Tok}(h:t.1≠[]∧∀c r,t.1=c::r→Lex.word c=true→∀b∈t.1,Lex.word b=true)(hn:aN t.1=true):eL t.1:=by
 refine⟨⟨h.1,?_⟩,hn⟩;unfold aN at hn;simp only[Bool.and_eq_true]at hn;have h1:=hn.1.1;cases ht:t.1 with
 |nil=>exact absurd ht h.1
 |cons c r=>
  rw[ht]at h1;have:=h.2 c r ht (by unfold Lex.word;rw[show Lex.letter c.toNat=true from h1,Bool.true_or]);rwa[ht]at this
theorem eI.ew{T R:List Tok}{x:X}(h:eI E T x R)(hw:cU T):gU x:=by
 refine⟨AO CX h x R rfl (fun t ht=>(hw t ht).2) (by intro k y e;cases e),?_⟩;have:=AN (dec:=Num.dec) h (by omega) x R rfl (by intro k y e;cases e);simp only[]at this;split at this
 ·omega
 ·omega
theorem Cnt.ew{T R:List Tok}{c:Option X}(h:Cnt E T c R)(hw:cU T):∀x,c=some x→gU x:=by
 intro x e;cases h with
 |no=>cases e
 |yes _ h2 _=>cases e;exact h2.ew (hw.suf (List.suffix_cons _ _))
theorem dS.ew{T R:List Tok}{r:Rl}(h:dS T r R)(hw:cU T):zB r∧r≠.none:=by
 cases h with
 |size _ h2=>exact⟨cU.name (hw _ (by simp)) h2,by simp⟩
 |count _ h2=>exact⟨cU.name (hw _ (by simp)) h2,by simp⟩
 |eJ _ h2=>exact⟨⟨cU.name (hw _ (by simp)) h2,cU.name (hw _ (by simp)) h2⟩,by simp⟩
 |eK _ h2 _ h4=>exact⟨⟨cU.name (hw _ (by simp)) h2,cU.name (hw _ (by simp)) h4⟩,by simp⟩
theorem HdP.ew{T R:List Tok}{a:Hd}(h:HdP E T a R)(hw:cU T):fO a:=by
 cases h with
 |@mk t n s T R k c r h1 h2 h3 h4=>
  have hw2:cU T:=hw.suf (cH (List.suffix_cons _ _));refine⟨?_,cU.name (hw _ (by simp)) h2,?_⟩
  ·cases h1 with
   |scalar g=>exact g
   |bytes=>trivial
   |struct g=>exact cU.name (hw _ (by simp)) g
  ·cases h3 with
   |cnt g1 g2=>exact⟨fun x e=>⟨g1.ew hw2 x e,rfl⟩,trivial,g2,fun e=>absurd rfl e⟩
   |ax g1 g2=>exact⟨fun x e=>(by cases e),(g2.ew (hw2.suf (List.suffix_cons _ _))).1,fun e=>(by cases e),fun _=>⟨_,rfl⟩⟩
theorem Blk.ew{d n:Nat}{T R:List Tok}{l:Its}(h:Blk E d n T l R):cU T→bB l:=by
 induction h with
 |fin _=>intro _;trivial
 |item _ h1 _ ih=>intro hw;exact⟨h1.ew hw,ih (hw.suf h1.suf.1)⟩
 |when _ _ h3 _ _ h6 _ ih1 ih2=>
  intro hw;have hw1:=hw.suf (List.suffix_cons _ _);have hw2:=hw1.suf ((List.suffix_cons _ _).trans h3.suf.1);exact⟨h3.ew hw1,ih1 hw2,ih2 (hw2.suf h6.suf.1)⟩
theorem Tys.ew{n:Nat}{T:List Tok}{l:List Ty}(h:Tys E n T l):cU T→∀t∈l,aZ t:=by
 induction h with
 |fin=>intro _ t ht;simp at ht
 |one h1 h2 h3 h4 h5 _ ih=>
  intro hw t ht;have hw1:=hw.suf (cH (cH (List.suffix_cons _ _)));rcases List.mem_cons.1 ht with rfl|ht
  ·exact⟨cU.name (hw _ (by simp)) h3,h5.ew hw1⟩
  ·exact ih (hw1.suf h5.suf.1) t ht
end Tm
namespace Tm
open Ex
variable{E E':Nat}
theorem rC(u:Tok)(R:List Tok)(h:aD u.1=3):Stop 0 (u::R):=by
 intro t T' e j _ hm;cases e;have:=(cG j _ hm).2;omega
theorem eI.back{x:X}(hx:gU x){S R:List Tok}(hS:S.map Prod.fst=ptX x)(hR:Stop 0 R):∃y,gh x y∧eI E (S++R) y R:=by
 obtain⟨y,hy,ho⟩:=(Ex.back (num:=Num.numOf) (E:=E) x hx.1).1 0 S R 0 (by have:=hx.2;omega) hS (by omega) (by omega) (hR.mono (by omega));exact⟨y,hy,ho _ (hR.done y 0)⟩
theorem fC{S:List Tok}{a:Wd}{l:List Wd}(h:S.map Prod.fst=a::l):∃t S',S=t::S'∧t.1=a∧S'.map Prod.fst=l:=by
 obtain⟨t,S',h1,h2,h3⟩:=List.map_eq_cons_iff.1 h;exact⟨t,S',h1,h2,h3⟩
theorem AY{S:List Tok}{a b:List Wd}(h:S.map Prod.fst=a++b):∃U V,S=U++V∧U.map Prod.fst=a∧V.map Prod.fst=b:=by
 obtain⟨U,V,h1,h2,h3⟩:=List.map_eq_append_iff.1 h;exact⟨U,V,h1,h2,h3⟩
theorem AZ{h:Hd}(hf:fO h){S R:List Tok}(hS:S.map Prod.fst=pe h.cnt h.ax++[[59]]):∃c' s',uH h.cnt c'∧lB E h.k (S++R) c' h.ax (s'::R)∧s'.1=[59]:=by
 obtain⟨at_,k,name,cnt,ax⟩:=h;obtain⟨h1,h2,h3,h4,h5,h6⟩:=hf;simp only[]at *
 obtain⟨U,V,rfl,hU,hV⟩:=AY hS;obtain⟨s,V',rfl,hs,hV'⟩:=fC hV;obtain rfl:=List.map_eq_nil_iff.1 hV';have e:(U++[s])++R=U++s::R:=by simp
 rw[e];cases cnt with
 |some c=>
  obtain⟨hx,hr⟩:=h3 c rfl;subst hr;obtain⟨o,U1,rfl,ho,hU1⟩:=fC hU;obtain⟨P,Q,rfl,hP,hQ⟩:=AY hU1;obtain⟨u,Q',rfl,hu,hQ'⟩:=fC hQ;obtain rfl:=List.map_eq_nil_iff.1 hQ';obtain⟨y,hy,hp⟩:=eI.back (E:=E) hx hP (R:=u::s::R) (rC u _ (by rw[hu];decide));refine⟨some y,s,hy,.cnt ?_ (by simp),hs⟩;have e2:(o::(P++[u]))++s::R=o::(P++u::s::R):=by simp
  rw[e2];exact .yes ho hp hu
 |none=>
  refine⟨none,s,trivial,?_,hs⟩
  by_cases hr:ax= .none
  ·subst hr;obtain rfl:=List.map_eq_nil_iff.1 hU;refine .cnt (.no ?_) h5;show s.1≠[91];rw[hs];decide
  ·obtain⟨w,rfl⟩:=h6 hr;have hro:∃o U1,U=o::U1∧o.1=[61]∧dS (U1++s::R) ax (s::R):=by
    cases ax with
    |none=>exact absurd rfl hr
    |size f=>
     obtain⟨o,U1,rfl,ho,hU1⟩:=fC hU;obtain⟨a,U2,rfl,ha,hU2⟩:=fC hU1;obtain⟨b,U3,rfl,hb,hU3⟩:=fC hU2;obtain rfl:=List.map_eq_nil_iff.1 hU3;refine⟨o,_,rfl,ho,?_⟩;rw[← hb];exact .size ha (by rw[hb];exact h4.2)
    |count f=>
     obtain⟨o,U1,rfl,ho,hU1⟩:=fC hU;obtain⟨a,U2,rfl,ha,hU2⟩:=fC hU1;obtain⟨b,U3,rfl,hb,hU3⟩:=fC hU2;obtain rfl:=List.map_eq_nil_iff.1 hU3;refine⟨o,_,rfl,ho,?_⟩;rw[← hb];exact .count ha (by rw[hb];exact h4.2)
    |check f l=>
     unfold pe at hU;simp only[]at hU
     by_cases hfl:l=f
     ·rw[if_pos hfl]at hU;subst hfl;obtain⟨o,U1,rfl,ho,hU1⟩:=fC hU;obtain⟨a,U2,rfl,ha,hU2⟩:=fC hU1;obtain⟨b,U3,rfl,hb,hU3⟩:=fC hU2;obtain rfl:=List.map_eq_nil_iff.1 hU3;refine⟨o,_,rfl,ho,?_⟩;rw[← hb];exact .eJ ha (by rw[hb];exact h4.1.2) hs
     ·rw[if_neg hfl]at hU;obtain⟨o,U1,rfl,ho,hU1⟩:=fC hU;obtain⟨a,U2,rfl,ha,hU2⟩:=fC hU1;obtain⟨b,U3,rfl,hb,hU3⟩:=fC hU2;obtain⟨c,U4,rfl,hc,hU4⟩:=fC hU3;obtain rfl:=List.map_eq_nil_iff.1 hU4;refine⟨o,_,rfl,ho,?_⟩;rw[← hb,← hc];exact .eK ha (by rw[hb];exact h4.1.2) (by rw[hc];intro e;have:=h4.2.2;rw[e]at this;exact absurd this (by decide)) (by rw[hc];exact h4.2.2)
   obtain⟨o,U1,rfl,ho,hru⟩:=hro;exact .ax ho hru
end Tm
namespace Ex
section
variable{num:jd}{dec:Dec}(nm:List UInt8)(n:Nat)
inductive Sub:X→X→Prop where
 |num (a b m:Nat):Sub (.num a m) (.num b m)
 |name (a b:Nat) (s:List UInt8):s≠nm→Sub (.name a s) (.name b s)
 |put (a b:Nat):Sub (.name a nm) (.num b n)
 |bin (a b:Nat) (op:List UInt8) {l l' r r':X}:Sub l l'→Sub r r'→Sub (.bin a op l r) (.bin b op l' r')
end
end Ex
namespace Tm
open Ex
variable{E E':Nat}
theorem Tys.few{n:Nat}{T:List Tok}{l:List Ty}(h:Tys E n T l):n+l.length≤max n 8:=by
 induction h with
 |fin=>simp;omega
 |one h1 _ _ _ _ _ ih=>rw[Z6];omega
structure Ren(f:Wd→Wd):Prop where
 name:∀w,aN w=true→aN (f w)=true
 zC:∀w,aN w=false→f w=w
variable{f:Wd→Wd}
def A0(f:Wd→Wd):X→X→Prop
 | .num _ n,.num _ m=>n=m
 | .name _ s,.name _ t=>t=f s
 | .bin _ op l r,.bin _ op' l' r'=>op'=op∧A0 f l l'∧A0 f r r'
 |_,_=>False
end Tm
namespace Tm
open Ex
variable{E E':Nat}{f:Wd→Wd}
def Gm(f:Wd→Wd):Option X→Option X→Prop
 |none,none=>True
 |some a,some b=>A0 f a b
 |_,_=>False
def Gn(f:Wd→Wd):Knd→Knd
 | .scalar w=> .scalar w
 | .bytes=> .bytes
 | .struct t=> .struct (f t)
def mG(f:Wd→Wd):Rl→Rl
 | .none=> .none
 | .size a=> .size (f a)
 | .count a=> .count (f a)
 | .check a b=> .check (f a) (f b)
def G'(f:Wd→Wd)(a b:Hd):Prop:=b.k=Gn f a.k∧b.name=f a.name∧Gm f a.cnt b.cnt∧b.ax=mG f a.ax
inductive qO(f:Wd→Wd):Its→Its→Prop where
 |nil:qO f .nil .nil
 |cons {h h':Hd} {l l':Its}:G' f h h'→qO f l l'→qO f (.cons h l) (.cons h' l')
 |when {a a':Nat} {c c':X} {b b' l l':Its}:A0 f c c'→qO f b b'→qO f l l'→qO f (.when a c b l) (.when a' c' b' l')
def Hn(f:Wd→Wd)(a b:Ty):Prop:=b.name=f a.name∧qO f a.items b.items
inductive uL(f:Wd→Wd):List Ty→List Ty→Prop where
 |nil:uL f [] []
 |cons {a b:Ty} {l m:List Ty}:Hn f a b→uL f l m→uL f (a::l) (b::m)
theorem Gp:Ren id:=⟨fun w h=>h,fun w h=>rfl⟩
end Tm
end
section
open Go.RowKit
open Rd
theorem A1(l:List UInt8)(j:Nat):(aa l).extract j l.length=aa (l.drop j):=by
 apply ByteArray.ext;apply Array.ext';rw[ByteArray.data_extract,Array.toList_extract];show List.extract l j l.length=l.drop j;rw[List.extract_eq_take_drop];exact List.take_of_length_le (by rw[List.length_drop];exact Z5 _)
theorem Gq(l:List UInt8)(w:World)(h2:2≤l.length)(h9:l.length≤100):Calls Tryz.prog 151 #[.string (aa l),.string {data:= #[98,101]}] w fun e w'=>e= .returned (.bool (l.drop (l.length - 2)==[98,101]))∧w'=w:=by
 have hx:=A1 l (l.length - 2);have h1:(2:Int)≤(l.length:Int):=by omega
 have d1:decide ((2:Int)≤(l.length:Int))=true:=Z9 h1;have d1n:decide (2≤l.length)=true:=Z9 h2;have hsub:(l.length:Int) - 2=((l.length - 2:Nat):Int):=by omega
 obtain⟨j,hj⟩:∃j,j=l.length - 2:=⟨_,rfl⟩;rw[← hj]at hx hsub⊢;have hjl:(j:Int)≤(l.length:Int):=by omega
 obtain⟨m,hm⟩:∃m,m=l.drop j:=⟨_,rfl⟩;rw[← hm]at hx⊢;clear hj hm;go_enter Tryz.func151,Tryz.ntmps151;go_wp2_with fail;go_ret;exact⟨rfl,rfl⟩
theorem gK(l:List UInt8)(w:World)(h2:2≤l.length)(h9:l.length≤100):Calls Tryz.prog 137 #[.string (aa l),.string {data:= #[98,101]}] w fun e w'=>e= .returned (.bool (l.drop (l.length - 2)==[98,101]))∧w'=w:=by
 have H:=hid (Gq l w h2 h9);generalize(l.drop (l.length - 2)==[98,101])=b at *
 clear h2 h9;go_enter Tryz.func137,Tryz.ntmps137;go_wp2_with fail;refine H.out.mono ?_;rintro e w1 ⟨rfl,rfl⟩;go_wp2_with fail;go_ret;exact⟨rfl,rfl⟩
theorem EJ(l:Tm.Wd)(hl:l=[117,56])(w:World):Calls Tryz.prog 112 #[.string (aa l)] w fun e w'=>e= .returned (.tuple #[.int .i64 1,.int .i64 0,.bool false,.bool true])∧∃k,w'=w.drewN k:=by
 have e0:(l==[117,56])=true:=by rw[hl];decide
 have e1:(l==[105,56])=false:=by rw[hl];decide
 have e2:(l==[117,49,54,108,101])=false:=by rw[hl];decide
 have e3:(l==[117,49,54,98,101])=false:=by rw[hl];decide
 have e4:(l==[105,49,54,108,101])=false:=by rw[hl];decide
 have e5:(l==[105,49,54,98,101])=false:=by rw[hl];decide
 have e6:(l==[117,51,50,108,101])=false:=by rw[hl];decide
 have e7:(l==[117,51,50,98,101])=false:=by rw[hl];decide
 have e8:(l==[105,51,50,108,101])=false:=by rw[hl];decide
 have e9:(l==[105,51,50,98,101])=false:=by rw[hl];decide
 have e10:(l==[105,54,52,108,101])=false:=by rw[hl];decide
 have e11:(l==[105,54,52,98,101])=false:=by rw[hl];decide
 clear hl;go_enter Tryz.func112,Tryz.ntmps112;go_wp2_with fail;exact bodyPost_ret (v:= .tuple #[.int .i64 1,.int .i64 0,.bool false,.bool true]) (by simp[results,Tryz.results112,go_sem]) rfl ⟨rfl,0,rfl⟩
theorem EK(l:Tm.Wd)(hl:l=[105,56])(w:World):Calls Tryz.prog 112 #[.string (aa l)] w fun e w'=>e= .returned (.tuple #[.int .i64 1,.int .i64 0,.bool true,.bool true])∧∃k,w'=w.drewN k:=by
 have e0:(l==[117,56])=false:=by rw[hl];decide
 have e1:(l==[105,56])=true:=by rw[hl];decide
 have e2:(l==[117,49,54,108,101])=false:=by rw[hl];decide
 have e3:(l==[117,49,54,98,101])=false:=by rw[hl];decide
 have e4:(l==[105,49,54,108,101])=false:=by rw[hl];decide
 have e5:(l==[105,49,54,98,101])=false:=by rw[hl];decide
 have e6:(l==[117,51,50,108,101])=false:=by rw[hl];decide
 have e7:(l==[117,51,50,98,101])=false:=by rw[hl];decide
 have e8:(l==[105,51,50,108,101])=false:=by rw[hl];decide
 have e9:(l==[105,51,50,98,101])=false:=by rw[hl];decide
 have e10:(l==[105,54,52,108,101])=false:=by rw[hl];decide
 have e11:(l==[105,54,52,98,101])=false:=by rw[hl];decide
 clear hl;go_enter Tryz.func112,Tryz.ntmps112;go_wp2_with fail;exact bodyPost_ret (v:= .tuple #[.int .i64 1,.int .i64 0,.bool true,.bool true]) (by simp[results,Tryz.results112,go_sem]) rfl ⟨rfl,0,rfl⟩
theorem EL(l:Tm.Wd)(hl:l=[117,49,54,108,101])(w:World):Calls Tryz.prog 112 #[.string (aa l)] w fun e w'=>e= .returned (.tuple #[.int .i64 2,.int .i64 0,.bool false,.bool true])∧∃k,w'=w.drewN k:=by
 have e0:(l==[117,56])=false:=by rw[hl];decide
 have e1:(l==[105,56])=false:=by rw[hl];decide
 have e2:(l==[117,49,54,108,101])=true:=by rw[hl];decide
 have e3:(l==[117,49,54,98,101])=false:=by rw[hl];decide
 have e4:(l==[105,49,54,108,101])=false:=by rw[hl];decide
 have e5:(l==[105,49,54,98,101])=false:=by rw[hl];decide
 have e6:(l==[117,51,50,108,101])=false:=by rw[hl];decide
 have e7:(l==[117,51,50,98,101])=false:=by rw[hl];decide
 have e8:(l==[105,51,50,108,101])=false:=by rw[hl];decide
 have e9:(l==[105,51,50,98,101])=false:=by rw[hl];decide
 have e10:(l==[105,54,52,108,101])=false:=by rw[hl];decide
 have e11:(l==[105,54,52,98,101])=false:=by rw[hl];decide
 have hs:=gK l w (by rw[hl];decide) (by rw[hl];decide);rw[show(l.drop (l.length - 2)==[98,101])=false by rw[hl];decide]at hs;have HS:=hid hs;have hpos:0 < l.length:=by rw[hl];decide
 have hposI:(0:Int) < (l.length:Int):=by omega
 have hcx:∀h:0 < (aa l).size,((aa l)[0]'h).toNat=117:=by subst hl;intro h;rfl
 clear hs;clear hl;go_enter Tryz.func112,Tryz.ntmps112;go_wp2_with fail;refine HS.out.mono ?_;rintro e w1 ⟨rfl,rfl⟩;go_wp2_with fail;go_quiet (fail);go_wp2_with fail;exact bodyPost_ret (v:= .tuple #[.int .i64 2,.int .i64 0,.bool false,.bool true]) (by simp[results,Tryz.results112,go_sem]) rfl ⟨rfl,_,rfl⟩
theorem EM(l:Tm.Wd)(hl:l=[117,49,54,98,101])(w:World):Calls Tryz.prog 112 #[.string (aa l)] w fun e w'=>e= .returned (.tuple #[.int .i64 2,.int .i64 1,.bool false,.bool true])∧∃k,w'=w.drewN k:=by
 have e0:(l==[117,56])=false:=by rw[hl];decide
 have e1:(l==[105,56])=false:=by rw[hl];decide
 have e2:(l==[117,49,54,108,101])=false:=by rw[hl];decide
 have e3:(l==[117,49,54,98,101])=true:=by rw[hl];decide
 have e4:(l==[105,49,54,108,101])=false:=by rw[hl];decide
 have e5:(l==[105,49,54,98,101])=false:=by rw[hl];decide
 have e6:(l==[117,51,50,108,101])=false:=by rw[hl];decide
 have e7:(l==[117,51,50,98,101])=false:=by rw[hl];decide
 have e8:(l==[105,51,50,108,101])=false:=by rw[hl];decide
 have e9:(l==[105,51,50,98,101])=false:=by rw[hl];decide
 have e10:(l==[105,54,52,108,101])=false:=by rw[hl];decide
 have e11:(l==[105,54,52,98,101])=false:=by rw[hl];decide
 have hs:=gK l w (by rw[hl];decide) (by rw[hl];decide);rw[show(l.drop (l.length - 2)==[98,101])=true by rw[hl];decide]at hs;have HS:=hid hs;have hpos:0 < l.length:=by rw[hl];decide
 have hposI:(0:Int) < (l.length:Int):=by omega
 have hcx:∀h:0 < (aa l).size,((aa l)[0]'h).toNat=117:=by subst hl;intro h;rfl
 clear hs;clear hl;go_enter Tryz.func112,Tryz.ntmps112;go_wp2_with fail;refine HS.out.mono ?_;rintro e w1 ⟨rfl,rfl⟩;go_wp2_with fail;go_quiet (fail);go_wp2_with fail;exact bodyPost_ret (v:= .tuple #[.int .i64 2,.int .i64 1,.bool false,.bool true]) (by simp[results,Tryz.results112,go_sem]) rfl ⟨rfl,_,rfl⟩
theorem EN(l:Tm.Wd)(hl:l=[105,49,54,108,101])(w:World):Calls Tryz.prog 112 #[.string (aa l)] w fun e w'=>e= .returned (.tuple #[.int .i64 2,.int .i64 0,.bool true,.bool true])∧∃k,w'=w.drewN k:=by
 have e0:(l==[117,56])=false:=by rw[hl];decide
 have e1:(l==[105,56])=false:=by rw[hl];decide
 have e2:(l==[117,49,54,108,101])=false:=by rw[hl];decide
 have e3:(l==[117,49,54,98,101])=false:=by rw[hl];decide
 have e4:(l==[105,49,54,108,101])=true:=by rw[hl];decide
 have e5:(l==[105,49,54,98,101])=false:=by rw[hl];decide
 have e6:(l==[117,51,50,108,101])=false:=by rw[hl];decide
 have e7:(l==[117,51,50,98,101])=false:=by rw[hl];decide
 have e8:(l==[105,51,50,108,101])=false:=by rw[hl];decide
 have e9:(l==[105,51,50,98,101])=false:=by rw[hl];decide
 have e10:(l==[105,54,52,108,101])=false:=by rw[hl];decide
 have e11:(l==[105,54,52,98,101])=false:=by rw[hl];decide
 have hs:=gK l w (by rw[hl];decide) (by rw[hl];decide);rw[show(l.drop (l.length - 2)==[98,101])=false by rw[hl];decide]at hs;have HS:=hid hs;have hpos:0 < l.length:=by rw[hl];decide
 have hposI:(0:Int) < (l.length:Int):=by omega
 have hcx:∀h:0 < (aa l).size,((aa l)[0]'h).toNat=105:=by subst hl;intro h;rfl
 clear hs;clear hl;go_enter Tryz.func112,Tryz.ntmps112;go_wp2_with fail;refine HS.out.mono ?_;rintro e w1 ⟨rfl,rfl⟩;go_wp2_with fail;go_quiet (fail);go_wp2_with fail;exact bodyPost_ret (v:= .tuple #[.int .i64 2,.int .i64 0,.bool true,.bool true]) (by simp[results,Tryz.results112,go_sem]) rfl ⟨rfl,_,rfl⟩
theorem EO(l:Tm.Wd)(hl:l=[105,49,54,98,101])(w:World):Calls Tryz.prog 112 #[.string (aa l)] w fun e w'=>e= .returned (.tuple #[.int .i64 2,.int .i64 1,.bool true,.bool true])∧∃k,w'=w.drewN k:=by
 have e0:(l==[117,56])=false:=by rw[hl];decide
 have e1:(l==[105,56])=false:=by rw[hl];decide
 have e2:(l==[117,49,54,108,101])=false:=by rw[hl];decide
 have e3:(l==[117,49,54,98,101])=false:=by rw[hl];decide
 have e4:(l==[105,49,54,108,101])=false:=by rw[hl];decide
 have e5:(l==[105,49,54,98,101])=true:=by rw[hl];decide
 have e6:(l==[117,51,50,108,101])=false:=by rw[hl];decide
 have e7:(l==[117,51,50,98,101])=false:=by rw[hl];decide
 have e8:(l==[105,51,50,108,101])=false:=by rw[hl];decide
 have e9:(l==[105,51,50,98,101])=false:=by rw[hl];decide
 have e10:(l==[105,54,52,108,101])=false:=by rw[hl];decide
 have e11:(l==[105,54,52,98,101])=false:=by rw[hl];decide
 have hs:=gK l w (by rw[hl];decide) (by rw[hl];decide);rw[show(l.drop (l.length - 2)==[98,101])=true by rw[hl];decide]at hs;have HS:=hid hs;have hpos:0 < l.length:=by rw[hl];decide
 have hposI:(0:Int) < (l.length:Int):=by omega
 have hcx:∀h:0 < (aa l).size,((aa l)[0]'h).toNat=105:=by subst hl;intro h;rfl
 clear hs;clear hl;go_enter Tryz.func112,Tryz.ntmps112;go_wp2_with fail;refine HS.out.mono ?_;rintro e w1 ⟨rfl,rfl⟩;go_wp2_with fail;go_quiet (fail);go_wp2_with fail;exact bodyPost_ret (v:= .tuple #[.int .i64 2,.int .i64 1,.bool true,.bool true]) (by simp[results,Tryz.results112,go_sem]) rfl ⟨rfl,_,rfl⟩
theorem EP(l:Tm.Wd)(hl:l=[117,51,50,108,101])(w:World):Calls Tryz.prog 112 #[.string (aa l)] w fun e w'=>e= .returned (.tuple #[.int .i64 4,.int .i64 0,.bool false,.bool true])∧∃k,w'=w.drewN k:=by
 have e0:(l==[117,56])=false:=by rw[hl];decide
 have e1:(l==[105,56])=false:=by rw[hl];decide
 have e2:(l==[117,49,54,108,101])=false:=by rw[hl];decide
 have e3:(l==[117,49,54,98,101])=false:=by rw[hl];decide
 have e4:(l==[105,49,54,108,101])=false:=by rw[hl];decide
 have e5:(l==[105,49,54,98,101])=false:=by rw[hl];decide
 have e6:(l==[117,51,50,108,101])=true:=by rw[hl];decide
 have e7:(l==[117,51,50,98,101])=false:=by rw[hl];decide
 have e8:(l==[105,51,50,108,101])=false:=by rw[hl];decide
 have e9:(l==[105,51,50,98,101])=false:=by rw[hl];decide
 have e10:(l==[105,54,52,108,101])=false:=by rw[hl];decide
 have e11:(l==[105,54,52,98,101])=false:=by rw[hl];decide
 have hs:=gK l w (by rw[hl];decide) (by rw[hl];decide);rw[show(l.drop (l.length - 2)==[98,101])=false by rw[hl];decide]at hs;have HS:=hid hs;have hpos:0 < l.length:=by rw[hl];decide
 have hposI:(0:Int) < (l.length:Int):=by omega
 have hcx:∀h:0 < (aa l).size,((aa l)[0]'h).toNat=117:=by subst hl;intro h;rfl
 clear hs;clear hl;go_enter Tryz.func112,Tryz.ntmps112;go_wp2_with fail;refine HS.out.mono ?_;rintro e w1 ⟨rfl,rfl⟩;go_wp2_with fail;go_quiet (fail);go_wp2_with fail;exact bodyPost_ret (v:= .tuple #[.int .i64 4,.int .i64 0,.bool false,.bool true]) (by simp[results,Tryz.results112,go_sem]) rfl ⟨rfl,_,rfl⟩
theorem ER(l:Tm.Wd)(hl:l=[117,51,50,98,101])(w:World):Calls Tryz.prog 112 #[.string (aa l)] w fun e w'=>e= .returned (.tuple #[.int .i64 4,.int .i64 1,.bool false,.bool true])∧∃k,w'=w.drewN k:=by
 have e0:(l==[117,56])=false:=by rw[hl];decide
 have e1:(l==[105,56])=false:=by rw[hl];decide
 have e2:(l==[117,49,54,108,101])=false:=by rw[hl];decide
 have e3:(l==[117,49,54,98,101])=false:=by rw[hl];decide
 have e4:(l==[105,49,54,108,101])=false:=by rw[hl];decide
 have e5:(l==[105,49,54,98,101])=false:=by rw[hl];decide
 have e6:(l==[117,51,50,108,101])=false:=by rw[hl];decide
 have e7:(l==[117,51,50,98,101])=true:=by rw[hl];decide
 have e8:(l==[105,51,50,108,101])=false:=by rw[hl];decide
 have e9:(l==[105,51,50,98,101])=false:=by rw[hl];decide
 have e10:(l==[105,54,52,108,101])=false:=by rw[hl];decide
 have e11:(l==[105,54,52,98,101])=false:=by rw[hl];decide
 have hs:=gK l w (by rw[hl];decide) (by rw[hl];decide);rw[show(l.drop (l.length - 2)==[98,101])=true by rw[hl];decide]at hs;have HS:=hid hs;have hpos:0 < l.length:=by rw[hl];decide
 have hposI:(0:Int) < (l.length:Int):=by omega
 have hcx:∀h:0 < (aa l).size,((aa l)[0]'h).toNat=117:=by subst hl;intro h;rfl
 clear hs;clear hl;go_enter Tryz.func112,Tryz.ntmps112;go_wp2_with fail;refine HS.out.mono ?_;rintro e w1 ⟨rfl,rfl⟩;go_wp2_with fail;go_quiet (fail);go_wp2_with fail;exact bodyPost_ret (v:= .tuple #[.int .i64 4,.int .i64 1,.bool false,.bool true]) (by simp[results,Tryz.results112,go_sem]) rfl ⟨rfl,_,rfl⟩
theorem ES(l:Tm.Wd)(hl:l=[105,51,50,108,101])(w:World):Calls Tryz.prog 112 #[.string (aa l)] w fun e w'=>e= .returned (.tuple #[.int .i64 4,.int .i64 0,.bool true,.bool true])∧∃k,w'=w.drewN k:=by
 have e0:(l==[117,56])=false:=by rw[hl];decide
 have e1:(l==[105,56])=false:=by rw[hl];decide
 have e2:(l==[117,49,54,108,101])=false:=by rw[hl];decide
 have e3:(l==[117,49,54,98,101])=false:=by rw[hl];decide
 have e4:(l==[105,49,54,108,101])=false:=by rw[hl];decide
 have e5:(l==[105,49,54,98,101])=false:=by rw[hl];decide
 have e6:(l==[117,51,50,108,101])=false:=by rw[hl];decide
 have e7:(l==[117,51,50,98,101])=false:=by rw[hl];decide
 have e8:(l==[105,51,50,108,101])=true:=by rw[hl];decide
 have e9:(l==[105,51,50,98,101])=false:=by rw[hl];decide
 have e10:(l==[105,54,52,108,101])=false:=by rw[hl];decide
 have e11:(l==[105,54,52,98,101])=false:=by rw[hl];decide
 have hs:=gK l w (by rw[hl];decide) (by rw[hl];decide);rw[show(l.drop (l.length - 2)==[98,101])=false by rw[hl];decide]at hs;have HS:=hid hs;have hpos:0 < l.length:=by rw[hl];decide
 have hposI:(0:Int) < (l.length:Int):=by omega
 have hcx:∀h:0 < (aa l).size,((aa l)[0]'h).toNat=105:=by subst hl;intro h;rfl
 clear hs;clear hl;go_enter Tryz.func112,Tryz.ntmps112;go_wp2_with fail;refine HS.out.mono ?_;rintro e w1 ⟨rfl,rfl⟩;go_wp2_with fail;go_quiet (fail);go_wp2_with fail;exact bodyPost_ret (v:= .tuple #[.int .i64 4,.int .i64 0,.bool true,.bool true]) (by simp[results,Tryz.results112,go_sem]) rfl ⟨rfl,_,rfl⟩
theorem ET(l:Tm.Wd)(hl:l=[105,51,50,98,101])(w:World):Calls Tryz.prog 112 #[.string (aa l)] w fun e w'=>e= .returned (.tuple #[.int .i64 4,.int .i64 1,.bool true,.bool true])∧∃k,w'=w.drewN k:=by
 have e0:(l==[117,56])=false:=by rw[hl];decide
 have e1:(l==[105,56])=false:=by rw[hl];decide
 have e2:(l==[117,49,54,108,101])=false:=by rw[hl];decide
 have e3:(l==[117,49,54,98,101])=false:=by rw[hl];decide
 have e4:(l==[105,49,54,108,101])=false:=by rw[hl];decide
 have e5:(l==[105,49,54,98,101])=false:=by rw[hl];decide
 have e6:(l==[117,51,50,108,101])=false:=by rw[hl];decide
 have e7:(l==[117,51,50,98,101])=false:=by rw[hl];decide
 have e8:(l==[105,51,50,108,101])=false:=by rw[hl];decide
 have e9:(l==[105,51,50,98,101])=true:=by rw[hl];decide
 have e10:(l==[105,54,52,108,101])=false:=by rw[hl];decide
 have e11:(l==[105,54,52,98,101])=false:=by rw[hl];decide
 have hs:=gK l w (by rw[hl];decide) (by rw[hl];decide);rw[show(l.drop (l.length - 2)==[98,101])=true by rw[hl];decide]at hs;have HS:=hid hs;have hpos:0 < l.length:=by rw[hl];decide
 have hposI:(0:Int) < (l.length:Int):=by omega
 have hcx:∀h:0 < (aa l).size,((aa l)[0]'h).toNat=105:=by subst hl;intro h;rfl
 clear hs;clear hl;go_enter Tryz.func112,Tryz.ntmps112;go_wp2_with fail;refine HS.out.mono ?_;rintro e w1 ⟨rfl,rfl⟩;go_wp2_with fail;go_quiet (fail);go_wp2_with fail;exact bodyPost_ret (v:= .tuple #[.int .i64 4,.int .i64 1,.bool true,.bool true]) (by simp[results,Tryz.results112,go_sem]) rfl ⟨rfl,_,rfl⟩
theorem C9(l:Tm.Wd)(hl:l=[105,54,52,108,101])(w:World):Calls Tryz.prog 112 #[.string (aa l)] w fun e w'=>e= .returned (.tuple #[.int .i64 8,.int .i64 0,.bool true,.bool true])∧∃k,w'=w.drewN k:=by
 have e0:(l==[117,56])=false:=by rw[hl];decide
 have e1:(l==[105,56])=false:=by rw[hl];decide
 have e2:(l==[117,49,54,108,101])=false:=by rw[hl];decide
 have e3:(l==[117,49,54,98,101])=false:=by rw[hl];decide
 have e4:(l==[105,49,54,108,101])=false:=by rw[hl];decide
 have e5:(l==[105,49,54,98,101])=false:=by rw[hl];decide
 have e6:(l==[117,51,50,108,101])=false:=by rw[hl];decide
 have e7:(l==[117,51,50,98,101])=false:=by rw[hl];decide
 have e8:(l==[105,51,50,108,101])=false:=by rw[hl];decide
 have e9:(l==[105,51,50,98,101])=false:=by rw[hl];decide
 have e10:(l==[105,54,52,108,101])=true:=by rw[hl];decide
 have e11:(l==[105,54,52,98,101])=false:=by rw[hl];decide
 have hs:=gK l w (by rw[hl];decide) (by rw[hl];decide);rw[show(l.drop (l.length - 2)==[98,101])=false by rw[hl];decide]at hs;have HS:=hid hs;have hpos:0 < l.length:=by rw[hl];decide
 have hposI:(0:Int) < (l.length:Int):=by omega
 have hcx:∀h:0 < (aa l).size,((aa l)[0]'h).toNat=105:=by subst hl;intro h;rfl
 clear hs;clear hl;go_enter Tryz.func112,Tryz.ntmps112;go_wp2_with fail;refine HS.out.mono ?_;rintro e w1 ⟨rfl,rfl⟩;go_wp2_with fail;go_quiet (fail);go_wp2_with fail;exact bodyPost_ret (v:= .tuple #[.int .i64 8,.int .i64 0,.bool true,.bool true]) (by simp[results,Tryz.results112,go_sem]) rfl ⟨rfl,_,rfl⟩
theorem C'(l:Tm.Wd)(hl:l=[105,54,52,98,101])(w:World):Calls Tryz.prog 112 #[.string (aa l)] w fun e w'=>e= .returned (.tuple #[.int .i64 8,.int .i64 1,.bool true,.bool true])∧∃k,w'=w.drewN k:=by
 have e0:(l==[117,56])=false:=by rw[hl];decide
 have e1:(l==[105,56])=false:=by rw[hl];decide
 have e2:(l==[117,49,54,108,101])=false:=by rw[hl];decide
 have e3:(l==[117,49,54,98,101])=false:=by rw[hl];decide
 have e4:(l==[105,49,54,108,101])=false:=by rw[hl];decide
 have e5:(l==[105,49,54,98,101])=false:=by rw[hl];decide
 have e6:(l==[117,51,50,108,101])=false:=by rw[hl];decide
 have e7:(l==[117,51,50,98,101])=false:=by rw[hl];decide
 have e8:(l==[105,51,50,108,101])=false:=by rw[hl];decide
 have e9:(l==[105,51,50,98,101])=false:=by rw[hl];decide
 have e10:(l==[105,54,52,108,101])=false:=by rw[hl];decide
 have e11:(l==[105,54,52,98,101])=true:=by rw[hl];decide
 have hs:=gK l w (by rw[hl];decide) (by rw[hl];decide);rw[show(l.drop (l.length - 2)==[98,101])=true by rw[hl];decide]at hs;have HS:=hid hs;have hpos:0 < l.length:=by rw[hl];decide
 have hposI:(0:Int) < (l.length:Int):=by omega
 have hcx:∀h:0 < (aa l).size,((aa l)[0]'h).toNat=105:=by subst hl;intro h;rfl
 clear hs;clear hl;go_enter Tryz.func112,Tryz.ntmps112;go_wp2_with fail;refine HS.out.mono ?_;rintro e w1 ⟨rfl,rfl⟩;go_wp2_with fail;go_quiet (fail);go_wp2_with fail;exact bodyPost_ret (v:= .tuple #[.int .i64 8,.int .i64 1,.bool true,.bool true]) (by simp[results,Tryz.results112,go_sem]) rfl ⟨rfl,_,rfl⟩
theorem ow(l:Tm.Wd)(hl:Tm.kindOf l=none)(w:World):Calls Tryz.prog 112 #[.string (aa l)] w fun e w'=>e= .returned (.tuple #[.int .i64 0,.int .i64 0,.bool false,.bool false])∧∃k,w'=w.drewN k:=by
 have hk:∀p∈Tm.bk,(l==p.1)=false:=by
  intro p hp;unfold Tm.kindOf at hl;rw[Option.map_eq_none_iff,List.find?_eq_none]at hl;have:=hl p hp;rw[Z8];intro e;apply this;rw[beq_iff_eq];exact e.symm
 have e0:=hk ([117,56],1,0,false) (by decide);have e1:=hk ([105,56],1,0,true) (by decide);have e2:=hk ([117,49,54,108,101],2,0,false) (by decide);have e3:=hk ([117,49,54,98,101],2,1,false) (by decide);have e4:=hk ([105,49,54,108,101],2,0,true) (by decide);have e5:=hk ([105,49,54,98,101],2,1,true) (by decide);have e6:=hk ([117,51,50,108,101],4,0,false) (by decide);have e7:=hk ([117,51,50,98,101],4,1,false) (by decide);have e8:=hk ([105,51,50,108,101],4,0,true) (by decide);have e9:=hk ([105,51,50,98,101],4,1,true) (by decide);have e10:=hk ([105,54,52,108,101],8,0,true) (by decide);have e11:=hk ([105,54,52,98,101],8,1,true) (by decide);simp only[]at e0 e1 e2 e3 e4 e5 e6 e7 e8 e9 e10 e11;clear hl hk;go_enter Tryz.func112,Tryz.ntmps112;go_wp2_with fail;exact bodyPost_ret (v:= .tuple #[.int .i64 0,.int .i64 0,.bool false,.bool false]) (by simp[results,Tryz.results112,go_sem]) rfl ⟨rfl,0,rfl⟩
def cV(l:Tm.Wd):Nat×Nat×Bool:=(Tm.kindOf l).getD (0,0,false)
theorem uM(l:Tm.Wd)(w:World):Calls Tryz.prog 112 #[.string (aa l)] w fun e w'=>e= .returned (.tuple #[.int .i64 ((cV l).1:Nat),.int .i64 ((cV l).2.1:Nat),.bool (cV l).2.2,.bool (Tm.kindOf l).isSome])∧∃k,w'=w.drewN k:=by
 cases hk:Tm.kindOf l with
 |none=>unfold cV;rw[hk];exact ow l hk w
 |some v=>
  have hm:∃p∈Tm.bk,l=p.1:=by
   unfold Tm.kindOf at hk;rw[Option.map_eq_some_iff]at hk;obtain⟨p,hp,_⟩:=hk;have h2:=List.find?_some hp;rw[beq_iff_eq]at h2;exact⟨p,List.mem_of_find?_eq_some hp,h2.symm⟩
  obtain⟨p,hp,rfl⟩:=hm;unfold cV;rw[hk];simp only[Tm.bk,List.mem_cons,List.not_mem_nil,or_false]at hp;rcases hp with rfl|rfl|rfl|rfl|rfl|rfl|rfl|rfl|rfl|rfl|rfl|rfl
  ·obtain rfl:v=(1,0,false):=by have:=hk;simpa[Tm.kindOf,Tm.bk]using this.symm
   exact EJ _ rfl w
  ·obtain rfl:v=(1,0,true):=by have:=hk;simpa[Tm.kindOf,Tm.bk]using this.symm
   exact EK _ rfl w
  ·obtain rfl:v=(2,0,false):=by have:=hk;simpa[Tm.kindOf,Tm.bk]using this.symm
   exact EL _ rfl w
  ·obtain rfl:v=(2,1,false):=by have:=hk;simpa[Tm.kindOf,Tm.bk]using this.symm
   exact EM _ rfl w
  ·obtain rfl:v=(2,0,true):=by have:=hk;simpa[Tm.kindOf,Tm.bk]using this.symm
   exact EN _ rfl w
  ·obtain rfl:v=(2,1,true):=by have:=hk;simpa[Tm.kindOf,Tm.bk]using this.symm
   exact EO _ rfl w
  ·obtain rfl:v=(4,0,false):=by have:=hk;simpa[Tm.kindOf,Tm.bk]using this.symm
   exact EP _ rfl w
  ·obtain rfl:v=(4,1,false):=by have:=hk;simpa[Tm.kindOf,Tm.bk]using this.symm
   exact ER _ rfl w
  ·obtain rfl:v=(4,0,true):=by have:=hk;simpa[Tm.kindOf,Tm.bk]using this.symm
   exact ES _ rfl w
  ·obtain rfl:v=(4,1,true):=by have:=hk;simpa[Tm.kindOf,Tm.bk]using this.symm
   exact ET _ rfl w
  ·obtain rfl:v=(8,0,true):=by have:=hk;simpa[Tm.kindOf,Tm.bk]using this.symm
   exact C9 _ rfl w
  ·obtain rfl:v=(8,1,true):=by have:=hk;simpa[Tm.kindOf,Tm.bk]using this.symm
   exact C' _ rfl w
theorem uN(l:Tm.Wd)(w:World):Calls Tryz.prog 87 #[.string (aa l)] w fun e w'=>e= .returned (.bool (Tm.kq l))∧∃k,w'=w.drewN k:=by
 have HK:=hid (uM l w);unfold Tm.kq;generalize(cV l).1=a at *
 generalize(cV l).2.1=b at *
 generalize(cV l).2.2=c at *
 cases hz:(Tm.kindOf l).isSome with
 |true=>
  rw[hz]at HK;clear hz;go_enter Tryz.func87,Tryz.ntmps87;go_wp2_with fail;refine HK.out.mono ?_;rintro e w1 ⟨rfl,k,rfl⟩;go_wp2_with fail;go_ret;exact⟨rfl,k,rfl⟩
 |false=>
  rw[hz]at HK;clear hz;have hc:Tm.fK.contains l=((((((l==[115,116,114,117,99,116])||(l==[98,121,116,101,115]))||(l==[119,104,101,110]))||(l==[115,105,122,101]))||(l==[99,111,117,110,116]))||(l==[99,104,101,99,107])):=by
   rw[Bool.eq_iff_iff];simp[Tm.fK,Tm.cN,Tm.cC,Tm.dz,Tm.dA,Tm.cu,Tm.bL,or_assoc]
  rw[hc,Bool.false_or];have HC:=hid hc;clear hc;go_enter Tryz.func87,Tryz.ntmps87;go_wp2_with fail;refine HK.out.mono ?_;rintro e w1 ⟨rfl,k,rfl⟩;go_wp2_with fail
  all_goals
   go_ret;refine⟨ja ?_,k,rfl⟩
   simp_all
namespace Rd
theorem Rdr.drewN{w:World}{rb:Nat}{R:List Tok}{E:Nat}(h:Rdr w rb R E)(k:Nat):Rdr (w.drewN k) rb R E:=h.below ⟨rfl,rfl,rfl,Z5 _,fun _ _=>rfl⟩
theorem fP(w:World)(k:Nat)(r:Option Nat):w.grownBy (w.drewN k) r:=⟨rfl,rfl,rfl,Z5 _,fun _ _ _=>rfl⟩
def Bad(w:World)(rb:Nat)(e:Ending)(w':World):Prop:=∃g en p:Nat,e=aC g∧ad w' g 0 122 [.int .i64 (en:Nat),.int .i64 (p:Nat)]∧w.heap.size≤g∧w.grownBy w' (some rb)
end Rd
theorem gW(rb:Nat)(t:Rd.Tok)(R:List Rd.Tok)(E:Nat)(w:World)(h:Rdr w rb (t::R) E)(hn:Tm.aN t.1=true):
  Calls Tryz.prog 54 #[.pointer (some ⟨rb,0,none⟩)] w fun e w'=>e= .returned (.string (aa t.1))∧Rdr w' rb R E∧w.grownBy w' (some rb):=by
 have hne:t.1≠[]:=by intro e;rw[e]at hn;exact absurd hn (by decide)
 have hkp:=Tm.gV hn;have hle:isName t.1=true:=by
  unfold Tm.aN at hn;simp only[Bool.and_eq_true]at hn;have:=hn.1.1;cases ht:t.1 with
  |nil=>rw[ht]at this;cases this
  |cons c r=>rw[ht]at this;exact this
 have hlen:t.1.length≤12:=by
  unfold Tm.aN at hn;simp only[Bool.and_eq_true,decide_eq_true_eq]at hn;exact hn.2
 have HA:=hid (bS rb (t::R) E w h);have HT:=hid (bG rb (t::R) E w h);have HP:=hid (fun k=>dX rb t R E (w.drewN k) (h.drewN k) hne);have hN:=uG t.1 w;rw[hle]at hN;have HN:=hid hN;have hK:=uN t.1 w;rw[hkp]at hK;have HK:=hid hK;have hto:ak (t::R)=t.1:=rfl;rw[hto]at HT;generalize Ex.dP E (t::R)=at_ at *
 generalize t.1=s at *
 have d12:decide ((12:Int) < (s.length:Int))=false:=Y9 (by omega);have d12n:decide (12 < s.length)=false:=Y9 (by omega);clear h hn hne hkp hle hN hK hto;go_enter Tryz.func54,Tryz.ntmps54;go_wp2_with fail;refine HA.out.mono ?_;rintro e w1 ⟨rfl,rfl⟩;go_wp2_with fail;refine HT.out.mono ?_;rintro e w2 ⟨rfl,rfl⟩;go_wp2_with fail;refine HN.out.mono ?_;rintro e w3 ⟨rfl,rfl⟩;go_wp2_with fail;refine HK.out.mono ?_;rintro e w4 ⟨rfl,k,rfl⟩;go_wp2_with fail;refine(HP.out k).mono ?_;rintro e w5 ⟨rfl,h1,h2⟩;go_wp2_with fail;go_ret;exact⟨rfl,h1,ah (fP _ k _) h2⟩
theorem jM(rb:Nat)(T:List Rd.Tok)(E:Nat)(w:World)(h:Rdr w rb T E)(hn:Tm.aN (Tm.ak T)=false)(hsz:(Tm.ak T).length≤100000):
  Calls Tryz.prog 54 #[.pointer (some ⟨rb,0,none⟩)] w (Bad w rb):=by
 have hto:ak T=Tm.ak T:=by cases T <;> rfl
 have HA:=hid (bS rb T E w h);have HT:=hid (bG rb T E w h);rw[hto]at HT;have HN:=hid (uG (Tm.ak T) w);have HK:=hid (uN (Tm.ak T) w);have hnb:isName (Tm.ak T)=false∨(isName (Tm.ak T)=true∧Tm.kq (Tm.ak T)=true)∨(isName (Tm.ak T)=true∧Tm.kq (Tm.ak T)=false∧12 < (Tm.ak T).length):=by
  have e:Tm.je (Tm.ak T)=isName (Tm.ak T):=by cases Tm.ak T <;> rfl
  unfold Tm.aN at hn;rw[e]at hn;cases h1:isName (Tm.ak T)with
  |false=>exact .inl rfl
  |true=>
   cases h2:Tm.kq (Tm.ak T)with
   |true=>exact .inr (.inl ⟨rfl,rfl⟩)
   |false=>
    rw[h1,h2]at hn;simp only[Bool.true_and,Bool.not_false,decide_eq_false_iff_not,Nat.not_le]at hn;exact .inr (.inr ⟨rfl,rfl,hn⟩)
 generalize Tm.ak T=s at *
 generalize Ex.dP E T=at_ at *
 have hF:=fun en k=>dw rb en at_ (w.drewN k)
 unfold aC at hF;have HF:=hid hF;unfold Bad aC;clear h hn hto hF;rcases hnb with h1|⟨h1,h2⟩|⟨h1,h2,h3⟩
 ·rw[h1]at HN;clear h1;go_enter Tryz.func54,Tryz.ntmps54;go_wp2_with fail;refine HA.out.mono ?_;rintro e w1 ⟨rfl,rfl⟩;go_wp2_with fail;refine HT.out.mono ?_;rintro e w2 ⟨rfl,rfl⟩;go_wp2_with fail;refine HN.out.mono ?_;rintro e w3 ⟨rfl,rfl⟩;go_wp2_with fail;refine(HF.out 3 0).mono ?_;rintro e w5 ⟨rfl,h1,h2⟩;go_wp2_with fail;exact⟨rfl,_,3,at_,rfl,h1,Z5 _,ar h2 _⟩
 ·rw[h1]at HN;rw[h2]at HK;clear h1 h2;go_enter Tryz.func54,Tryz.ntmps54;go_wp2_with fail;refine HA.out.mono ?_;rintro e w1 ⟨rfl,rfl⟩;go_wp2_with fail;refine HT.out.mono ?_;rintro e w2 ⟨rfl,rfl⟩;go_wp2_with fail;refine HN.out.mono ?_;rintro e w3 ⟨rfl,rfl⟩;go_wp2_with fail;refine HK.out.mono ?_;rintro e w4 ⟨rfl,k,rfl⟩;go_wp2_with fail;refine(HF.out 3 k).mono ?_;rintro e w5 ⟨rfl,h1,h2⟩;go_wp2_with fail;exact⟨rfl,_,3,at_,rfl,h1,Z5 _,ah (fP _ k _) (ar h2 _)⟩
 ·rw[h1]at HN;rw[h2]at HK;have d12:decide ((12:Int) < (s.length:Int))=true:=Z9 (by omega);have d12n:decide (12 < s.length)=true:=Z9 h3;clear h1 h2;go_enter Tryz.func54,Tryz.ntmps54;go_wp2_with fail;refine HA.out.mono ?_;rintro e w1 ⟨rfl,rfl⟩;go_wp2_with fail;refine HT.out.mono ?_;rintro e w2 ⟨rfl,rfl⟩;go_wp2_with fail;refine HN.out.mono ?_;rintro e w3 ⟨rfl,rfl⟩;go_wp2_with fail;refine HK.out.mono ?_;rintro e w4 ⟨rfl,k,rfl⟩;go_wp2_with fail;refine(HF.out 4 k).mono ?_;rintro e w5 ⟨rfl,h1,h2⟩;go_wp2_with fail;exact⟨rfl,_,4,at_,rfl,h1,Z5 _,ah (fP _ k _) (ar h2 _)⟩
end
end Go.Proofs.YtlomecfhobehnaaGreatDoor
