import Derived.Test.YtlomecfhobehnaaGreatDoorMgFixDrops3
set_option linter.all false
set_option maxRecDepth 100000
set_option maxHeartbeats 1000000
namespace Go.Proofs.YtlomecfhobehnaaGreatDoor
open Lib (hid)
section
namespace Tm
open Ex
variable{E:Nat}
theorem Cnt.det{T R R':List Tok}{c c':Option X}(h:Cnt E T c R)(h':Cnt E T c' R'):c=c'∧R=R':=by
 cases h with
 |no h1=>cases h' with
  |no _=>exact⟨rfl,rfl⟩
  |yes g1 _ _=>exact absurd g1 h1
 |yes h1 h2 h3=>cases h' with
  |no g1=>exact absurd h1 g1
  |yes g1 g2 g3=>
   obtain⟨e1,e2⟩:=h2.det g2;cases e2;subst e1;exact⟨rfl,rfl⟩
theorem za:dE≠cw∧dE≠bN∧cw≠bN:=by decide
theorem ea.det{T R R':List Tok}{r r':Rl}(h:ea T r R)(h':ea T r' R'):r=r'∧R=R':=by
 have hs:=za;cases h with
 |size h1 _=>cases h' with
  |size=>exact⟨rfl,rfl⟩
  |count g1=>rw[h1]at g1;exact absurd g1 hs.1
  |eL g1=>rw[h1]at g1;exact absurd g1 hs.2.1
  |eM g1=>rw[h1]at g1;exact absurd g1 hs.2.1
 |count h1 _=>cases h' with
  |size g1=>rw[h1]at g1;exact absurd g1.symm hs.1
  |count=>exact⟨rfl,rfl⟩
  |eL g1=>rw[h1]at g1;exact absurd g1 hs.2.2
  |eM g1=>rw[h1]at g1;exact absurd g1 hs.2.2
 |eL h1 _ h3=>cases h' with
  |size g1=>rw[h1]at g1;exact absurd g1.symm hs.2.1
  |count g1=>rw[h1]at g1;exact absurd g1.symm hs.2.2
  |eL=>exact⟨rfl,rfl⟩
  |eM _ _ g3=>exact absurd h3 g3
 |eM h1 _ h3=>cases h' with
  |size g1=>rw[h1]at g1;exact absurd g1.symm hs.2.1
  |count g1=>rw[h1]at g1;exact absurd g1.symm hs.2.2
  |eL _ _ g3=>exact absurd g3 h3
  |eM=>exact⟨rfl,rfl⟩
theorem lX.det{k:Knd}{T R R':List Tok}{s s':Tok}{c c':Option X}{r r':Rl}(h:lX E k T c r (s::R))(hs:s.1=[59])(h':lX E k T c' r' (s'::R'))(hs':s'.1=[59]):c=c'∧r=r'∧s::R=s'::R':=by
 have key:∀{T R:List Tok} {t s:Tok} {c:Option X},Cnt E (t::T) c (s::R)→t.1=[61]→s.1=[59]→False:=by
  intro T R t s c h1 h2 h3;cases h1 with
  |no _=>rw[h2]at h3;exact absurd h3 (by decide)
  |yes g1 _ _=>rw[h2]at g1;exact absurd g1 (by decide)
 cases h with
 |cnt h1 h2=>cases h' with
  |cnt g1 _=>obtain⟨e1,e2⟩:=h1.det g1;exact⟨e1,rfl,e2⟩
  |ay g1 g2=>exact(key h1 g1 hs).elim
 |ay h1 h2=>cases h' with
  |cnt g1 _=>exact(key g1 h1 hs').elim
  |ay g1 g2=>obtain⟨e1,e2⟩:=h2.det g2;exact⟨rfl,e1,e2⟩
theorem im{w:Wd}(h:aP w=true):kR w=false:=by
 unfold aP at h;simp only[Bool.and_eq_true,Bool.not_eq_true']at h;exact h.1.2
theorem nE.det{t:Tok}{k k':Knd}(h:nE t k)(h':nE t k'):k=k':=by
 have h0:(kindOf cD).isSome=false:=by decide
 cases h with
 |scalar h1=>cases h' with
  |scalar=>rfl
  |bytes g=>rw[g,h0]at h1;cases h1
  |struct g=>have:=im g;unfold kR at this;rw[h1,Bool.true_or]at this;cases this
 |bytes h1=>cases h' with
  |scalar g=>rw[h1,h0]at g;cases g
  |bytes=>rfl
  |struct g=>have:=im g;rw[h1]at this;exact absurd this (by decide)
 |struct h1=>cases h' with
  |scalar g=>have:=im h1;unfold kR at this;rw[g,Bool.true_or]at this;cases this
  |bytes g=>have:=im h1;rw[g]at this;exact absurd this (by decide)
  |struct=>rfl
theorem HdP.det{T R R':List Tok}{a b:Hd}(h:HdP E T a R)(h':HdP E T b R'):a=b∧R=R':=by
 cases h with
 |mk h1 h2 h3 h4=>cases h' with
  |mk g1 g2 g3 g4=>
   have:=h1.det g1;subst this;obtain⟨e1,e2,e3⟩:=h3.det h4 g3 g4;cases e3;subst e1 e2;exact⟨rfl,rfl⟩
theorem nE.no{t:Tok}{k:Knd}(h:nE t k):t.1≠[125]∧t.1≠dD:=by
 cases h with
 |scalar h1=>constructor <;> (intro e;rw[e]at h1;exact absurd h1 (by decide))
 |bytes h1=>rw[h1];decide
 |struct h1=>constructor <;> (intro e;rw[e]at h1;exact absurd h1 (by decide))
theorem HdP.no{T R:List Tok}{a:Hd}(h:HdP E T a R):al T≠[125]∧al T≠dD:=by
 cases h with
 |mk h1=>exact h1.no
theorem Blk.det{d n:Nat}{T R:List Tok}{l:Its}(h:Blk E d n T l R):∀l' R',Blk E d n T l' R'→l=l'∧R=R':=by
 induction h with
 |fin h1=>
  intro l' R' h';cases h' with
  |fin _=>exact⟨rfl,rfl⟩
  |item _ g _=>exact absurd h1 g.no.1
  |when _ g=>rw[h1]at g;exact absurd g (by decide)
 |item h1 h2 h3 ih=>
  intro l' R' h';cases h' with
  |fin g=>exact absurd g h2.no.1
  |item _ g1 g2=>
   obtain⟨e1,e2⟩:=h2.det g1;subst e1 e2;obtain⟨e3,e4⟩:=ih _ _ g2;exact⟨by rw[e3],e4⟩
  |when _ g=>exact absurd g h2.no.2
 |when h1 h2 h3 h4 h5 _ _ ih1 ih2=>
  intro l' R' h';cases h' with
  |fin g=>rw[h2]at g;exact absurd g (by decide)
  |item _ g _=>exact absurd h2 g.no.2
  |when _ _ g3 _ _ g6 g7=>
   obtain⟨e1,e2⟩:=h3.det g3;cases e2;subst e1;obtain⟨e3,e4⟩:=ih1 _ _ g6;subst e3 e4;obtain⟨e5,e6⟩:=ih2 _ _ g7;exact⟨by rw[e5],e6⟩
theorem Tys.det{n:Nat}{T:List Tok}{l:List Ty}(h:Tys E n T l):∀l',Tys E n T l'→l=l':=by
 induction h with
 |fin=>intro l' h';cases h';rfl
 |one h1 h2 h3 h4 h5 _ ih=>
  intro l' h';cases h' with
  |one _ _ _ _ g5 g6=>
   obtain⟨e1,e2⟩:=h5.det _ _ g5;subst e1 e2;rw[ih _ g6]
def cV(T:List Tok):Prop:=∀t∈T,t.1≠[]∧∀c r,t.1=c::r→Lex.word c=true→∀b∈t.1,Lex.word b=true
theorem cV.suf{T R:List Tok}(h:cV T)(hs:R <:+ T):cV R:=fun t ht=>h t (hs.subset ht)
theorem cV.name{t:Tok}(h:t.1≠[]∧∀c r,t.1=c::r→Lex.word c=true→∀b∈t.1,Lex.word b=true)(hn:aP t.1=true):eN t.1:=by
 refine⟨⟨h.1,?_⟩,hn⟩;unfold aP at hn;simp only[Bool.and_eq_true]at hn;have h1:=hn.1.1;cases ht:t.1 with
 |nil=>exact absurd ht h.1
 |cons c r=>
  rw[ht]at h1;have:=h.2 c r ht (by unfold Lex.word;rw[show Lex.letter c.toNat=true from h1,Bool.true_or]);rwa[ht]at this
theorem eK.eE{T R:List Tok}{x:X}(h:eK E T x R)(hw:cV T):il x:=by
 refine⟨Ck EH h x R rfl (fun t ht=>(hw t ht).2) (by intro k y e;cases e),?_⟩;have:=Cj (dec:=Num.dec) h (by omega) x R rfl (by intro k y e;cases e);simp only[]at this;split at this
 ·omega
 ·omega
theorem Cnt.eE{T R:List Tok}{c:Option X}(h:Cnt E T c R)(hw:cV T):∀x,c=some x→il x:=by
 intro x e;cases h with
 |no=>cases e
 |yes _ h2 _=>cases e;exact h2.eE (hw.suf (List.suffix_cons _ _))
theorem ea.eE{T R:List Tok}{r:Rl}(h:ea T r R)(hw:cV T):AM r∧r≠.none:=by
 cases h with
 |size _ h2=>exact⟨cV.name (hw _ (by simp)) h2,by simp⟩
 |count _ h2=>exact⟨cV.name (hw _ (by simp)) h2,by simp⟩
 |eL _ h2=>exact⟨⟨cV.name (hw _ (by simp)) h2,cV.name (hw _ (by simp)) h2⟩,by simp⟩
 |eM _ h2 _ h4=>exact⟨⟨cV.name (hw _ (by simp)) h2,cV.name (hw _ (by simp)) h4⟩,by simp⟩
theorem HdP.eE{T R:List Tok}{a:Hd}(h:HdP E T a R)(hw:cV T):ju a:=by
 cases h with
 |@mk t n s T R k c r h1 h2 h3 h4=>
  have hw2:cV T:=hw.suf (cK (List.suffix_cons _ _));refine⟨?_,cV.name (hw _ (by simp)) h2,?_⟩
  ·cases h1 with
   |scalar g=>exact g
   |bytes=>trivial
   |struct g=>exact cV.name (hw _ (by simp)) g
  ·cases h3 with
   |cnt g1 g2=>exact⟨fun x e=>⟨g1.eE hw2 x e,rfl⟩,trivial,g2,fun e=>absurd rfl e⟩
   |ay g1 g2=>exact⟨fun x e=>(by cases e),(g2.eE (hw2.suf (List.suffix_cons _ _))).1,fun e=>(by cases e),fun _=>⟨_,rfl⟩⟩
theorem Blk.eE{d n:Nat}{T R:List Tok}{l:Its}(h:Blk E d n T l R):cV T→bG l:=by
 induction h with
 |fin _=>intro _;trivial
 |item _ h1 _ ih=>intro hw;exact⟨h1.eE hw,ih (hw.suf h1.suf.1)⟩
 |when _ _ h3 _ _ h6 _ ih1 ih2=>
  intro hw;have hw1:=hw.suf (List.suffix_cons _ _);have hw2:=hw1.suf ((List.suffix_cons _ _).trans h3.suf.1);exact⟨h3.eE hw1,ih1 hw2,ih2 (hw2.suf h6.suf.1)⟩
theorem Tys.eE{n:Nat}{T:List Tok}{l:List Ty}(h:Tys E n T l):cV T→∀t∈l,bg t:=by
 induction h with
 |fin=>intro _ t ht;simp at ht
 |one h1 h2 h3 h4 h5 _ ih=>
  intro hw t ht;have hw1:=hw.suf (cK (cK (List.suffix_cons _ _)));rcases List.mem_cons.1 ht with rfl|ht
  ·exact⟨cV.name (hw _ (by simp)) h3,h5.eE hw1⟩
  ·exact ih (hw1.suf h5.suf.1) t ht
end Tm
namespace Tm
open Ex
variable{E E':Nat}
theorem sM(u:Tok)(R:List Tok)(h:aG u.1=3):Stop 0 (u::R):=by
 intro t T' e j _ hm;cases e;have:=(cJ j _ hm).2;omega
theorem eK.back{x:X}(hx:il x){S R:List Tok}(hS:S.map Prod.fst=ptX x)(hR:Stop 0 R):∃y,gI x y∧eK E (S++R) y R:=by
 obtain⟨y,hy,ho⟩:=(Ex.back (num:=Num.numOf) (E:=E) x hx.1).1 0 S R 0 (by have:=hx.2;omega) hS (by omega) (by omega) (hR.mono (by omega));exact⟨y,hy,ho _ (hR.done y 0)⟩
theorem fJ{S:List Tok}{a:Wd}{l:List Wd}(h:S.map Prod.fst=a::l):∃t S',S=t::S'∧t.1=a∧S'.map Prod.fst=l:=by
 obtain⟨t,S',h1,h2,h3⟩:=List.map_eq_cons_iff.1 h;exact⟨t,S',h1,h2,h3⟩
theorem Cu{S:List Tok}{a b:List Wd}(h:S.map Prod.fst=a++b):∃U V,S=U++V∧U.map Prod.fst=a∧V.map Prod.fst=b:=by
 obtain⟨U,V,h1,h2,h3⟩:=List.map_eq_append_iff.1 h;exact⟨U,V,h1,h2,h3⟩
theorem Cv{h:Hd}(hf:ju h){S R:List Tok}(hS:S.map Prod.fst=qb h.cnt h.ay++[[59]]):∃c' s',vU h.cnt c'∧lX E h.k (S++R) c' h.ay (s'::R)∧s'.1=[59]:=by
 obtain⟨at_,k,name,cnt,ay⟩:=h;obtain⟨h1,h2,h3,h4,h5,h6⟩:=hf;simp only[]at *
 obtain⟨U,V,rfl,hU,hV⟩:=Cu hS;obtain⟨s,V',rfl,hs,hV'⟩:=fJ hV;obtain rfl:=List.map_eq_nil_iff.1 hV';have e:(U++[s])++R=U++s::R:=by simp
 rw[e];cases cnt with
 |some c=>
  obtain⟨hx,hr⟩:=h3 c rfl;subst hr;obtain⟨o,U1,rfl,ho,hU1⟩:=fJ hU;obtain⟨P,Q,rfl,hP,hQ⟩:=Cu hU1;obtain⟨u,Q',rfl,hu,hQ'⟩:=fJ hQ;obtain rfl:=List.map_eq_nil_iff.1 hQ';obtain⟨y,hy,hp⟩:=eK.back (E:=E) hx hP (R:=u::s::R) (sM u _ (by rw[hu];decide));refine⟨some y,s,hy,.cnt ?_ (by simp),hs⟩;have e2:(o::(P++[u]))++s::R=o::(P++u::s::R):=by simp
  rw[e2];exact .yes ho hp hu
 |none=>
  refine⟨none,s,trivial,?_,hs⟩
  by_cases hr:ay= .none
  ·subst hr;obtain rfl:=List.map_eq_nil_iff.1 hU;refine .cnt (.no ?_) h5;show s.1≠[91];rw[hs];decide
  ·obtain⟨w,rfl⟩:=h6 hr;have hro:∃o U1,U=o::U1∧o.1=[61]∧ea (U1++s::R) ay (s::R):=by
    cases ay with
    |none=>exact absurd rfl hr
    |size f=>
     obtain⟨o,U1,rfl,ho,hU1⟩:=fJ hU;obtain⟨a,U2,rfl,ha,hU2⟩:=fJ hU1;obtain⟨b,U3,rfl,hb,hU3⟩:=fJ hU2;obtain rfl:=List.map_eq_nil_iff.1 hU3;refine⟨o,_,rfl,ho,?_⟩;rw[← hb];exact .size ha (by rw[hb];exact h4.2)
    |count f=>
     obtain⟨o,U1,rfl,ho,hU1⟩:=fJ hU;obtain⟨a,U2,rfl,ha,hU2⟩:=fJ hU1;obtain⟨b,U3,rfl,hb,hU3⟩:=fJ hU2;obtain rfl:=List.map_eq_nil_iff.1 hU3;refine⟨o,_,rfl,ho,?_⟩;rw[← hb];exact .count ha (by rw[hb];exact h4.2)
    |check f l=>
     unfold qb at hU;simp only[]at hU
     by_cases hfl:l=f
     ·rw[if_pos hfl]at hU;subst hfl;obtain⟨o,U1,rfl,ho,hU1⟩:=fJ hU;obtain⟨a,U2,rfl,ha,hU2⟩:=fJ hU1;obtain⟨b,U3,rfl,hb,hU3⟩:=fJ hU2;obtain rfl:=List.map_eq_nil_iff.1 hU3;refine⟨o,_,rfl,ho,?_⟩;rw[← hb];exact .eL ha (by rw[hb];exact h4.1.2) hs
     ·rw[if_neg hfl]at hU;obtain⟨o,U1,rfl,ho,hU1⟩:=fJ hU;obtain⟨a,U2,rfl,ha,hU2⟩:=fJ hU1;obtain⟨b,U3,rfl,hb,hU3⟩:=fJ hU2;obtain⟨c,U4,rfl,hc,hU4⟩:=fJ hU3;obtain rfl:=List.map_eq_nil_iff.1 hU4;refine⟨o,_,rfl,ho,?_⟩;rw[← hb,← hc];exact .eM ha (by rw[hb];exact h4.1.2) (by rw[hc];intro e;have:=h4.2.2;rw[e]at this;exact absurd this (by decide)) (by rw[hc];exact h4.2.2)
   obtain⟨o,U1,rfl,ho,hru⟩:=hro;exact .ay ho hru
end Tm
namespace Ex
section
variable{num:js}{dec:Dec}(nm:List UInt8)(n:Nat)
inductive Sub:X→X→Prop where
 |num (a b m:Nat):Sub (.num a m) (.num b m)
 |name (a b:Nat) (s:List UInt8):s≠nm→Sub (.name a s) (.name b s)
 |put (a b:Nat):Sub (.name a nm) (.num b n)
 |bin (a b:Nat) (op:List UInt8) {l l' r r':X}:Sub l l'→Sub r r'→Sub (.bin a op l r) (.bin b op l' r')
end
end Ex
namespace Tm
open Ex
variable{E E':Nat}
theorem Tys.few{n:Nat}{T:List Tok}{l:List Ty}(h:Tys E n T l):n+l.length≤max n 8:=by
 induction h with
 |fin=>simp;omega
 |one h1 _ _ _ _ _ ih=>rw[Z6];omega
structure Ren(f:Wd→Wd):Prop where
 name:∀w,aP w=true→aP (f w)=true
 AN:∀w,aP w=false→f w=w
variable{f:Wd→Wd}
def Cw(f:Wd→Wd):X→X→Prop
 | .num _ n,.num _ m=>n=m
 | .name _ s,.name _ t=>t=f s
 | .bin _ op l r,.bin _ op' l' r'=>op'=op∧Cw f l l'∧Cw f r r'
 |_,_=>False
end Tm
namespace Tm
open Ex
variable{E E':Nat}{f:Wd→Wd}
def Ju(f:Wd→Wd):Option X→Option X→Prop
 |none,none=>True
 |some a,some b=>Cw f a b
 |_,_=>False
def Jv(f:Wd→Wd):Knd→Knd
 | .scalar w=> .scalar w
 | .bytes=> .bytes
 | .struct t=> .struct (f t)
def nF(f:Wd→Wd):Rl→Rl
 | .none=> .none
 | .size a=> .size (f a)
 | .count a=> .count (f a)
 | .check a b=> .check (f a) (f b)
def Kn(f:Wd→Wd)(a b:Hd):Prop:=b.k=Jv f a.k∧b.name=f a.name∧Ju f a.cnt b.cnt∧b.ay=nF f a.ay
inductive rW(f:Wd→Wd):Its→Its→Prop where
 |nil:rW f .nil .nil
 |cons {h h':Hd} {l l':Its}:Kn f h h'→rW f l l'→rW f (.cons h l) (.cons h' l')
 |when {a a':Nat} {c c':X} {b b' l l':Its}:Cw f c c'→rW f b b'→rW f l l'→rW f (.when a c b l) (.when a' c' b' l')
def KC(f:Wd→Wd)(a b:Ty):Prop:=b.name=f a.name∧rW f a.items b.items
inductive vY(f:Wd→Wd):List Ty→List Ty→Prop where
 |nil:vY f [] []
 |cons {a b:Ty} {l m:List Ty}:KC f a b→vY f l m→vY f (a::l) (b::m)
theorem Jw:Ren id:=⟨fun w h=>h,fun w h=>rfl⟩
end Tm
end
section
open Go.RowKit
open Rd
theorem Cx(l:List UInt8)(j:Nat):(aa l).extract j l.length=aa (l.drop j):=by
 apply ByteArray.ext;apply Array.ext';rw[ByteArray.data_extract,Array.toList_extract];show List.extract l j l.length=l.drop j;rw[List.extract_eq_take_drop];exact List.take_of_length_le (by rw[List.length_drop];exact Z5 _)
theorem Jx(l:List UInt8)(w:World)(h2:2≤l.length)(h9:l.length≤100):Calls Tryz.prog 151 #[.string (aa l),.string {data:= #[98,101]}] w fun e w'=>e= .returned (.bool (l.drop (l.length - 2)==[98,101]))∧w'=w:=by
 have hx:=Cx l (l.length - 2);have h1:(2:Int)≤(l.length:Int):=by omega
 have d1:decide ((2:Int)≤(l.length:Int))=true:=Z9 h1;have d1n:decide (2≤l.length)=true:=Z9 h2;have hsub:(l.length:Int) - 2=((l.length - 2:Nat):Int):=by omega
 obtain⟨j,hj⟩:∃j,j=l.length - 2:=⟨_,rfl⟩;rw[← hj]at hx hsub⊢;have hjl:(j:Int)≤(l.length:Int):=by omega
 obtain⟨m,hm⟩:∃m,m=l.drop j:=⟨_,rfl⟩;rw[← hm]at hx⊢;clear hj hm;go_enter Tryz.func151,Tryz.ntmps151;go_wp2_with fail;go_ret;exact⟨rfl,rfl⟩
theorem hH(l:List UInt8)(w:World)(h2:2≤l.length)(h9:l.length≤100):Calls Tryz.prog 137 #[.string (aa l),.string {data:= #[98,101]}] w fun e w'=>e= .returned (.bool (l.drop (l.length - 2)==[98,101]))∧w'=w:=by
 have H:=hid (Jx l w h2 h9);generalize(l.drop (l.length - 2)==[98,101])=b at *
 clear h2 h9;go_enter Tryz.func137,Tryz.ntmps137;go_wp2_with fail;refine H.out.mono ?_;rintro e w1 ⟨rfl,rfl⟩;go_wp2_with fail;go_ret;exact⟨rfl,rfl⟩
theorem Hb(l:Tm.Wd)(hl:l=[117,56])(w:World):Calls Tryz.prog 112 #[.string (aa l)] w fun e w'=>e= .returned (.tuple #[.int .i64 1,.int .i64 0,.bool false,.bool true])∧∃k,w'=w.drewN k:=by
 have e0:(l==[117,56])=true:=by rw[hl];decide
 have e1:(l==[105,56])=false:=by rw[hl];decide
 have e2:(l==[117,49,54,108,101])=false:=by rw[hl];decide
 have e3:(l==[117,49,54,98,101])=false:=by rw[hl];decide
 have e4:(l==[105,49,54,108,101])=false:=by rw[hl];decide
 have e5:(l==[105,49,54,98,101])=false:=by rw[hl];decide
 have e6:(l==[117,51,50,108,101])=false:=by rw[hl];decide
 have e7:(l==[117,51,50,98,101])=false:=by rw[hl];decide
 have e8:(l==[105,51,50,108,101])=false:=by rw[hl];decide
 have e9:(l==[105,51,50,98,101])=false:=by rw[hl];decide
 have e10:(l==[105,54,52,108,101])=false:=by rw[hl];decide
 have e11:(l==[105,54,52,98,101])=false:=by rw[hl];decide
 clear hl;go_enter Tryz.func112,Tryz.ntmps112;go_wp2_with fail;exact bodyPost_ret (v:= .tuple #[.int .i64 1,.int .i64 0,.bool false,.bool true]) (by simp[results,Tryz.results112,go_sem]) rfl ⟨rfl,0,rfl⟩
theorem Hc(l:Tm.Wd)(hl:l=[105,56])(w:World):Calls Tryz.prog 112 #[.string (aa l)] w fun e w'=>e= .returned (.tuple #[.int .i64 1,.int .i64 0,.bool true,.bool true])∧∃k,w'=w.drewN k:=by
 have e0:(l==[117,56])=false:=by rw[hl];decide
 have e1:(l==[105,56])=true:=by rw[hl];decide
 have e2:(l==[117,49,54,108,101])=false:=by rw[hl];decide
 have e3:(l==[117,49,54,98,101])=false:=by rw[hl];decide
 have e4:(l==[105,49,54,108,101])=false:=by rw[hl];decide
 have e5:(l==[105,49,54,98,101])=false:=by rw[hl];decide
 have e6:(l==[117,51,50,108,101])=false:=by rw[hl];decide
 have e7:(l==[117,51,50,98,101])=false:=by rw[hl];decide
 have e8:(l==[105,51,50,108,101])=false:=by rw[hl];decide
 have e9:(l==[105,51,50,98,101])=false:=by rw[hl];decide
 have e10:(l==[105,54,52,108,101])=false:=by rw[hl];decide
 have e11:(l==[105,54,52,98,101])=false:=by rw[hl];decide
 clear hl;go_enter Tryz.func112,Tryz.ntmps112;go_wp2_with fail;exact bodyPost_ret (v:= .tuple #[.int .i64 1,.int .i64 0,.bool true,.bool true]) (by simp[results,Tryz.results112,go_sem]) rfl ⟨rfl,0,rfl⟩
theorem He(l:Tm.Wd)(hl:l=[117,49,54,108,101])(w:World):Calls Tryz.prog 112 #[.string (aa l)] w fun e w'=>e= .returned (.tuple #[.int .i64 2,.int .i64 0,.bool false,.bool true])∧∃k,w'=w.drewN k:=by
 have e0:(l==[117,56])=false:=by rw[hl];decide
 have e1:(l==[105,56])=false:=by rw[hl];decide
 have e2:(l==[117,49,54,108,101])=true:=by rw[hl];decide
 have e3:(l==[117,49,54,98,101])=false:=by rw[hl];decide
 have e4:(l==[105,49,54,108,101])=false:=by rw[hl];decide
 have e5:(l==[105,49,54,98,101])=false:=by rw[hl];decide
 have e6:(l==[117,51,50,108,101])=false:=by rw[hl];decide
 have e7:(l==[117,51,50,98,101])=false:=by rw[hl];decide
 have e8:(l==[105,51,50,108,101])=false:=by rw[hl];decide
 have e9:(l==[105,51,50,98,101])=false:=by rw[hl];decide
 have e10:(l==[105,54,52,108,101])=false:=by rw[hl];decide
 have e11:(l==[105,54,52,98,101])=false:=by rw[hl];decide
 have hs:=hH l w (by rw[hl];decide) (by rw[hl];decide);rw[show(l.drop (l.length - 2)==[98,101])=false by rw[hl];decide]at hs;have HS:=hid hs;have hpos:0 < l.length:=by rw[hl];decide
 have hposI:(0:Int) < (l.length:Int):=by omega
 have hcx:∀h:0 < (aa l).size,((aa l)[0]'h).toNat=117:=by subst hl;intro h;rfl
 clear hs;clear hl;go_enter Tryz.func112,Tryz.ntmps112;go_wp2_with fail;refine HS.out.mono ?_;rintro e w1 ⟨rfl,rfl⟩;go_wp2_with fail;go_quiet (fail);go_wp2_with fail;exact bodyPost_ret (v:= .tuple #[.int .i64 2,.int .i64 0,.bool false,.bool true]) (by simp[results,Tryz.results112,go_sem]) rfl ⟨rfl,_,rfl⟩
theorem Hf(l:Tm.Wd)(hl:l=[117,49,54,98,101])(w:World):Calls Tryz.prog 112 #[.string (aa l)] w fun e w'=>e= .returned (.tuple #[.int .i64 2,.int .i64 1,.bool false,.bool true])∧∃k,w'=w.drewN k:=by
 have e0:(l==[117,56])=false:=by rw[hl];decide
 have e1:(l==[105,56])=false:=by rw[hl];decide
 have e2:(l==[117,49,54,108,101])=false:=by rw[hl];decide
 have e3:(l==[117,49,54,98,101])=true:=by rw[hl];decide
 have e4:(l==[105,49,54,108,101])=false:=by rw[hl];decide
 have e5:(l==[105,49,54,98,101])=false:=by rw[hl];decide
 have e6:(l==[117,51,50,108,101])=false:=by rw[hl];decide
 have e7:(l==[117,51,50,98,101])=false:=by rw[hl];decide
 have e8:(l==[105,51,50,108,101])=false:=by rw[hl];decide
 have e9:(l==[105,51,50,98,101])=false:=by rw[hl];decide
 have e10:(l==[105,54,52,108,101])=false:=by rw[hl];decide
 have e11:(l==[105,54,52,98,101])=false:=by rw[hl];decide
 have hs:=hH l w (by rw[hl];decide) (by rw[hl];decide);rw[show(l.drop (l.length - 2)==[98,101])=true by rw[hl];decide]at hs;have HS:=hid hs;have hpos:0 < l.length:=by rw[hl];decide
 have hposI:(0:Int) < (l.length:Int):=by omega
 have hcx:∀h:0 < (aa l).size,((aa l)[0]'h).toNat=117:=by subst hl;intro h;rfl
 clear hs;clear hl;go_enter Tryz.func112,Tryz.ntmps112;go_wp2_with fail;refine HS.out.mono ?_;rintro e w1 ⟨rfl,rfl⟩;go_wp2_with fail;go_quiet (fail);go_wp2_with fail;exact bodyPost_ret (v:= .tuple #[.int .i64 2,.int .i64 1,.bool false,.bool true]) (by simp[results,Tryz.results112,go_sem]) rfl ⟨rfl,_,rfl⟩
theorem Hg(l:Tm.Wd)(hl:l=[105,49,54,108,101])(w:World):Calls Tryz.prog 112 #[.string (aa l)] w fun e w'=>e= .returned (.tuple #[.int .i64 2,.int .i64 0,.bool true,.bool true])∧∃k,w'=w.drewN k:=by
 have e0:(l==[117,56])=false:=by rw[hl];decide
 have e1:(l==[105,56])=false:=by rw[hl];decide
 have e2:(l==[117,49,54,108,101])=false:=by rw[hl];decide
 have e3:(l==[117,49,54,98,101])=false:=by rw[hl];decide
 have e4:(l==[105,49,54,108,101])=true:=by rw[hl];decide
 have e5:(l==[105,49,54,98,101])=false:=by rw[hl];decide
 have e6:(l==[117,51,50,108,101])=false:=by rw[hl];decide
 have e7:(l==[117,51,50,98,101])=false:=by rw[hl];decide
 have e8:(l==[105,51,50,108,101])=false:=by rw[hl];decide
 have e9:(l==[105,51,50,98,101])=false:=by rw[hl];decide
 have e10:(l==[105,54,52,108,101])=false:=by rw[hl];decide
 have e11:(l==[105,54,52,98,101])=false:=by rw[hl];decide
 have hs:=hH l w (by rw[hl];decide) (by rw[hl];decide);rw[show(l.drop (l.length - 2)==[98,101])=false by rw[hl];decide]at hs;have HS:=hid hs;have hpos:0 < l.length:=by rw[hl];decide
 have hposI:(0:Int) < (l.length:Int):=by omega
 have hcx:∀h:0 < (aa l).size,((aa l)[0]'h).toNat=105:=by subst hl;intro h;rfl
 clear hs;clear hl;go_enter Tryz.func112,Tryz.ntmps112;go_wp2_with fail;refine HS.out.mono ?_;rintro e w1 ⟨rfl,rfl⟩;go_wp2_with fail;go_quiet (fail);go_wp2_with fail;exact bodyPost_ret (v:= .tuple #[.int .i64 2,.int .i64 0,.bool true,.bool true]) (by simp[results,Tryz.results112,go_sem]) rfl ⟨rfl,_,rfl⟩
theorem Hh(l:Tm.Wd)(hl:l=[105,49,54,98,101])(w:World):Calls Tryz.prog 112 #[.string (aa l)] w fun e w'=>e= .returned (.tuple #[.int .i64 2,.int .i64 1,.bool true,.bool true])∧∃k,w'=w.drewN k:=by
 have e0:(l==[117,56])=false:=by rw[hl];decide
 have e1:(l==[105,56])=false:=by rw[hl];decide
 have e2:(l==[117,49,54,108,101])=false:=by rw[hl];decide
 have e3:(l==[117,49,54,98,101])=false:=by rw[hl];decide
 have e4:(l==[105,49,54,108,101])=false:=by rw[hl];decide
 have e5:(l==[105,49,54,98,101])=true:=by rw[hl];decide
 have e6:(l==[117,51,50,108,101])=false:=by rw[hl];decide
 have e7:(l==[117,51,50,98,101])=false:=by rw[hl];decide
 have e8:(l==[105,51,50,108,101])=false:=by rw[hl];decide
 have e9:(l==[105,51,50,98,101])=false:=by rw[hl];decide
 have e10:(l==[105,54,52,108,101])=false:=by rw[hl];decide
 have e11:(l==[105,54,52,98,101])=false:=by rw[hl];decide
 have hs:=hH l w (by rw[hl];decide) (by rw[hl];decide);rw[show(l.drop (l.length - 2)==[98,101])=true by rw[hl];decide]at hs;have HS:=hid hs;have hpos:0 < l.length:=by rw[hl];decide
 have hposI:(0:Int) < (l.length:Int):=by omega
 have hcx:∀h:0 < (aa l).size,((aa l)[0]'h).toNat=105:=by subst hl;intro h;rfl
 clear hs;clear hl;go_enter Tryz.func112,Tryz.ntmps112;go_wp2_with fail;refine HS.out.mono ?_;rintro e w1 ⟨rfl,rfl⟩;go_wp2_with fail;go_quiet (fail);go_wp2_with fail;exact bodyPost_ret (v:= .tuple #[.int .i64 2,.int .i64 1,.bool true,.bool true]) (by simp[results,Tryz.results112,go_sem]) rfl ⟨rfl,_,rfl⟩
theorem Hi(l:Tm.Wd)(hl:l=[117,51,50,108,101])(w:World):Calls Tryz.prog 112 #[.string (aa l)] w fun e w'=>e= .returned (.tuple #[.int .i64 4,.int .i64 0,.bool false,.bool true])∧∃k,w'=w.drewN k:=by
 have e0:(l==[117,56])=false:=by rw[hl];decide
 have e1:(l==[105,56])=false:=by rw[hl];decide
 have e2:(l==[117,49,54,108,101])=false:=by rw[hl];decide
 have e3:(l==[117,49,54,98,101])=false:=by rw[hl];decide
 have e4:(l==[105,49,54,108,101])=false:=by rw[hl];decide
 have e5:(l==[105,49,54,98,101])=false:=by rw[hl];decide
 have e6:(l==[117,51,50,108,101])=true:=by rw[hl];decide
 have e7:(l==[117,51,50,98,101])=false:=by rw[hl];decide
 have e8:(l==[105,51,50,108,101])=false:=by rw[hl];decide
 have e9:(l==[105,51,50,98,101])=false:=by rw[hl];decide
 have e10:(l==[105,54,52,108,101])=false:=by rw[hl];decide
 have e11:(l==[105,54,52,98,101])=false:=by rw[hl];decide
 have hs:=hH l w (by rw[hl];decide) (by rw[hl];decide);rw[show(l.drop (l.length - 2)==[98,101])=false by rw[hl];decide]at hs;have HS:=hid hs;have hpos:0 < l.length:=by rw[hl];decide
 have hposI:(0:Int) < (l.length:Int):=by omega
 have hcx:∀h:0 < (aa l).size,((aa l)[0]'h).toNat=117:=by subst hl;intro h;rfl
 clear hs;clear hl;go_enter Tryz.func112,Tryz.ntmps112;go_wp2_with fail;refine HS.out.mono ?_;rintro e w1 ⟨rfl,rfl⟩;go_wp2_with fail;go_quiet (fail);go_wp2_with fail;exact bodyPost_ret (v:= .tuple #[.int .i64 4,.int .i64 0,.bool false,.bool true]) (by simp[results,Tryz.results112,go_sem]) rfl ⟨rfl,_,rfl⟩
theorem Hj(l:Tm.Wd)(hl:l=[117,51,50,98,101])(w:World):Calls Tryz.prog 112 #[.string (aa l)] w fun e w'=>e= .returned (.tuple #[.int .i64 4,.int .i64 1,.bool false,.bool true])∧∃k,w'=w.drewN k:=by
 have e0:(l==[117,56])=false:=by rw[hl];decide
 have e1:(l==[105,56])=false:=by rw[hl];decide
 have e2:(l==[117,49,54,108,101])=false:=by rw[hl];decide
 have e3:(l==[117,49,54,98,101])=false:=by rw[hl];decide
 have e4:(l==[105,49,54,108,101])=false:=by rw[hl];decide
 have e5:(l==[105,49,54,98,101])=false:=by rw[hl];decide
 have e6:(l==[117,51,50,108,101])=false:=by rw[hl];decide
 have e7:(l==[117,51,50,98,101])=true:=by rw[hl];decide
 have e8:(l==[105,51,50,108,101])=false:=by rw[hl];decide
 have e9:(l==[105,51,50,98,101])=false:=by rw[hl];decide
 have e10:(l==[105,54,52,108,101])=false:=by rw[hl];decide
 have e11:(l==[105,54,52,98,101])=false:=by rw[hl];decide
 have hs:=hH l w (by rw[hl];decide) (by rw[hl];decide);rw[show(l.drop (l.length - 2)==[98,101])=true by rw[hl];decide]at hs;have HS:=hid hs;have hpos:0 < l.length:=by rw[hl];decide
 have hposI:(0:Int) < (l.length:Int):=by omega
 have hcx:∀h:0 < (aa l).size,((aa l)[0]'h).toNat=117:=by subst hl;intro h;rfl
 clear hs;clear hl;go_enter Tryz.func112,Tryz.ntmps112;go_wp2_with fail;refine HS.out.mono ?_;rintro e w1 ⟨rfl,rfl⟩;go_wp2_with fail;go_quiet (fail);go_wp2_with fail;exact bodyPost_ret (v:= .tuple #[.int .i64 4,.int .i64 1,.bool false,.bool true]) (by simp[results,Tryz.results112,go_sem]) rfl ⟨rfl,_,rfl⟩
theorem Hk(l:Tm.Wd)(hl:l=[105,51,50,108,101])(w:World):Calls Tryz.prog 112 #[.string (aa l)] w fun e w'=>e= .returned (.tuple #[.int .i64 4,.int .i64 0,.bool true,.bool true])∧∃k,w'=w.drewN k:=by
 have e0:(l==[117,56])=false:=by rw[hl];decide
 have e1:(l==[105,56])=false:=by rw[hl];decide
 have e2:(l==[117,49,54,108,101])=false:=by rw[hl];decide
 have e3:(l==[117,49,54,98,101])=false:=by rw[hl];decide
 have e4:(l==[105,49,54,108,101])=false:=by rw[hl];decide
 have e5:(l==[105,49,54,98,101])=false:=by rw[hl];decide
 have e6:(l==[117,51,50,108,101])=false:=by rw[hl];decide
 have e7:(l==[117,51,50,98,101])=false:=by rw[hl];decide
 have e8:(l==[105,51,50,108,101])=true:=by rw[hl];decide
 have e9:(l==[105,51,50,98,101])=false:=by rw[hl];decide
 have e10:(l==[105,54,52,108,101])=false:=by rw[hl];decide
 have e11:(l==[105,54,52,98,101])=false:=by rw[hl];decide
 have hs:=hH l w (by rw[hl];decide) (by rw[hl];decide);rw[show(l.drop (l.length - 2)==[98,101])=false by rw[hl];decide]at hs;have HS:=hid hs;have hpos:0 < l.length:=by rw[hl];decide
 have hposI:(0:Int) < (l.length:Int):=by omega
 have hcx:∀h:0 < (aa l).size,((aa l)[0]'h).toNat=105:=by subst hl;intro h;rfl
 clear hs;clear hl;go_enter Tryz.func112,Tryz.ntmps112;go_wp2_with fail;refine HS.out.mono ?_;rintro e w1 ⟨rfl,rfl⟩;go_wp2_with fail;go_quiet (fail);go_wp2_with fail;exact bodyPost_ret (v:= .tuple #[.int .i64 4,.int .i64 0,.bool true,.bool true]) (by simp[results,Tryz.results112,go_sem]) rfl ⟨rfl,_,rfl⟩
theorem Hl(l:Tm.Wd)(hl:l=[105,51,50,98,101])(w:World):Calls Tryz.prog 112 #[.string (aa l)] w fun e w'=>e= .returned (.tuple #[.int .i64 4,.int .i64 1,.bool true,.bool true])∧∃k,w'=w.drewN k:=by
 have e0:(l==[117,56])=false:=by rw[hl];decide
 have e1:(l==[105,56])=false:=by rw[hl];decide
 have e2:(l==[117,49,54,108,101])=false:=by rw[hl];decide
 have e3:(l==[117,49,54,98,101])=false:=by rw[hl];decide
 have e4:(l==[105,49,54,108,101])=false:=by rw[hl];decide
 have e5:(l==[105,49,54,98,101])=false:=by rw[hl];decide
 have e6:(l==[117,51,50,108,101])=false:=by rw[hl];decide
 have e7:(l==[117,51,50,98,101])=false:=by rw[hl];decide
 have e8:(l==[105,51,50,108,101])=false:=by rw[hl];decide
 have e9:(l==[105,51,50,98,101])=true:=by rw[hl];decide
 have e10:(l==[105,54,52,108,101])=false:=by rw[hl];decide
 have e11:(l==[105,54,52,98,101])=false:=by rw[hl];decide
 have hs:=hH l w (by rw[hl];decide) (by rw[hl];decide);rw[show(l.drop (l.length - 2)==[98,101])=true by rw[hl];decide]at hs;have HS:=hid hs;have hpos:0 < l.length:=by rw[hl];decide
 have hposI:(0:Int) < (l.length:Int):=by omega
 have hcx:∀h:0 < (aa l).size,((aa l)[0]'h).toNat=105:=by subst hl;intro h;rfl
 clear hs;clear hl;go_enter Tryz.func112,Tryz.ntmps112;go_wp2_with fail;refine HS.out.mono ?_;rintro e w1 ⟨rfl,rfl⟩;go_wp2_with fail;go_quiet (fail);go_wp2_with fail;exact bodyPost_ret (v:= .tuple #[.int .i64 4,.int .i64 1,.bool true,.bool true]) (by simp[results,Tryz.results112,go_sem]) rfl ⟨rfl,_,rfl⟩
theorem EU(l:Tm.Wd)(hl:l=[105,54,52,108,101])(w:World):Calls Tryz.prog 112 #[.string (aa l)] w fun e w'=>e= .returned (.tuple #[.int .i64 8,.int .i64 0,.bool true,.bool true])∧∃k,w'=w.drewN k:=by
 have e0:(l==[117,56])=false:=by rw[hl];decide
 have e1:(l==[105,56])=false:=by rw[hl];decide
 have e2:(l==[117,49,54,108,101])=false:=by rw[hl];decide
 have e3:(l==[117,49,54,98,101])=false:=by rw[hl];decide
 have e4:(l==[105,49,54,108,101])=false:=by rw[hl];decide
 have e5:(l==[105,49,54,98,101])=false:=by rw[hl];decide
 have e6:(l==[117,51,50,108,101])=false:=by rw[hl];decide
 have e7:(l==[117,51,50,98,101])=false:=by rw[hl];decide
 have e8:(l==[105,51,50,108,101])=false:=by rw[hl];decide
 have e9:(l==[105,51,50,98,101])=false:=by rw[hl];decide
 have e10:(l==[105,54,52,108,101])=true:=by rw[hl];decide
 have e11:(l==[105,54,52,98,101])=false:=by rw[hl];decide
 have hs:=hH l w (by rw[hl];decide) (by rw[hl];decide);rw[show(l.drop (l.length - 2)==[98,101])=false by rw[hl];decide]at hs;have HS:=hid hs;have hpos:0 < l.length:=by rw[hl];decide
 have hposI:(0:Int) < (l.length:Int):=by omega
 have hcx:∀h:0 < (aa l).size,((aa l)[0]'h).toNat=105:=by subst hl;intro h;rfl
 clear hs;clear hl;go_enter Tryz.func112,Tryz.ntmps112;go_wp2_with fail;refine HS.out.mono ?_;rintro e w1 ⟨rfl,rfl⟩;go_wp2_with fail;go_quiet (fail);go_wp2_with fail;exact bodyPost_ret (v:= .tuple #[.int .i64 8,.int .i64 0,.bool true,.bool true]) (by simp[results,Tryz.results112,go_sem]) rfl ⟨rfl,_,rfl⟩
theorem EV(l:Tm.Wd)(hl:l=[105,54,52,98,101])(w:World):Calls Tryz.prog 112 #[.string (aa l)] w fun e w'=>e= .returned (.tuple #[.int .i64 8,.int .i64 1,.bool true,.bool true])∧∃k,w'=w.drewN k:=by
 have e0:(l==[117,56])=false:=by rw[hl];decide
 have e1:(l==[105,56])=false:=by rw[hl];decide
 have e2:(l==[117,49,54,108,101])=false:=by rw[hl];decide
 have e3:(l==[117,49,54,98,101])=false:=by rw[hl];decide
 have e4:(l==[105,49,54,108,101])=false:=by rw[hl];decide
 have e5:(l==[105,49,54,98,101])=false:=by rw[hl];decide
 have e6:(l==[117,51,50,108,101])=false:=by rw[hl];decide
 have e7:(l==[117,51,50,98,101])=false:=by rw[hl];decide
 have e8:(l==[105,51,50,108,101])=false:=by rw[hl];decide
 have e9:(l==[105,51,50,98,101])=false:=by rw[hl];decide
 have e10:(l==[105,54,52,108,101])=false:=by rw[hl];decide
 have e11:(l==[105,54,52,98,101])=true:=by rw[hl];decide
 have hs:=hH l w (by rw[hl];decide) (by rw[hl];decide);rw[show(l.drop (l.length - 2)==[98,101])=true by rw[hl];decide]at hs;have HS:=hid hs;have hpos:0 < l.length:=by rw[hl];decide
 have hposI:(0:Int) < (l.length:Int):=by omega
 have hcx:∀h:0 < (aa l).size,((aa l)[0]'h).toNat=105:=by subst hl;intro h;rfl
 clear hs;clear hl;go_enter Tryz.func112,Tryz.ntmps112;go_wp2_with fail;refine HS.out.mono ?_;rintro e w1 ⟨rfl,rfl⟩;go_wp2_with fail;go_quiet (fail);go_wp2_with fail;exact bodyPost_ret (v:= .tuple #[.int .i64 8,.int .i64 1,.bool true,.bool true]) (by simp[results,Tryz.results112,go_sem]) rfl ⟨rfl,_,rfl⟩
theorem pe(l:Tm.Wd)(hl:Tm.kindOf l=none)(w:World):Calls Tryz.prog 112 #[.string (aa l)] w fun e w'=>e= .returned (.tuple #[.int .i64 0,.int .i64 0,.bool false,.bool false])∧∃k,w'=w.drewN k:=by
 have hk:∀p∈Tm.bp,(l==p.1)=false:=by
  intro p hp;unfold Tm.kindOf at hl;rw[Option.map_eq_none_iff,List.find?_eq_none]at hl;have:=hl p hp;rw[Z8];intro e;apply this;rw[beq_iff_eq];exact e.symm
 have e0:=hk ([117,56],1,0,false) (by decide);have e1:=hk ([105,56],1,0,true) (by decide);have e2:=hk ([117,49,54,108,101],2,0,false) (by decide);have e3:=hk ([117,49,54,98,101],2,1,false) (by decide);have e4:=hk ([105,49,54,108,101],2,0,true) (by decide);have e5:=hk ([105,49,54,98,101],2,1,true) (by decide);have e6:=hk ([117,51,50,108,101],4,0,false) (by decide);have e7:=hk ([117,51,50,98,101],4,1,false) (by decide);have e8:=hk ([105,51,50,108,101],4,0,true) (by decide);have e9:=hk ([105,51,50,98,101],4,1,true) (by decide);have e10:=hk ([105,54,52,108,101],8,0,true) (by decide);have e11:=hk ([105,54,52,98,101],8,1,true) (by decide);simp only[]at e0 e1 e2 e3 e4 e5 e6 e7 e8 e9 e10 e11;clear hl hk;go_enter Tryz.func112,Tryz.ntmps112;go_wp2_with fail;exact bodyPost_ret (v:= .tuple #[.int .i64 0,.int .i64 0,.bool false,.bool false]) (by simp[results,Tryz.results112,go_sem]) rfl ⟨rfl,0,rfl⟩
def cW(l:Tm.Wd):Nat×Nat×Bool:=(Tm.kindOf l).getD (0,0,false)
theorem vZ(l:Tm.Wd)(w:World):Calls Tryz.prog 112 #[.string (aa l)] w fun e w'=>e= .returned (.tuple #[.int .i64 ((cW l).1:Nat),.int .i64 ((cW l).2.1:Nat),.bool (cW l).2.2,.bool (Tm.kindOf l).isSome])∧∃k,w'=w.drewN k:=by
 cases hk:Tm.kindOf l with
 |none=>unfold cW;rw[hk];exact pe l hk w
 |some v=>
  have hm:∃p∈Tm.bp,l=p.1:=by
   unfold Tm.kindOf at hk;rw[Option.map_eq_some_iff]at hk;obtain⟨p,hp,_⟩:=hk;have h2:=List.find?_some hp;rw[beq_iff_eq]at h2;exact⟨p,List.mem_of_find?_eq_some hp,h2.symm⟩
  obtain⟨p,hp,rfl⟩:=hm;unfold cW;rw[hk];simp only[Tm.bp,List.mem_cons,List.not_mem_nil,or_false]at hp;rcases hp with rfl|rfl|rfl|rfl|rfl|rfl|rfl|rfl|rfl|rfl|rfl|rfl
  ·obtain rfl:v=(1,0,false):=by have:=hk;simpa[Tm.kindOf,Tm.bp]using this.symm
   exact Hb _ rfl w
  ·obtain rfl:v=(1,0,true):=by have:=hk;simpa[Tm.kindOf,Tm.bp]using this.symm
   exact Hc _ rfl w
  ·obtain rfl:v=(2,0,false):=by have:=hk;simpa[Tm.kindOf,Tm.bp]using this.symm
   exact He _ rfl w
  ·obtain rfl:v=(2,1,false):=by have:=hk;simpa[Tm.kindOf,Tm.bp]using this.symm
   exact Hf _ rfl w
  ·obtain rfl:v=(2,0,true):=by have:=hk;simpa[Tm.kindOf,Tm.bp]using this.symm
   exact Hg _ rfl w
  ·obtain rfl:v=(2,1,true):=by have:=hk;simpa[Tm.kindOf,Tm.bp]using this.symm
   exact Hh _ rfl w
  ·obtain rfl:v=(4,0,false):=by have:=hk;simpa[Tm.kindOf,Tm.bp]using this.symm
   exact Hi _ rfl w
  ·obtain rfl:v=(4,1,false):=by have:=hk;simpa[Tm.kindOf,Tm.bp]using this.symm
   exact Hj _ rfl w
  ·obtain rfl:v=(4,0,true):=by have:=hk;simpa[Tm.kindOf,Tm.bp]using this.symm
   exact Hk _ rfl w
  ·obtain rfl:v=(4,1,true):=by have:=hk;simpa[Tm.kindOf,Tm.bp]using this.symm
   exact Hl _ rfl w
  ·obtain rfl:v=(8,0,true):=by have:=hk;simpa[Tm.kindOf,Tm.bp]using this.symm
   exact EU _ rfl w
  ·obtain rfl:v=(8,1,true):=by have:=hk;simpa[Tm.kindOf,Tm.bp]using this.symm
   exact EV _ rfl w
theorem wb(l:Tm.Wd)(w:World):Calls Tryz.prog 87 #[.string (aa l)] w fun e w'=>e= .returned (.bool (Tm.kR l))∧∃k,w'=w.drewN k:=by
 have HK:=hid (vZ l w);unfold Tm.kR;generalize(cW l).1=a at *
 generalize(cW l).2.1=b at *
 generalize(cW l).2.2=c at *
 cases hz:(Tm.kindOf l).isSome with
 |true=>
  rw[hz]at HK;clear hz;go_enter Tryz.func87,Tryz.ntmps87;go_wp2_with fail;refine HK.out.mono ?_;rintro e w1 ⟨rfl,k,rfl⟩;go_wp2_with fail;go_ret;exact⟨rfl,k,rfl⟩
 |false=>
  rw[hz]at HK;clear hz;have hc:Tm.fS.contains l=((((((l==[115,116,114,117,99,116])||(l==[98,121,116,101,115]))||(l==[119,104,101,110]))||(l==[115,105,122,101]))||(l==[99,111,117,110,116]))||(l==[99,104,101,99,107])):=by
   rw[Bool.eq_iff_iff];simp[Tm.fS,Tm.cS,Tm.cD,Tm.dD,Tm.dE,Tm.cw,Tm.bN,or_assoc]
  rw[hc,Bool.false_or];have HC:=hid hc;clear hc;go_enter Tryz.func87,Tryz.ntmps87;go_wp2_with fail;refine HK.out.mono ?_;rintro e w1 ⟨rfl,k,rfl⟩;go_wp2_with fail
  all_goals
   go_ret;refine⟨jo ?_,k,rfl⟩
   simp_all
namespace Rd
theorem Rdr.drewN{w:World}{rb:Nat}{R:List Tok}{E:Nat}(h:Rdr w rb R E)(k:Nat):Rdr (w.drewN k) rb R E:=h.below ⟨rfl,rfl,rfl,Z5 _,fun _ _=>rfl⟩
theorem fZ(w:World)(k:Nat)(r:Option Nat):w.grownBy (w.drewN k) r:=⟨rfl,rfl,rfl,Z5 _,fun _ _ _=>rfl⟩
def Bad(w:World)(rb:Nat)(e:Ending)(w':World):Prop:=∃g en p:Nat,e=aD g∧ae w' g 0 122 [.int .i64 (en:Nat),.int .i64 (p:Nat)]∧w.heap.size≤g∧w.grownBy w' (some rb)
end Rd
theorem iq(rb:Nat)(t:Rd.Tok)(R:List Rd.Tok)(E:Nat)(w:World)(h:Rdr w rb (t::R) E)(hn:Tm.aP t.1=true):
  Calls Tryz.prog 54 #[.pointer (some ⟨rb,0,none⟩)] w fun e w'=>e= .returned (.string (aa t.1))∧Rdr w' rb R E∧w.grownBy w' (some rb):=by
 have hne:t.1≠[]:=by intro e;rw[e]at hn;exact absurd hn (by decide)
 have hkp:=Tm.im hn;have hle:isName t.1=true:=by
  unfold Tm.aP at hn;simp only[Bool.and_eq_true]at hn;have:=hn.1.1;cases ht:t.1 with
  |nil=>rw[ht]at this;cases this
  |cons c r=>rw[ht]at this;exact this
 have hlen:t.1.length≤12:=by
  unfold Tm.aP at hn;simp only[Bool.and_eq_true,decide_eq_true_eq]at hn;exact hn.2
 have HA:=hid (bW rb (t::R) E w h);have HT:=hid (bJ rb (t::R) E w h);have HP:=hid (fun k=>eg rb t R E (w.drewN k) (h.drewN k) hne);have hN:=vT t.1 w;rw[hle]at hN;have HN:=hid hN;have hK:=wb t.1 w;rw[hkp]at hK;have HK:=hid hK;have hto:al (t::R)=t.1:=rfl;rw[hto]at HT;generalize Ex.dY E (t::R)=at_ at *
 generalize t.1=s at *
 have d12:decide ((12:Int) < (s.length:Int))=false:=Y9 (by omega);have d12n:decide (12 < s.length)=false:=Y9 (by omega);clear h hn hne hkp hle hN hK hto;go_enter Tryz.func54,Tryz.ntmps54;go_wp2_with fail;refine HA.out.mono ?_;rintro e w1 ⟨rfl,rfl⟩;go_wp2_with fail;refine HT.out.mono ?_;rintro e w2 ⟨rfl,rfl⟩;go_wp2_with fail;refine HN.out.mono ?_;rintro e w3 ⟨rfl,rfl⟩;go_wp2_with fail;refine HK.out.mono ?_;rintro e w4 ⟨rfl,k,rfl⟩;go_wp2_with fail;refine(HP.out k).mono ?_;rintro e w5 ⟨rfl,h1,h2⟩;go_wp2_with fail;go_ret;exact⟨rfl,h1,ah (fZ _ k _) h2⟩
theorem kg(rb:Nat)(T:List Rd.Tok)(E:Nat)(w:World)(h:Rdr w rb T E)(hn:Tm.aP (Tm.al T)=false)(hsz:(Tm.al T).length≤100000):
  Calls Tryz.prog 54 #[.pointer (some ⟨rb,0,none⟩)] w (Bad w rb):=by
 have hto:al T=Tm.al T:=by cases T <;> rfl
 have HA:=hid (bW rb T E w h);have HT:=hid (bJ rb T E w h);rw[hto]at HT;have HN:=hid (vT (Tm.al T) w);have HK:=hid (wb (Tm.al T) w);have hnb:isName (Tm.al T)=false∨(isName (Tm.al T)=true∧Tm.kR (Tm.al T)=true)∨(isName (Tm.al T)=true∧Tm.kR (Tm.al T)=false∧12 < (Tm.al T).length):=by
  have e:Tm.jt (Tm.al T)=isName (Tm.al T):=by cases Tm.al T <;> rfl
  unfold Tm.aP at hn;rw[e]at hn;cases h1:isName (Tm.al T)with
  |false=>exact .inl rfl
  |true=>
   cases h2:Tm.kR (Tm.al T)with
   |true=>exact .inr (.inl ⟨rfl,rfl⟩)
   |false=>
    rw[h1,h2]at hn;simp only[Bool.true_and,Bool.not_false,decide_eq_false_iff_not,Nat.not_le]at hn;exact .inr (.inr ⟨rfl,rfl,hn⟩)
 generalize Tm.al T=s at *
 generalize Ex.dY E T=at_ at *
 have hF:=fun en k=>dC rb en at_ (w.drewN k)
 unfold aD at hF;have HF:=hid hF;unfold Bad aD;clear h hn hto hF;rcases hnb with h1|⟨h1,h2⟩|⟨h1,h2,h3⟩
 ·rw[h1]at HN;clear h1;go_enter Tryz.func54,Tryz.ntmps54;go_wp2_with fail;refine HA.out.mono ?_;rintro e w1 ⟨rfl,rfl⟩;go_wp2_with fail;refine HT.out.mono ?_;rintro e w2 ⟨rfl,rfl⟩;go_wp2_with fail;refine HN.out.mono ?_;rintro e w3 ⟨rfl,rfl⟩;go_wp2_with fail;refine(HF.out 3 0).mono ?_;rintro e w5 ⟨rfl,h1,h2⟩;go_wp2_with fail;exact⟨rfl,_,3,at_,rfl,h1,Z5 _,ar h2 _⟩
 ·rw[h1]at HN;rw[h2]at HK;clear h1 h2;go_enter Tryz.func54,Tryz.ntmps54;go_wp2_with fail;refine HA.out.mono ?_;rintro e w1 ⟨rfl,rfl⟩;go_wp2_with fail;refine HT.out.mono ?_;rintro e w2 ⟨rfl,rfl⟩;go_wp2_with fail;refine HN.out.mono ?_;rintro e w3 ⟨rfl,rfl⟩;go_wp2_with fail;refine HK.out.mono ?_;rintro e w4 ⟨rfl,k,rfl⟩;go_wp2_with fail;refine(HF.out 3 k).mono ?_;rintro e w5 ⟨rfl,h1,h2⟩;go_wp2_with fail;exact⟨rfl,_,3,at_,rfl,h1,Z5 _,ah (fZ _ k _) (ar h2 _)⟩
 ·rw[h1]at HN;rw[h2]at HK;have d12:decide ((12:Int) < (s.length:Int))=true:=Z9 (by omega);have d12n:decide (12 < s.length)=true:=Z9 h3;clear h1 h2;go_enter Tryz.func54,Tryz.ntmps54;go_wp2_with fail;refine HA.out.mono ?_;rintro e w1 ⟨rfl,rfl⟩;go_wp2_with fail;refine HT.out.mono ?_;rintro e w2 ⟨rfl,rfl⟩;go_wp2_with fail;refine HN.out.mono ?_;rintro e w3 ⟨rfl,rfl⟩;go_wp2_with fail;refine HK.out.mono ?_;rintro e w4 ⟨rfl,k,rfl⟩;go_wp2_with fail;refine(HF.out 4 k).mono ?_;rintro e w5 ⟨rfl,h1,h2⟩;go_wp2_with fail;exact⟨rfl,_,4,at_,rfl,h1,Z5 _,ah (fZ _ k _) (ar h2 _)⟩
namespace Rd
theorem Rdr.gf{w:World}{rb xb k:Nat}{R:List Tok}{E:Nat}(h:Rdr w rb R E)(hx:rb < xb)(v:Value):Rdr (w.setCell ⟨xb,k,none⟩ v) rb R E:=by
 obtain⟨a,c,h1,h2,h3⟩:=h;have hh:∀b,b≤rb→(w.setCell ⟨xb,k,none⟩ v).heap[b]? =w.heap[b]? :=fun b hb=>Below.heap_setCell w ⟨xb,k,none⟩ v b (by show b≠xb;omega)
 refine⟨a,c,h1.of_heap (hh rb (Z5 _)),h2,?_⟩;rcases h3 with h|⟨g,off,e1,e2,e3⟩
 ·exact .inl h
 ·refine .inr ⟨g,off,e1,e2,fun j hj=> ?_⟩;have hb:=hh g (Nat.le_of_lt e2);exact⟨(World.cell?_of_block (a:=⟨g,off+j * 2,none⟩) hb).trans (e3 j hj).1,(World.cell?_of_block (a:=⟨g,off+j * 2+1,none⟩) hb).trans (e3 j hj).2⟩
theorem cE{w0 w:World}{rb xb k:Nat}(h:w0.grownBy w (some rb))(hx:w0.heap.size≤xb)(v:Value):w0.grownBy (w.setCell ⟨xb,k,none⟩ v) (some rb):=
 ⟨h.os,h.tape,h.output,by rw[World.size_setCell];exact h.size,fun i hi hne=>(Below.heap_setCell w ⟨xb,k,none⟩ v i (by show i≠xb;omega)).trans (h.block i hi hne)⟩
theorem Bad.up{w0 w:World}{rb:Nat}{e:Ending}{w':World}(hg:w0.grownBy w (some rb))(h:Bad w rb e w'):Bad w0 rb e w':=by
 obtain⟨g,en,p,h1,h2,h3,h4⟩:=h;exact⟨g,en,p,h1,h2,Nat.le_trans hg.size h3,ah hg h4⟩
end Rd
theorem Cy(rb:Nat)(E:Nat)(w:World)(h:Rdr w rb [] E):
  Calls Tryz.prog 88 #[.pointer (some ⟨rb,0,none⟩)] w (Bad w rb):=by
 have HT:=hid (bJ rb [] E w h);have HA:=hid (bW rb [] E w h);have hto:al ([]:List Tok)=[]:=rfl;rw[hto]at HT;generalize Ex.dY E []=at_ at *
 have hF:=dC rb 3 at_ w;unfold aD at hF;have HF:=hid hF;unfold Bad aD;clear h hto hF;go_enter Tryz.func88,Tryz.ntmps88;go_wp2_with fail;refine HT.out.mono ?_;rintro e w1 ⟨rfl,rfl⟩;go_wp2_with fail;refine HA.out.mono ?_;rintro e w2 ⟨rfl,rfl⟩;go_wp2_with fail;refine HF.out.mono ?_;rintro e w3 ⟨rfl,h1,h2⟩;go_wp2_with fail;exact⟨rfl,_,3,at_,rfl,h1,Z5 _,ar h2 _⟩
def av:Tm.Rl→Nat×Tm.Wd×Tm.Wd
 | .none=>(0,[],[])
 | .size f=>(1,f,[])
 | .count f=>(2,f,[])
 | .check f l=>(3,f,l)
structure C10 where
 c0:Value
 c1:Value
 c2:Value
 c3:Value
 c4:Value
 c5:Value
 c6:Value
 c7:Value
 c8:Value
 c12:Value
def C10.row(c:C10)(r:Nat)(f l:Tm.Wd):List Value:=[c.c0,c.c1,c.c2,c.c3,c.c4,c.c5,c.c6,c.c7,c.c8,.int .i64 (r:Nat),.string (aa f),.string (aa l),c.c12]
structure fA(w0 w:World)(rb xb E:Nat)(R:List Rd.Tok)(c:C10)(r:Nat)(f l:Tm.Wd):Prop where
 gr:w0.grownBy w (some rb)
 lo:w0.heap.size≤xb
 lt:rb < xb
 rd:Rdr w rb R E
 row:ae w xb 0 70 (c.row r f l)
section
variable{w0 w w':World}{rb xb E r:Nat}{R R':List Rd.Tok}{c:C10}{f l:Tm.Wd}
theorem fA.move(h:fA w0 w rb xb E R c r f l)(hr:Rdr w' rb R' E)(hg:w.grownBy w' (some rb)):fA w0 w' rb xb E R' c r f l:=
 ⟨ah h.gr hg,h.lo,h.lt,hr,h.row.of_heap (hg.block xb h.row.lt (fun e=>by injection e with e;have:=h.lt;omega))⟩
theorem fA.Jy(h:fA w0 w rb xb E R c r f l)(v:Nat):fA w0 (w.setCell ⟨xb,9,none⟩ (.int .i64 (v:Nat))) rb xb E R c v f l:=
 ⟨cE h.gr h.lo _,h.lo,h.lt,h.rd.gf h.lt _,h.row.ax 9 (by simp[C10.row]) _⟩
theorem fA.EW(h:fA w0 w rb xb E R c r f l)(v:Tm.Wd):fA w0 (w.setCell ⟨xb,10,none⟩ (.string (aa v))) rb xb E R c r v l:=
 ⟨cE h.gr h.lo _,h.lo,h.lt,h.rd.gf h.lt _,h.row.ax 10 (by simp[C10.row]) _⟩
theorem fA.Jf(h:fA w0 w rb xb E R c r f l)(v:Tm.Wd):fA w0 (w.setCell ⟨xb,11,none⟩ (.string (aa v))) rb xb E R c r f v:=
 ⟨cE h.gr h.lo _,h.lo,h.lt,h.rd.gf h.lt _,h.row.ax 11 (by simp[C10.row]) _⟩
theorem fA.cells(h:fA w0 w rb xb E R c r f l):w.cell? ⟨xb,9,none⟩=some (.int .i64 (r:Nat))∧w.cell? ⟨xb,10,none⟩=some (.string (aa f))∧w.cell? ⟨xb,11,none⟩=some (.string (aa l))∧w.frozen? ⟨xb,9,none⟩=false∧w.frozen? ⟨xb,10,none⟩=false∧w.frozen? ⟨xb,11,none⟩=false:=
 ⟨h.row.cell0 9 (by simp[C10.row]),h.row.cell0 10 (by simp[C10.row]),h.row.cell0 11 (by simp[C10.row]),h.row.frozen0 9 (by simp[C10.row]),h.row.frozen0 10 (by simp[C10.row]),h.row.frozen0 11 (by simp[C10.row])⟩
end
theorem Cz(w0 w:World)(rb xb E:Nat)(t:Rd.Tok)(R1:List Rd.Tok)(c:C10)(st:fA w0 w rb xb E (t::R1) c 0 [] [])(ht:t.1=Tm.dE)(hsz:(Tm.al R1).length≤100000):
  Calls Tryz.prog 114 #[.pointer (some ⟨rb,0,none⟩),.pointer (some ⟨xb,0,none⟩)] w fun e w'=>(∃u R2,R1=u::R2∧Tm.aP u.1=true∧e= .returned (.tuple #[])∧fA w0 w' rb xb E R2 c 1 u.1 [])∨(Tm.aP (Tm.al R1)=false∧Bad w0 rb e w'):=by
 have HA:=hid (bW rb (t::R1) E w st.rd);have hP:=eg rb t R1 E w st.rd (by rw[ht];decide);rw[ht]at hP;have HP:=hid hP;have q1:(Tm.dE==[115,105,122,101])=true:=by decide
 have q2:(Tm.dE==[99,111,117,110,116])=false:=by decide
 have HST:=hid st;have HSZ:=hid hsz;generalize Ex.dY E (t::R1)=at_ at *
 clear st ht hP hsz;go_enter Tryz.func114,Tryz.ntmps114;go_wp2_with fail;refine HA.out.mono ?_;rintro e w1 ⟨rfl,rfl⟩;go_wp2_with fail;refine HP.out.mono ?_;rintro e w2 ⟨rfl,hr2,hg2⟩;have HS2:=hid (HST.out.move hr2 hg2);obtain⟨k9,k10,k11,f9,f10,f11⟩:=HS2.out.cells;clear hr2 hg2 HP HA HST k10 k11 f10 f11;go_wp2_with fail;have HS3:=hid (HS2.out.Jy 1)
 by_cases hn:Tm.aP (Tm.al R1)=true
 ·obtain⟨u,R2,rfl⟩:∃u R2,R1=u::R2:=by
   cases R1 with
   |nil=>exact absurd hn (by decide)
   |cons u R2=>exact⟨u,R2,rfl⟩
  refine(iq rb u R2 E _ HS3.out.rd hn).mono ?_;rintro e w4 ⟨rfl,hr4,hg4⟩;have HS4:=hid (HS3.out.move hr4 hg4);obtain⟨k9,k10,k11,f9,f10,f11⟩:=HS4.out.cells;have HS5:=hid (HS4.out.EW u.1);obtain⟨m9,m10,m11,_⟩:=HS5.out.cells;have HN:=hid hn;clear hr4 hg4 HS2 HS3 hn k11 f11;go_wp2_with fail
  go_end0
  exact .inl ⟨u,R2,rfl,HN.out,rfl,HS5.out⟩
 ·have hn2:Tm.aP (Tm.al R1)=false:=by simpa using hn
  have hx:=kg rb R1 E _ HS3.out.rd hn2 HSZ.out;have hb:∀e w',Bad (w2.setCell ⟨xb,9,none⟩ (.int .i64 1)) rb e w'→Bad w0 rb e w':=fun e w' h=>Bad.up HS3.out.gr h
  have HX:=hid (hx.mono hb);have HN:=hid hn2;unfold Bad aD at HX;clear hn hn2 hx hb;refine HX.out.mono ?_;rintro e w4 ⟨g,en,p,rfl,h1,h2,h3⟩;go_wp2_with fail;exact⟨rfl,.inr ⟨HN.out,g,en,p,rfl,h1,h2,h3⟩⟩
theorem zb(w0 w:World)(rb xb E:Nat)(t:Rd.Tok)(R1:List Rd.Tok)(c:C10)(st:fA w0 w rb xb E (t::R1) c 0 [] [])(ht:t.1=Tm.cw)(hsz:(Tm.al R1).length≤100000):
  Calls Tryz.prog 114 #[.pointer (some ⟨rb,0,none⟩),.pointer (some ⟨xb,0,none⟩)] w fun e w'=>(∃u R2,R1=u::R2∧Tm.aP u.1=true∧e= .returned (.tuple #[])∧fA w0 w' rb xb E R2 c 2 u.1 [])∨(Tm.aP (Tm.al R1)=false∧Bad w0 rb e w'):=by
 have HA:=hid (bW rb (t::R1) E w st.rd);have hP:=eg rb t R1 E w st.rd (by rw[ht];decide);rw[ht]at hP;have HP:=hid hP;have q1:(Tm.cw==[115,105,122,101])=false:=by decide
 have q2:(Tm.cw==[99,111,117,110,116])=true:=by decide
 have HST:=hid st;have HSZ:=hid hsz;generalize Ex.dY E (t::R1)=at_ at *
 clear st ht hP hsz;go_enter Tryz.func114,Tryz.ntmps114;go_wp2_with fail;refine HA.out.mono ?_;rintro e w1 ⟨rfl,rfl⟩;go_wp2_with fail;refine HP.out.mono ?_;rintro e w2 ⟨rfl,hr2,hg2⟩;have HS2:=hid (HST.out.move hr2 hg2);obtain⟨k9,k10,k11,f9,f10,f11⟩:=HS2.out.cells;clear hr2 hg2 HP HA HST k10 k11 f10 f11;go_wp2_with fail;have HS3:=hid (HS2.out.Jy 2)
 by_cases hn:Tm.aP (Tm.al R1)=true
 ·obtain⟨u,R2,rfl⟩:∃u R2,R1=u::R2:=by
   cases R1 with
   |nil=>exact absurd hn (by decide)
   |cons u R2=>exact⟨u,R2,rfl⟩
  refine(iq rb u R2 E _ HS3.out.rd hn).mono ?_;rintro e w4 ⟨rfl,hr4,hg4⟩;have HS4:=hid (HS3.out.move hr4 hg4);obtain⟨k9,k10,k11,f9,f10,f11⟩:=HS4.out.cells;have HS5:=hid (HS4.out.EW u.1);obtain⟨m9,m10,m11,_⟩:=HS5.out.cells;have HN:=hid hn;clear hr4 hg4 HS2 HS3 hn k11 f11;go_wp2_with fail
  go_end0
  exact .inl ⟨u,R2,rfl,HN.out,rfl,HS5.out⟩
 ·have hn2:Tm.aP (Tm.al R1)=false:=by simpa using hn
  have hx:=kg rb R1 E _ HS3.out.rd hn2 HSZ.out;have hb:∀e w',Bad (w2.setCell ⟨xb,9,none⟩ (.int .i64 2)) rb e w'→Bad w0 rb e w':=fun e w' h=>Bad.up HS3.out.gr h
  have HX:=hid (hx.mono hb);have HN:=hid hn2;unfold Bad aD at HX;clear hn hn2 hx hb;refine HX.out.mono ?_;rintro e w4 ⟨g,en,p,rfl,h1,h2,h3⟩;go_wp2_with fail;exact⟨rfl,.inr ⟨HN.out,g,en,p,rfl,h1,h2,h3⟩⟩
theorem zc(w0 w:World)(rb xb E:Nat)(t:Rd.Tok)(R1:List Rd.Tok)(c:C10)(st:fA w0 w rb xb E (t::R1) c 0 [] [])(ht:t.1=Tm.bN)(hsz:∀u∈R1,u.1.length≤100000):
  Calls Tryz.prog 114 #[.pointer (some ⟨rb,0,none⟩),.pointer (some ⟨xb,0,none⟩)] w fun e w'=>(∃l R3,Tm.ea (t::R1) (.check (Tm.al R1) l) R3∧e= .returned (.tuple #[])∧fA w0 w' rb xb E R3 c 3 (Tm.al R1) l)∨((∀r R,¬Tm.ea (t::R1) r R)∧Bad w0 rb e w'):=by
 have HTW:=hid ht;have HA:=hid (bW rb (t::R1) E w st.rd);have hP:=eg rb t R1 E w st.rd (by rw[ht];decide);rw[ht]at hP;have HP:=hid hP;have q1:(Tm.bN==[115,105,122,101])=false:=by decide
 have q2:(Tm.bN==[99,111,117,110,116])=false:=by decide
 have q3:(Tm.bN==[99,104,101,99,107])=true:=by decide
 have HST:=hid st;have HSZ:=hid hsz;have hnot:∀(r:Tm.Rl) (R:List Rd.Tok),Tm.ea (t::R1) r R→∃u R2,R1=u::R2∧Tm.aP u.1=true∧((Tm.al R2=[59])∨Tm.aP (Tm.al R2)=true):=by
  intro r R h;cases h with
  |size h1=>rw[ht]at h1;exact absurd h1 (by decide)
  |count h1=>rw[ht]at h1;exact absurd h1 (by decide)
  |eL _ h2 h3=>exact⟨_,_,rfl,h2,.inl h3⟩
  |eM _ h2 _ h4=>exact⟨_,_,rfl,h2,.inr h4⟩
 have HNOT:=hid hnot;generalize Ex.dY E (t::R1)=at_ at *
 clear st ht hP hsz hnot;go_enter Tryz.func114,Tryz.ntmps114;go_wp2_with fail;refine HA.out.mono ?_;rintro e w1 ⟨rfl,rfl⟩;go_wp2_with fail;refine HP.out.mono ?_;rintro e w2 ⟨rfl,hr2,hg2⟩;have HS2:=hid (HST.out.move hr2 hg2);obtain⟨k9,k10,k11,f9,f10,f11⟩:=HS2.out.cells;clear hr2 hg2 HP HA HST k10 k11 f10 f11;go_wp2_with fail;have HS3:=hid (HS2.out.Jy 3)
 by_cases hn:Tm.aP (Tm.al R1)=true
 ·obtain⟨u,R2,rfl⟩:∃u R2,R1=u::R2:=by
   cases R1 with
   |nil=>exact absurd hn (by decide)
   |cons u R2=>exact⟨u,R2,rfl⟩
  refine(iq rb u R2 E _ HS3.out.rd hn).mono ?_;rintro e w4 ⟨rfl,hr4,hg4⟩;have HS4:=hid (HS3.out.move hr4 hg4);obtain⟨k9,k10,k11,f9,f10,f11⟩:=HS4.out.cells;have HS5:=hid (HS4.out.EW u.1);obtain⟨m9,m10,m11,_,_,g11⟩:=HS5.out.cells;have HS6:=hid (HS5.out.Jf u.1);have HT6:=hid (bJ rb R2 E _ HS6.out.rd);rw[show al R2=Tm.al R2 by cases R2 <;> rfl]at HT6;have HN:=hid hn;clear hr4 hg4 HS2 HS3 HS4 HS5 hn f11;go_wp2_with fail;refine HT6.out.mono ?_;rintro e w6 ⟨rfl,rfl⟩
  by_cases hsc:Tm.al R2=[59]
  ·have n1:(Tm.al R2==[59])=true:=by rw[beq_iff_eq];exact hsc
   have n2:(Tm.al R2 !=[59])=false:=by rw[bne,n1];rfl
   have HSC:=hid hsc;clear hsc;go_wp2_with fail
   go_end0
   exact .inl ⟨u.1,R2,.eL HTW.out HN.out HSC.out,rfl,HS6.out⟩
  ·have n1:(Tm.al R2==[59])=false:=by rw[Z8];exact hsc
   have n2:(Tm.al R2 !=[59])=true:=by rw[bne,n1];rfl
   have HSC:=hid hsc;clear hsc;go_wp2_with fail
   by_cases hn2:Tm.aP (Tm.al R2)=true
   ·obtain⟨v,R3,rfl⟩:∃v R3,R2=v::R3:=by
     cases R2 with
     |nil=>exact absurd hn2 (by decide)
     |cons v R3=>exact⟨v,R3,rfl⟩
    refine(iq rb v R3 E _ HS6.out.rd hn2).mono ?_;rintro e w7 ⟨rfl,hr7,hg7⟩;have HS7:=hid (HS6.out.move hr7 hg7);obtain⟨p9,p10,p11,_,_,e11⟩:=HS7.out.cells;have HS8:=hid (HS7.out.Jf v.1);have HN2:=hid hn2;clear hr7 hg7 HS6 HS7 hn2;go_wp2_with fail
    go_end0
    exact .inl ⟨v.1,R3,.eM HTW.out HN.out HSC.out HN2.out,rfl,HS8.out⟩
   ·have hn3:Tm.aP (Tm.al R2)=false:=by simpa using hn2
    have hx:=kg rb R2 E _ HS6.out.rd hn3 (by
     cases R2 with
     |nil=>simp[Tm.al]
     |cons v R3=>exact HSZ.out v (by simp))
    have HX:=hid (hx.mono fun e w' h=>Bad.up HS6.out.gr h);have HN3:=hid hn3;unfold Bad aD at HX;clear hn2 hn3 hx;refine HX.out.mono ?_;rintro e w7 ⟨g,en,p,rfl,h1,h2,h3⟩;go_wp2_with fail;refine⟨rfl,.inr ⟨?_,g,en,p,rfl,h1,h2,h3⟩⟩;intro r R h;obtain⟨u',R2',e1,h4,h5⟩:=HNOT.out r R h;cases e1;rcases h5 with h5|h5
    ·exact HSC.out h5
    ·rw[HN3.out]at h5;cases h5
 ·have hn2:Tm.aP (Tm.al R1)=false:=by simpa using hn
  have hx:=kg rb R1 E _ HS3.out.rd hn2 (by
   cases R1 with
   |nil=>simp[Tm.al]
   |cons u R2=>exact HSZ.out u (by simp))
  have hb:∀e w',Bad (w2.setCell ⟨xb,9,none⟩ (.int .i64 3)) rb e w'→Bad w0 rb e w':=fun e w' h=>Bad.up HS3.out.gr h
  have HX:=hid (hx.mono hb);have HN:=hid hn2;unfold Bad aD at HX;clear hn hn2 hx hb;refine HX.out.mono ?_;rintro e w4 ⟨g,en,p,rfl,h1,h2,h3⟩;go_wp2_with fail;refine⟨rfl,.inr ⟨?_,g,en,p,rfl,h1,h2,h3⟩⟩;intro r R h;obtain⟨u,R2,rfl,h4,_⟩:=HNOT.out r R h;have:=HN.out;rw[show Tm.al (u::R2)=u.1 from rfl,h4]at this;cases this
theorem CA(w0 w:World)(rb xb E:Nat)(T:List Rd.Tok)(c:C10)(st:fA w0 w rb xb E T c 0 [] [])(hne:∀t∈T,t.1≠[])(h1:Tm.al T≠Tm.dE)(h2:Tm.al T≠Tm.cw)(h3:Tm.al T≠Tm.bN):
  Calls Tryz.prog 114 #[.pointer (some ⟨rb,0,none⟩),.pointer (some ⟨xb,0,none⟩)] w fun e w'=>(∀r R,¬Tm.ea T r R)∧Bad w0 rb e w':=by
 have hnot:∀r R,¬Tm.ea T r R:=by
  intro r R h;cases h with
  |size g=>exact h1 g
  |count g=>exact h2 g
  |eL g=>exact h3 g
  |eM g=>exact h3 g
 have HNOT:=hid hnot;have HA:=hid (bW rb T E w st.rd);cases T with
 |nil=>
  have hx:=Cy rb E w st.rd;have HX:=hid (hx.mono fun e w' h=>Bad.up st.gr h);generalize Ex.dY E []=at_ at *
  unfold Bad aD at HX;unfold Bad aD;clear st hnot h1 h2 h3 hx hne;go_enter Tryz.func114,Tryz.ntmps114;go_wp2_with fail;refine HA.out.mono ?_;rintro e w1 ⟨rfl,rfl⟩;go_wp2_with fail;refine HX.out.mono ?_;rintro e w2 ⟨g,en,p,rfl,g1,g2,g3⟩;go_wp2_with fail;exact⟨rfl,HNOT.out,g,en,p,rfl,g1,g2,g3⟩
 |cons t R1=>
  have hP:=eg rb t R1 E w st.rd (hne t (by simp));have HP:=hid hP;have q1:(t.1==[115,105,122,101])=false:=by rw[Z8];exact h1
  have q2:(t.1==[99,111,117,110,116])=false:=by rw[Z8];exact h2
  have q3:(t.1==[99,104,101,99,107])=false:=by rw[Z8];exact h3
  have HGR:=hid st.gr;generalize Ex.dY E (t::R1)=at_ at *
  have hF:=fun V=>dC rb 3 at_ V
  unfold aD at hF;have HF:=hid hF;unfold Bad aD;generalize t.1=s at *
  clear st hnot h1 h2 h3 hne hP hF;go_enter Tryz.func114,Tryz.ntmps114;go_wp2_with fail;refine HA.out.mono ?_;rintro e w1 ⟨rfl,rfl⟩;go_wp2_with fail;refine HP.out.mono ?_;rintro e w2 ⟨rfl,hr2,hg2⟩;have HG2:=hid (ah HGR.out hg2);clear hr2 hg2;go_wp2_with fail;refine(HF.out _).mono ?_;rintro e w3 ⟨rfl,g1,g2⟩;go_wp2_with fail;exact⟨rfl,HNOT.out,_,3,at_,rfl,g1,HG2.out.size,ah HG2.out (ar g2 _)⟩
def fK(T:List Rd.Tok):Prop:=∀t∈T,t.1≠[]∧t.1.length≤100000
theorem fK.suf{T R:List Rd.Tok}(h:fK T)(hs:R <:+ T):fK R:=fun t ht=>h t (hs.subset ht)
theorem fK.text{T:List Rd.Tok}(h:fK T):(Tm.al T).length≤100000:=by
 cases T with
 |nil=>simp[Tm.al]
 |cons t T=>exact(h t (by simp)).2
theorem EX(w0 w:World)(rb xb E:Nat)(T:List Rd.Tok)(c:C10)(st:fA w0 w rb xb E T c 0 [] [])(hT:fK T):
  Calls Tryz.prog 114 #[.pointer (some ⟨rb,0,none⟩),.pointer (some ⟨xb,0,none⟩)] w fun e w'=>(∃r R,Tm.ea T r R∧e= .returned (.tuple #[])∧fA w0 w' rb xb E R c (av r).1 (av r).2.1 (av r).2.2)∨((∀r R,¬Tm.ea T r R)∧Bad w0 rb e w'):=by
 by_cases h1:Tm.al T=Tm.dE
 ·cases T with
  |nil=>exact absurd h1 (by decide)
  |cons t R1=>
   refine(Cz w0 w rb xb E t R1 c st h1 (hT.suf (List.suffix_cons _ _)).text).mono ?_;rintro e w' (⟨u,R2,rfl,g1,g2,g3⟩|⟨g1,g2⟩)
   ·exact .inl ⟨.size u.1,R2,.size h1 g1,g2,g3⟩
   ·refine .inr ⟨?_,g2⟩;intro r R h;cases h with
    |size _ k=>exact absurd (k.symm.trans g1) (by decide)
    |count k=>rw[show t.1=Tm.dE from h1]at k;exact absurd k (by decide)
    |eL k=>rw[show t.1=Tm.dE from h1]at k;exact absurd k (by decide)
    |eM k=>rw[show t.1=Tm.dE from h1]at k;exact absurd k (by decide)
 ·by_cases h2:Tm.al T=Tm.cw
  ·cases T with
   |nil=>exact absurd h2 (by decide)
   |cons t R1=>
    refine(zb w0 w rb xb E t R1 c st h2 (hT.suf (List.suffix_cons _ _)).text).mono ?_;rintro e w' (⟨u,R2,rfl,g1,g2,g3⟩|⟨g1,g2⟩)
    ·exact .inl ⟨.count u.1,R2,.count h2 g1,g2,g3⟩
    ·refine .inr ⟨?_,g2⟩;intro r R h;cases h with
     |count _ k=>exact absurd (k.symm.trans g1) (by decide)
     |size k=>rw[show t.1=Tm.cw from h2]at k;exact absurd k (by decide)
     |eL k=>rw[show t.1=Tm.cw from h2]at k;exact absurd k (by decide)
     |eM k=>rw[show t.1=Tm.cw from h2]at k;exact absurd k (by decide)
  ·by_cases h3:Tm.al T=Tm.bN
   ·cases T with
    |nil=>exact absurd h3 (by decide)
    |cons t R1=>
     refine(zc w0 w rb xb E t R1 c st h3 (fun u hu=>(hT u (by simp[hu])).2)).mono ?_;rintro e w' (⟨l,R3,g1,g2,g3⟩|g)
     ·exact .inl ⟨_,R3,g1,g2,g3⟩
     ·exact .inr g
   ·exact(CA w0 w rb xb E T c st (fun t ht=>(hT t ht).1) h1 h2 h3).mono fun e w' h=> .inr h
theorem fL(w:World)(rb E:Nat)(T:List Rd.Tok)(he:Env w rb)(hr:Rdr w rb T E)(hT:fK T):
  Calls Tryz.prog 113 #[.pointer (some ⟨rb,0,none⟩),.int .i64 0] w fun e w'=>(∃x R b,Tm.eK E T x R∧e= .returned (.pointer (some ⟨b,0,none⟩))∧IsX w' rb b x∧Rdr w' rb R E∧w.grownBy w' (some rb))∨((∀x R,¬Tm.eK E T x R)∧Bad w rb e w'):=by
 obtain⟨o,ho⟩:=Ex.total (num:=Num.numOf) (E:=E) T.length T 0 (Z5 _) (fun t ht=>(hT t ht).1) (by omega) 0 (by omega);have h:=EE ho rb (fun t ht=>(hT t ht).2) w he hr;refine Calls.mono h ?_;intro e w' hp;cases o with
 |ok x R=>
  obtain⟨b,h1,h2,h3,h4⟩:=hp;exact .inl ⟨x,R,b,ho,h1,h2,h3,h4⟩
 |bad en p=>
  obtain⟨g,h1,h2,h3,h4⟩:=hp;refine .inr ⟨?_,g,en,p,h1,h2,h3,h4⟩;intro x R h9;have:=Tm.Par.det ho _ h9;cases this
theorem dF(w:World)(rb E:Nat)(T:List Rd.Tok)(m:Tm.Wd)(hm:m≠[])(hr:Rdr w rb T E):
  Calls Tryz.prog 53 #[.pointer (some ⟨rb,0,none⟩),.string (aa m)] w fun e w'=>(∃t R,T=t::R∧t.1=m∧e= .returned (.tuple #[])∧Rdr w' rb R E∧w.grownBy w' (some rb))∨(Tm.al T≠m∧Bad w rb e w'):=by
 have hto:al T=Tm.al T:=by cases T <;> rfl
 by_cases h:Tm.al T=m
 ·cases T with
  |nil=>exact absurd h.symm hm
  |cons t R=>
   have h2:t.1=m:=h;subst h2;exact(pL rb t R E w hr hm).mono fun e w' h=> .inl ⟨t,R,rfl,rfl,h⟩
 ·refine(AG rb T E m w hr hm (by rw[hto];exact h)).mono ?_;rintro e w' ⟨h1,h2,h3⟩;exact .inr ⟨h,w.heap.size,3,_,h1,h2,Z5 _,ar h3 _⟩
theorem lY(w:World)(rb E:Nat)(T:List Rd.Tok)(hr:Rdr w rb T E)(hT:fK T):
  Calls Tryz.prog 54 #[.pointer (some ⟨rb,0,none⟩)] w fun e w'=>(∃u R,T=u::R∧Tm.aP u.1=true∧e= .returned (.string (aa u.1))∧Rdr w' rb R E∧w.grownBy w' (some rb))∨(Tm.aP (Tm.al T)=false∧Bad w rb e w'):=by
 by_cases h:Tm.aP (Tm.al T)=true
 ·cases T with
  |nil=>exact absurd h (by decide)
  |cons u R=>exact(iq rb u R E w hr h).mono fun e w' g=> .inl ⟨u,R,rfl,h,g⟩
 ·have h2:Tm.aP (Tm.al T)=false:=by simpa using h
  exact(kg rb T E w hr h2 hT.text).mono fun e w' g=> .inr ⟨h2,g⟩
end
end Go.Proofs.YtlomecfhobehnaaGreatDoor
