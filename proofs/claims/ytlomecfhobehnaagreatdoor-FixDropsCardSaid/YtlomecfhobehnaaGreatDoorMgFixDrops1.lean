import Derived.Sort.Grow
import Derived.Test.YtlomecfhobehnaaGreatDoorMgFixDrops0
set_option linter.all false
set_option maxRecDepth 100000
set_option maxHeartbeats 1000000
namespace Go.Proofs.YtlomecfhobehnaaGreatDoor
open Lib (hid)
section
namespace Ex
abbrev Tok:=List UInt8×Nat
inductive X where
 |num (at_ n:Nat)
 |name (at_:Nat) (s:List UInt8)
 |bin (at_:Nat) (op:List UInt8) (l r:X)
def levels:Nat→List (List UInt8)
 |0=>[[61,61],[33,61],[60],[62]]
 |1=>[[43],[45],[124]]
 |2=>[[42],[38]]
 |_=>[]
inductive Out where
 |ok (x:X) (r:List Tok)
 |bad (e p:Nat)
inductive Cat where
 |lev (k:Nat)
 |loop (k:Nat) (x:X)
 |one
abbrev js:=List UInt8→Nat ⊕ Nat
def dY(E:Nat):List Tok→Nat
 |[]=>E
 |t::_=>t.2
inductive Par(num:js)(E:Nat):Cat→Nat→List Tok→Out→Prop where
 |top {d T o}:Par num E .one d T o→Par num E (.lev 3) d T o
 |lev {k d T T' x o}:k < 3→Par num E (.lev (k+1)) d T (.ok x T')→Par num E (.loop k x) d T' o→Par num E (.lev k) d T o
 |gZ {k d T e p}:k < 3→Par num E (.lev (k+1)) d T (.bad e p)→Par num E (.lev k) d T (.bad e p)
 |done {k x d T}:(∀t T',T=t::T'→t.1∉levels k)→Par num E (.loop k x) d T (.ok x T)
 |more {k x d t T T' y o}:t.1∈levels k→Par num E (.lev (k+1)) d T (.ok y T')→Par num E (.loop k (.bin t.2 t.1 x y)) d T' o→Par num E (.loop k x) d (t::T) o
 |dQ {k x d t T e p}:t.1∈levels k→Par num E (.lev (k+1)) d T (.bad e p)→Par num E (.loop k x) d (t::T) (.bad e p)
 |paren {d t T u T' x}:t.1=[40]→d < 8→Par num E (.lev 0) (d+1) T (.ok x (u::T'))→u.1=[41]→Par num E .one d (t::T) (.ok x T')
 |bK {d t T T' x}:t.1=[40]→d < 8→Par num E (.lev 0) (d+1) T (.ok x T')→(∀u T'',T'=u::T''→u.1≠[41])→Par num E .one d (t::T) (.bad 3 (dY E T'))
 |cz {d t T e p}:t.1=[40]→d < 8→Par num E (.lev 0) (d+1) T (.bad e p)→Par num E .one d (t::T) (.bad e p)
 |deep {t T}:t.1=[40]→Par num E .one 8 (t::T) (.bad 4 t.2)
 |name {d t T c r}:t.1=c::r→Lex.letter c.toNat=true→t.1.length≤12→Par num E .one d (t::T) (.ok (.name t.2 t.1) T)
 |cA {d t T c r}:t.1=c::r→Lex.letter c.toNat=true→12 < t.1.length→Par num E .one d (t::T) (.bad 4 t.2)
 |none {d}:Par num E .one d [] (.bad 3 E)
 |mark {d t T c r}:t.1=c::r→Lex.letter c.toNat=false→Lex.digit c.toNat=false→t.1≠[40]→Par num E .one d (t::T) (.bad 3 t.2)
 |num {d t T c r n}:t.1=c::r→Lex.digit c.toNat=true→num t.1= .inl n→Par num E .one d (t::T) (.ok (.num t.2 n) T)
 |ed {d t T c r e}:t.1=c::r→Lex.digit c.toNat=true→num t.1= .inr e→Par num E .one d (t::T) (.bad e t.2)
theorem Par.less{num:js}{E:Nat}{c:Cat}{d:Nat}{T:List Tok}{o:Out}(h:Par num E c d T o):∀x T',o= .ok x T'→T' <:+ T∧((∀k y,c≠.loop k y)→T'.length < T.length):=by
 induction h with
 |top _ ih=>intro x T' e;exact⟨(ih x T' e).1,fun _=>(ih x T' e).2 (by simp)⟩
 |lev _ _ _ ih1 ih2=>
  intro x T' e;have h1:=ih1 _ _ rfl;have h2:=ih2 x T' e;have h3:=h2.1.length_le;have h4:=h1.2 (by simp);exact⟨h2.1.trans h1.1,fun _=>by omega⟩
 |gZ=>intro x T' e;cases e
 |done _=>intro x T' e;cases e;exact⟨List.suffix_refl _,fun h=>absurd rfl (h _ _)⟩
 |more _ _ _ ih1 ih2=>
  intro x T' e;have h1:=ih1 _ _ rfl;have h2:=ih2 x T' e;exact⟨(h2.1.trans h1.1).trans (List.suffix_cons _ _),fun h=>absurd rfl (h _ _)⟩
 |dQ=>intro x T' e;cases e
 |paren _ _ _ _ ih=>
  intro x T' e;cases e;have:=(ih _ _ rfl).1;have h2:=(List.suffix_cons _ _).trans this;have h3:=this.length_le;simp only[Z6]at *
  exact⟨h2.trans (List.suffix_cons _ _),fun _=>by omega⟩
 |bK=>intro x T' e;cases e
 |cz=>intro x T' e;cases e
 |deep=>intro x T' e;cases e
 |name=>intro x T' e;cases e;exact⟨List.suffix_cons _ _,fun _=>by simp⟩
 |cA=>intro x T' e;cases e
 |none=>intro x T' e;cases e
 |mark=>intro x T' e;cases e
 |num=>intro x T' e;cases e;exact⟨List.suffix_cons _ _,fun _=>by simp⟩
 |ed=>intro x T' e;cases e
theorem pK{num:js}{E:Nat}{k d:Nat}(n:Nat)(hl:∀T:List Tok,T.length < n→(∀t∈T,t.1≠[])→∃o,Par num E (.lev (k+1)) d T o):∀(m:Nat) (T:List Tok) (x:X),T.length≤m→T.length≤n→(∀t∈T,t.1≠[])→∃o,Par num E (.loop k x) d T o
 |0,T,x,h,_,_=>by
  obtain rfl:=List.eq_nil_of_length_eq_zero (Nat.le_zero.1 h);exact⟨_,.done (by intro t T' e;cases e)⟩
 |m+1,T,x,h,hn,hne=>by
  cases T with
  |nil=>exact⟨_,.done (by intro t T' e;cases e)⟩
  |cons t T=>
   rw[Z6]at h hn
   by_cases ht:t.1∈levels k
   ·obtain⟨o,ho⟩:=hl T (by omega) (fun u hu=>hne u (by simp[hu]));cases o with
    |bad e p=>exact⟨_,.dQ ht ho⟩
    |ok y T'=>
     have hs:=(ho.less _ _ rfl).1;have:=hs.length_le;obtain⟨o2,h2⟩:=pK n hl m T' (.bin t.2 t.1 x y) (by omega) (by omega) (fun u hu=>hne u (List.mem_cons_of_mem _ (hs.subset hu)));exact⟨o2,.more ht ho h2⟩
   ·exact⟨_,.done (by intro u T' e;cases e;exact ht)⟩
theorem total{num:js}{E:Nat}:∀(n:Nat) (T:List Tok) (d:Nat),T.length≤n→(∀t∈T,t.1≠[])→d≤8→∀k,k≤3→∃o,Par num E (.lev k) d T o
 |n,T,d,h,hne,hd=>by
  have hone:∃o,Par num E .one d T o:=by
   cases T with
   |nil=>exact⟨_,.none⟩
   |cons t T=>
    rw[Z6]at h;obtain⟨c,r,hc⟩:∃c r,t.1=c::r:=by
     cases ht:t.1 with
     |nil=>exact absurd ht (hne t (by simp))
     |cons c r=>exact⟨c,r,rfl⟩
    by_cases h1:t.1=[40]
    ·by_cases h2:d < 8
     ·cases n with
      |zero=>omega
      |succ n=>
       obtain⟨o,ho⟩:=total n T (d+1) (by omega) (fun u hu=>hne u (by simp[hu])) (by omega) 0 (by omega);cases o with
       |bad e p=>exact⟨_,.cz h1 h2 ho⟩
       |ok x T'=>
        cases T' with
        |nil=>exact⟨_,.bK h1 h2 ho (by intro u T'' e;cases e)⟩
        |cons u T'=>
         by_cases h3:u.1=[41]
         ·exact⟨_,.paren h1 h2 ho h3⟩
         ·exact⟨_,.bK h1 h2 ho (by intro u T'' e;cases e;exact h3)⟩
     ·obtain rfl:d=8:=by omega
      exact⟨_,.deep h1⟩
    ·by_cases h2:Lex.letter c.toNat=true
     ·by_cases h3:t.1.length≤12
      ·exact⟨_,.name hc h2 h3⟩
      ·exact⟨_,.cA hc h2 (by omega)⟩
     ·by_cases h3:Lex.digit c.toNat=true
      ·cases hn:num t.1 with
       |inl m=>exact⟨_,.num hc h3 hn⟩
       |inr e=>exact⟨_,.ed hc h3 hn⟩
      ·exact⟨_,.mark hc (by simpa using h2) (by simpa using h3) h1⟩
  intro k hk;obtain⟨j,hj⟩:∃j,j=3 - k:=⟨_,rfl⟩
  induction j generalizing k with
  |zero=>
   obtain rfl:k=3:=by omega
   obtain⟨o,ho⟩:=hone;exact⟨o,.top ho⟩
  |succ j ih=>
   obtain⟨o,ho⟩:=ih (k+1) (by omega) (by omega);cases o with
   |bad e p=>exact⟨_,.gZ (by omega) ho⟩
   |ok x T'=>
    have hlt:=(ho.less _ _ rfl).2 (by simp);have hsuf:=(ho.less _ _ rfl).1;have hsub:∀T'':List Tok,T''.length < T.length→(∀t∈T'',t.1≠[])→∃o,Par num E (.lev (k+1)) d T'' o:=by
     intro T'' h1 h2;cases n with
     |zero=>omega
     |succ n=>exact total n T'' d (by omega) h2 hd (k+1) (by omega)
    obtain⟨o2,h2⟩:=pK T.length hsub T'.length T' x (Z5 _) (by omega) (fun u hu=>hne u (hsuf.subset hu));exact⟨o2,.lev (by omega) ho h2⟩
def aG(op:List UInt8):Nat:=if op∈levels 0 then 0 else if op∈levels 1 then 1 else if op∈levels 2 then 2 else 3
def hold:X→Nat
 | .bin _ op _ _=>aG op
 |_=>3
abbrev Dec:=Nat→List UInt8
def pr(dec:Dec):X→List UInt8
 | .num _ n=>dec n
 | .name _ s=>s
 | .bin _ op l r=>(if hold l < aG op then 40::(pr dec l++[41])else pr dec l)++32::(op++32::(if hold r < aG op+1 then 40::(pr dec r++[41])else pr dec r))
def pt(dec:Dec):X→List (List UInt8)
 | .num _ n=>[dec n]
 | .name _ s=>[s]
 | .bin _ op l r=>(if hold l < aG op then [40]::(pt dec l++[[41]])else pt dec l)++op::(if hold r < aG op+1 then [40]::(pt dec r++[[41]])else pt dec r)
def kK(num:js)(dec:Dec):X→Prop
 | .num _ n=>dec n≠[]∧(∀c∈dec n,Lex.digit c.toNat=true)∧num (dec n)= .inl n
 | .name _ s=>s≠[]∧s.length≤12∧(∀c∈s,Lex.word c=true)∧∃c r,s=c::r∧Lex.letter c.toNat=true
 | .bin _ op l r=>aG op < 3∧kK num dec l∧kK num dec r
def aZ(dec:Dec):X→Nat
 | .bin _ op l r=>max (if hold l < aG op then aZ dec l+1 else aZ dec l) (if hold r < aG op+1 then aZ dec r+1 else aZ dec r)
 |_=>0
inductive gI:X→X→Prop where
 |num (a b n:Nat):gI (.num a n) (.num b n)
 |name (a b:Nat) (s:List UInt8):gI (.name a s) (.name b s)
 |bin (a b:Nat) (op:List UInt8) {l l' r r':X}:gI l l'→gI r r'→gI (.bin a op l r) (.bin b op l' r')
theorem gI.pr{dec:Dec}{x y:X}(h:gI x y):hold x=hold y∧Ex.pr dec x=Ex.pr dec y:=by
 induction h with
 |num=>exact⟨rfl,rfl⟩
 |name=>exact⟨rfl,rfl⟩
 |bin a b op _ _ ih1 ih2=>exact⟨rfl,by unfold Ex.pr;rw[ih1.1,ih1.2,ih2.1,ih2.2]⟩
def Sep(r:List UInt8):Prop:=r=[]∨∃c t,r=c::t∧(c=32∨c=41)
def texts(l:List UInt8)(i:Nat):Option (List (List UInt8)):=(Lex.cZ l i).map (·.map Prod.fst)
theorem yG:∀(f:Nat) (l:List UInt8) (i j:Nat),(Lex.jl f l i).map (·.map Prod.fst)=(Lex.jl f l j).map (·.map Prod.fst):=by
 intro f
 induction f with
 |zero=>intro l i j;rfl
 |succ f ih=>
  intro l i j;cases l with
  |nil=>rfl
  |cons c l=>
   unfold Lex.jl;split
   ·exact ih _ _ _
   ·split
    ·exact ih _ _ _
    ·split
     ·rfl
     ·have:=ih ((c::l).drop (Lex.next (c::l))) (i+Lex.next (c::l)) (j+Lex.next (c::l));rw[Option.map_map,Option.map_map];have e:∀k:Nat,((fun x:List Tok=>x.map Prod.fst)∘fun T=>((c::l).take (Lex.next (c::l)),k)::T)=(fun x=>(c::l).take (Lex.next (c::l))::x)∘(fun x:List Tok=>x.map Prod.fst):=fun k=>rfl
      rw[e,e,← Option.map_map,← Option.map_map,this]
theorem eu(l:List UInt8)(i j:Nat):texts l i=texts l j:=yG _ l i j
theorem bT(l:List UInt8)(i:Nat):texts (32::l) i=texts l 0:=by
 unfold texts;rw[Lex.fX 32 l i (.inl rfl)];exact eu l _ _
theorem sF(x r:List UInt8)(i:Nat)(c:UInt8)(y:List UInt8)(hx:x=c::y)(h1:¬(c=32∨c=10∨c=9))(h2:c≠35)(h3:Lex.next (x++r)=x.length):texts (x++r) i=(texts r 0).map (x:: ·):=by
 subst hx;unfold texts;rw[List.cons_append]at h3⊢;rw[Lex.lS c (y++r) i h1 h2 (by rw[h3];simp),h3];rw[← List.cons_append,List.take_left,List.drop_left,Option.map_map];have:=eu r (i+(c::y).length) 0;unfold texts at this;rw[← this,Option.map_map];rfl
theorem yH(x r:List UInt8)(i:Nat)(hx:x≠[])(hw:∀c∈x,Lex.word c=true)(hr:Sep r∨∃c t,r=c::t∧Lex.word c=false):texts (x++r) i=(texts r 0).map (x:: ·):=by
 obtain⟨c,y,rfl⟩:∃c y,x=c::y:=by cases x with|nil=>exact absurd rfl hx|cons c y=>exact⟨c,y,rfl⟩
 have hc:=hw c (by simp);have hne:¬(c=32∨c=10∨c=9)∧c≠35:=by
  constructor
  ·rintro(rfl|rfl|rfl) <;> exact absurd hc (by decide)
  ·rintro rfl;exact absurd hc (by decide)
 refine sF (c::y) r i c y rfl hne.1 hne.2 ?_;rw[List.cons_append,Lex.nw,if_pos hc];have hr2:r=[]∨∃c t,r=c::t∧Lex.word c=false:=by
  rcases hr with(h|⟨c,t,h,h2⟩)|h
  ·exact .inl h
  ·exact .inr ⟨c,t,h,by rcases h2 with rfl|rfl <;> decide⟩
  ·exact .inr h
 rcases hr2 with rfl|⟨d,t,rfl,hd⟩
 ·rw[List.append_nil];have ht:∀l:List UInt8,(∀c∈l,Lex.word c=true)→l.takeWhile Lex.word=l:=by
   intro l
   induction l with
   |nil=>intro _;rfl
   |cons a l ih=>intro h;rw[List.takeWhile_cons,if_pos (h a (by simp)),ih (fun c hc=>h c (by simp[hc]))]
  rw[ht _ hw]
 ·rw[← List.cons_append,Lex.pG Lex.word d t hd (c::y) hw]
theorem fG(m:List UInt8)(c:UInt8)(y r:List UInt8)(i:Nat)(hm:m=c::y)(hc:Lex.word c=false)(h1:¬(c=32∨c=10∨c=9))(h2:c≠35)(hf:(Lex.marks.find? fun k=>k.isPrefixOf (m++r))=some m):texts (m++r) i=(texts r 0).map (m:: ·):=by
 refine sF m r i c y hm h1 h2 ?_;subst hm;rw[List.cons_append,Lex.nw,if_neg (by rw[hc];decide)];unfold Lex.eZ;rw[← List.cons_append,hf]
theorem yI(r:List UInt8)(i:Nat):texts (40::r) i=(texts r 0).map ([40]:: ·):=fG [40] 40 [] r i rfl (by decide) (by decide) (by decide) rfl
theorem yJ(r:List UInt8)(i:Nat):texts (41::r) i=(texts r 0).map ([41]:: ·):=fG [41] 41 [] r i rfl (by decide) (by decide) (by decide) rfl
theorem cJ(k:Nat):∀m∈levels k,m∈Lex.marks∧aG m=k∧k < 3:=by
 intro m hm
 match k,hm with
 |0,hm=>exact(by decide:∀m∈levels 0,m∈Lex.marks∧aG m=0∧0 < 3) m hm
 |1,hm=>exact(by decide:∀m∈levels 1,m∈Lex.marks∧aG m=1∧1 < 3) m hm
 |2,hm=>exact(by decide:∀m∈levels 2,m∈Lex.marks∧aG m=2∧2 < 3) m hm
 |n+3,hm=>exact absurd hm (by simp[levels])
theorem lV(op:List UInt8)(h:aG op < 3):op∈levels (aG op):=by
 unfold aG at *
 by_cases h0:op∈levels 0
 ·rw[if_pos h0];exact h0
 ·rw[if_neg h0]at h⊢
  by_cases h1:op∈levels 1
  ·rw[if_pos h1];exact h1
  ·rw[if_neg h1]at h⊢
   by_cases h2:op∈levels 2
   ·rw[if_pos h2];exact h2
   ·rw[if_neg h2]at h;omega
theorem Ej(op r:List UInt8)(i:Nat)(h:aG op < 3):texts (op++32::r) i=(texts r 0).map (op:: ·):=by
 have hm:=(cJ _ op (lV op h)).1;obtain⟨c,l,h1,h2,h3,h4⟩:=Lex.sC op hm;rw[fG op c l (32::r) i h1 h2 h3 h4 (Lex.pH op hm 32 r (.inl rfl)),bT]
theorem yK(c:UInt8)(h:Lex.digit c.toNat=true):Lex.word c=true:=by unfold Lex.word;rw[h,Bool.or_true]
end Ex
end
section
open Go.RowKit
namespace Rd
abbrev Tok:=List UInt8×Nat
def AF(w:World)(rb:Nat)(a:Option Addr)(R:List Tok):Prop:=R=[]∨∃g off,a=some ⟨g,off,none⟩∧g < rb∧∀j,j < R.length→w.cell? ⟨g,off+j * 2,none⟩=some (.string (aa (R.getD j ([],0)).1))∧w.cell? ⟨g,off+j * 2+1,none⟩=some (.int .i64 ((R.getD j ([],0)).2:Nat))
def Rdr(w:World)(rb:Nat)(R:List Tok)(E:Nat):Prop:=∃a c,ae w rb 0 157 [.slice a R.length c,.int .i64 (E:Nat)]∧R.length≤c∧AF w rb a R
def al:List Tok→List UInt8
 |[]=>[]
 |t::_=>t.1
theorem ah{a b c:World}{r:Option Nat}(h:a.grownBy b r)(k:b.grownBy c r):a.grownBy c r:=
 ⟨k.os.trans h.os,k.tape.trans h.tape,k.output.trans h.output,Nat.le_trans h.size k.size,fun i hi hne=>(k.block i (Nat.lt_of_lt_of_le hi h.size) hne).trans (h.block i hi hne)⟩
theorem Rdr.lt{w:World}{rb:Nat}{R:List Tok}{E:Nat}(h:Rdr w rb R E):rb < w.heap.size:=by
 obtain⟨a,c,h,_⟩:=h;exact h.lt
theorem Rdr.below{w w':World}{rb:Nat}{R:List Tok}{E:Nat}(h:Rdr w rb R E)(hb:Below w.heap.size w w'):Rdr w' rb R E:=by
 have hlt:=h.lt;obtain⟨a,c,h1,h2,h3⟩:=h;refine⟨a,c,h1.below hb hlt,h2,?_⟩;rcases h3 with h|⟨g,off,e1,e2,e3⟩
 ·exact .inl h
 ·refine .inr ⟨g,off,e1,e2,fun j hj=> ?_⟩;exact⟨(hb.cell (p:=⟨g,off+j * 2,none⟩) (Nat.lt_trans e2 hlt)).trans (e3 j hj).1,(hb.cell (p:=⟨g,off+j * 2+1,none⟩) (Nat.lt_trans e2 hlt)).trans (e3 j hj).2⟩
theorem ar{w w':World}(h:Below w.heap.size w w')(r:Option Nat):w.grownBy w' r:=⟨h.os,h.tape,h.output,h.size,fun k hk _=>h.block k hk⟩
end Rd
open Rd
theorem bW(rb:Nat)(R:List Tok)(E:Nat)(w:World)(h:Rdr w rb R E):
  Calls Tryz.prog 52 #[.pointer (some ⟨rb,0,none⟩)] w fun e w'=>e= .returned (.int .i64 (Ex.dY E R:Nat))∧w'=w:=by
 obtain⟨a,c,h1,h2,h3⟩:=h;have c0:=h1.cell0 0 (by simp);have c1:=h1.cell0 1 (by simp);simp only[Z0,Z1]at c0 c1;cases R with
 |nil=>
  rw[Y3]at c0;go_enter Tryz.func52,Tryz.ntmps52;go_wp2_with fail;go_ret;exact⟨rfl,rfl⟩
 |cons t R=>
  rcases h3 with h|⟨g,off,rfl,e2,e3⟩
  ·cases h
  have ct:=(e3 0 (by simp)).2;simp only[List.getD_cons_zero,Nat.zero_mul,Y2]at ct;have hl:(((t::R).length:Int)==0)=false:=by rw[Z8,Z6];omega
  have hln:((t::R).length==0)=false:=by rw[Z8,Z6];omega
  have hpos:(0:Int) < ((t::R).length:Int):=by rw[Z6];omega
  have hposn:0 < (t::R).length:=by rw[Z6];omega
  obtain⟨n,hn⟩:∃n,n=(t::R).length:=⟨_,rfl⟩;rw[← hn]at c0 hl hln hpos hposn;clear hn h1 h2 e3;go_enter Tryz.func52,Tryz.ntmps52;go_wp2_with fail;go_ret;exact⟨rfl,rfl⟩
theorem bJ(rb:Nat)(R:List Tok)(E:Nat)(w:World)(h:Rdr w rb R E):
  Calls Tryz.prog 50 #[.pointer (some ⟨rb,0,none⟩)] w fun e w'=>e= .returned (.string (aa (al R)))∧w'=w:=by
 obtain⟨a,c,h1,h2,h3⟩:=h;have c0:=h1.cell0 0 (by simp);simp only[Z0]at c0;cases R with
 |nil=>
  rw[Y3]at c0;go_enter Tryz.func50,Tryz.ntmps50;go_wp2_with fail;go_ret;exact⟨rfl,rfl⟩
 |cons t R=>
  rcases h3 with h|⟨g,off,rfl,e2,e3⟩
  ·cases h
  have ct:=(e3 0 (by simp)).1;simp only[List.getD_cons_zero,Nat.zero_mul,Y2]at ct;have hl:(((t::R).length:Int)==0)=false:=by rw[Z8,Z6];omega
  have hln:((t::R).length==0)=false:=by rw[Z8,Z6];omega
  have hpos:(0:Int) < ((t::R).length:Int):=by rw[Z6];omega
  have hposn:0 < (t::R).length:=by rw[Z6];omega
  obtain⟨n,hn⟩:∃n,n=(t::R).length:=⟨_,rfl⟩;rw[← hn]at c0 hl hln hpos hposn;clear hn h1 h2 e3;go_enter Tryz.func50,Tryz.ntmps50;go_wp2_with fail;go_ret;exact⟨rfl,rfl⟩
def aD(g:Nat):Ending:= .panicked [{v:= .iface 159 (.agg #[.iface 120 (.pointer (some ⟨g,0,none⟩))]),recovered:=false}]
theorem dC(rb:Nat)(e p:Nat)(w:World):
  Calls Tryz.prog 51 #[.pointer (some ⟨rb,0,none⟩),.int .i64 (e:Nat),.int .i64 (p:Nat)] w fun en w'=>en=aD w.heap.size∧ae w' w.heap.size 0 122 [.int .i64 (e:Nat),.int .i64 (p:Nat)]∧Below w.heap.size w w':=by
 have hrow:=ae.new w 122 #[.int .i64 (e:Nat),.int .i64 (p:Nat)];have hb:=(Y4 w.heap.size w).alloc (Z5 _) (.cells #[.int .i64 (e:Nat),.int .i64 (p:Nat)] 122);go_enter Tryz.func51,Tryz.ntmps51;go_wp2_with fail;exact⟨rfl,rfl,hrow,hb⟩
theorem Rd.Rdr.next{w:World}{rb:Nat}{t:Tok}{R:List Tok}{E:Nat}(h:Rdr w rb (t::R) E):∃g off c,w.cell? ⟨rb,0,none⟩=some (.slice (some ⟨g,off,none⟩) (R.length+1) c)∧w.frozen? ⟨rb,0,none⟩=false∧R.length+1≤c∧
  (∀a',(R.length+1 < c∨R=[]→a'=some ⟨g,off+2,none⟩∨R=[])→(c=R.length+1→R=[]∨a'=some ⟨g,off+2,none⟩)→Rdr (w.setCell ⟨rb,0,none⟩ (.slice a' R.length (c - 1))) rb R E∧w.grownBy (w.setCell ⟨rb,0,none⟩ (.slice a' R.length (c - 1))) (some rb)):=by
 have hrb:=h.lt;obtain⟨a,c,h1,h2,h3⟩:=h;rw[Z6]at h1 h2;rcases h3 with h|⟨g,off,rfl,e2,e3⟩
 ·cases h
 have c0:=h1.cell0 0 (by simp);simp only[Z0]at c0;refine⟨g,off,c,c0,h1.frozen 0 (by simp),h2,fun a' ha hc=> ?_⟩;have hg:=jX (dS w (some rb)) (p:=⟨rb,0,none⟩) rfl (.slice a' R.length (c - 1));refine⟨⟨a',c - 1,?_,by omega,?_⟩,hg⟩
 ·have:=h1.ax 0 (by simp) (.slice a' R.length (c - 1));exact this
 ·by_cases hR:R=[]
  ·exact .inl hR
  ·have ha2:a'=some ⟨g,off+2,none⟩:=by
    rcases Nat.lt_or_ge (R.length+1) c with hlt|hge
    ·rcases ha (.inl hlt)with h|h
     ·exact h
     ·exact absurd h hR
    ·rcases hc (by omega)with h|h
     ·exact absurd h hR
     ·exact h
   refine .inr ⟨g,off+2,ha2,e2,fun j hj=> ?_⟩;have hb:(w.setCell ⟨rb,0,none⟩ (.slice a' R.length (c - 1))).heap[g]? =w.heap[g]? :=hg.block g (by omega) (fun e=>by injection e with e;omega);have h9:=e3 (j+1) (by rw[Z6];omega);rw[List.getD_cons_succ]at h9;have e1:off+(j+1) * 2=off+2+j * 2:=by omega
   rw[e1]at h9;exact⟨(World.cell?_of_block (a:=⟨g,off+2+j * 2,none⟩) hb).trans h9.1,(World.cell?_of_block (a:=⟨g,off+2+j * 2+1,none⟩) hb).trans h9.2⟩
theorem eA(rb:Nat)(t:Tok)(R:List Tok)(E:Nat)(w:World)(h:Rdr w rb (t::R) E)(ht:t.1≠[]):
  Calls Tryz.prog 85 #[.pointer (some ⟨rb,0,none⟩),.string (aa t.1)] w fun e w'=>e= .returned (.bool true)∧Rdr w' rb R E∧w.grownBy w' (some rb):=by
 have HT:=hid (bJ rb (t::R) E w h);have hemp:(t.1==[])=false:=by rw[Z8];exact ht
 have hemp2:t.1.isEmpty=false:=by cases h9:t.1 with|nil=>exact absurd h9 ht|cons a b=>rfl
 have hto:al (t::R)=t.1:=rfl;rw[hto]at HT;obtain⟨g,off,c,c0,hf,hc,hK⟩:=h.next;have HK:=hid hK;generalize t.1=s at *
 obtain⟨n,hn⟩:∃n,n=R.length:=⟨_,rfl⟩;rw[← hn]at HK c0 hc;have HN:=hid hn;have h1c:(1:Int)≤(n:Int)+1:=by omega
 have h1n:1≤n+1:=by omega
 have hnc:(n:Int)+1≤(c:Int):=by omega
 clear hK h ht hn hto
 by_cases hcap:c=1
 ·subst hcap;have hR:R=[]:=List.eq_nil_of_length_eq_zero (by have:=HN.out;omega);have hn0:n=0:=by omega
  have hK1:=HK.out (some ⟨g,off,none⟩) (fun _=> .inr hR) (fun _=> .inl hR);rw[hn0]at hK1;clear hR hn0;go_enter Tryz.func85,Tryz.ntmps85;go_wp2_with fail;refine HT.out.mono ?_;rintro e w1 ⟨rfl,rfl⟩;go_wp2_with fail;go_ret;exact⟨rfl,hK1⟩
 ·have hcap2:¬1=c:=fun e=>hcap e.symm
  have HK1:=hid (HK.out (some ⟨g,off+2,none⟩) (fun _=> .inl rfl) (fun _=> .inr rfl));go_enter Tryz.func85,Tryz.ntmps85;go_wp2_with fail;refine HT.out.mono ?_;rintro e w1 ⟨rfl,rfl⟩;go_wp2_with fail;go_ret;exact⟨rfl,HK1.out⟩
theorem dq(rb:Nat)(R:List Tok)(E:Nat)(s:List UInt8)(w:World)(h:Rdr w rb R E)(hs:s≠[])(hno:al R≠s):
  Calls Tryz.prog 85 #[.pointer (some ⟨rb,0,none⟩),.string (aa s)] w fun e w'=>e= .returned (.bool false)∧w'=w:=by
 have HT:=hid (bJ rb R E w h);generalize al R=x at *
 have hne:(x==s)=false:=by rw[Z8];exact hno
 have hne2:(x !=s)=true:=by rw[bne_iff_ne];exact hno
 clear hno h;go_enter Tryz.func85,Tryz.ntmps85;go_wp2_with fail;refine HT.out.mono ?_;rintro e w1 ⟨rfl,rfl⟩;go_wp2_with fail;go_ret;exact⟨rfl,rfl⟩
theorem eg(rb:Nat)(t:Tok)(R:List Tok)(E:Nat)(w:World)(h:Rdr w rb (t::R) E)(ht:t.1≠[]):
  Calls Tryz.prog 88 #[.pointer (some ⟨rb,0,none⟩)] w fun e w'=>e= .returned (.string (aa t.1))∧Rdr w' rb R E∧w.grownBy w' (some rb):=by
 have HT:=hid (bJ rb (t::R) E w h);have hemp:(t.1==[])=false:=by rw[Z8];exact ht
 have hemp2:t.1.isEmpty=false:=by cases h9:t.1 with|nil=>exact absurd h9 ht|cons a b=>rfl
 have hto:al (t::R)=t.1:=rfl;rw[hto]at HT;obtain⟨g,off,c,c0,hf,hc,hK⟩:=h.next;have HK:=hid hK;generalize t.1=s at *
 obtain⟨n,hn⟩:∃n,n=R.length:=⟨_,rfl⟩;rw[← hn]at HK c0 hc;have HN:=hid hn;have h1c:(1:Int)≤(n:Int)+1:=by omega
 have h1n:1≤n+1:=by omega
 have hnc:(n:Int)+1≤(c:Int):=by omega
 clear hK h ht hn hto
 by_cases hcap:c=1
 ·subst hcap;have hR:R=[]:=List.eq_nil_of_length_eq_zero (by have:=HN.out;omega);have hn0:n=0:=by omega
  have hK1:=HK.out (some ⟨g,off,none⟩) (fun _=> .inr hR) (fun _=> .inl hR);rw[hn0]at hK1;clear hR hn0;go_enter Tryz.func88,Tryz.ntmps88;go_wp2_with fail;refine HT.out.mono ?_;rintro e w1 ⟨rfl,rfl⟩;go_wp2_with fail;go_ret;exact⟨rfl,hK1⟩
 ·have hcap2:¬1=c:=fun e=>hcap e.symm
  have HK1:=hid (HK.out (some ⟨g,off+2,none⟩) (fun _=> .inl rfl) (fun _=> .inr rfl));go_enter Tryz.func88,Tryz.ntmps88;go_wp2_with fail;refine HT.out.mono ?_;rintro e w1 ⟨rfl,rfl⟩;go_wp2_with fail;go_ret;exact⟨rfl,HK1.out⟩
theorem pL(rb:Nat)(t:Tok)(R:List Tok)(E:Nat)(w:World)(h:Rdr w rb (t::R) E)(ht:t.1≠[]):
  Calls Tryz.prog 53 #[.pointer (some ⟨rb,0,none⟩),.string (aa t.1)] w fun e w'=>e= .returned (.tuple #[])∧Rdr w' rb R E∧w.grownBy w' (some rb):=by
 have HT:=hid (eA rb t R E w h ht);generalize t.1=s at *
 clear h;go_enter Tryz.func53,Tryz.ntmps53;go_wp2_with fail;refine HT.out.mono ?_;rintro e w1 ⟨rfl,h1,h2⟩;go_wp2_with fail
 go_end0
 exact⟨rfl,h1,h2⟩
theorem AG(rb:Nat)(R:List Tok)(E:Nat)(s:List UInt8)(w:World)(h:Rdr w rb R E)(hs:s≠[])(hno:al R≠s):
  Calls Tryz.prog 53 #[.pointer (some ⟨rb,0,none⟩),.string (aa s)] w fun en w'=>en=aD w.heap.size∧ae w' w.heap.size 0 122 [.int .i64 3,.int .i64 (Ex.dY E R:Nat)]∧Below w.heap.size w w':=by
 have HT:=hid (dq rb R E s w h hs hno);have HA:=hid (bW rb R E w h);generalize Ex.dY E R=p at *
 have hf:=dC rb 3 p w;unfold aD at hf⊢;have HF:=hid hf;clear h hno hf;go_enter Tryz.func53,Tryz.ntmps53;go_wp2_with fail;refine HT.out.mono ?_;rintro e w1 ⟨rfl,rfl⟩;go_wp2_with fail;refine HA.out.mono ?_;rintro e w2 ⟨rfl,rfl⟩;go_wp2_with fail;refine HF.out.mono ?_;rintro e w3 ⟨rfl,h1,h2⟩;go_wp2_with fail;exact⟨rfl,rfl,h1,h2⟩
end
section
open Go.RowKit
theorem pM(l:List UInt8)(i:Nat)(b:UInt8):(cU l).set i (.int .u8 ((b.toNat:Nat):Int))=cU (l.set i b):=BS l i b
def AH{α:Type}(xs:List α)(d:α)(i j:Nat):List α:=(xs.set i (xs.getD j d)).set j (xs.getD i d)
def ig{α:Type}(xs:List α)(k:Nat):List α:=(xs.drop (xs.length - k)).reverse++(xs.drop k).take (xs.length - 2 * k)++(xs.take k).reverse
theorem fH{α:Type}(xs:List α)(k:Nat)(h:2 * k≤xs.length):(ig xs k).length=xs.length:=by simp[ig];omega
theorem yL{α:Type}(xs:List α):ig xs 0=xs:=by simp[ig]
theorem ij{α:Type}(xs:List α)(k:Nat)(h:2 * k≤xs.length)(q:Nat)(hq:q < xs.length):
  (ig xs k)[q]? =if q < k∨xs.length - k≤q then xs[xs.length - 1 - q]? else xs[q]? :=by
 unfold ig;rw[List.append_assoc]
 by_cases h1:q < k
 ·rw[if_pos (.inl h1),List.getElem?_append_left (by simp;omega),List.getElem?_reverse (by simp;omega),List.getElem?_drop,List.length_drop]
  congr 1;omega
 ·rw[List.getElem?_append_right (by simp;omega)];have hl1:(xs.drop (xs.length - k)).reverse.length=k:=by simp;omega
  rw[hl1]
  by_cases h2:xs.length - k≤q
  ·rw[if_pos (.inr h2),List.getElem?_append_right (by simp;omega)];have hl2:((xs.drop k).take (xs.length - 2 * k)).length=xs.length - 2 * k:=by simp;omega
   rw[hl2,List.getElem?_reverse (by simp;omega),List.getElem?_take,List.length_take];rw[if_pos (by omega)]
   congr 1;omega
  ·rw[if_neg (by omega),List.getElem?_append_left (by simp;omega),List.getElem?_take,if_pos (by omega),List.getElem?_drop]
   congr 1;omega
theorem yM{α:Type}(xs:List α)(d:α)(k:Nat)(h:2 * k+1 < xs.length):AH (ig xs k) d k (xs.length - 1 - k)=ig xs (k+1):=by
 apply List.ext_getElem?;intro q;have hl:=fH xs k (by omega);have hl':=fH xs (k+1) (by omega)
 by_cases hq:q < xs.length
 ·rw[ij xs (k+1) (by omega) q hq];unfold AH;have g1:=ij xs k (by omega) k (by omega);have g2:=ij xs k (by omega) (xs.length - 1 - k) (by omega);rw[if_neg (by omega)]at g1 g2;have e1:(ig xs k).getD k d=xs.getD k d:=by rw[List.getD_eq_getElem?_getD,g1,List.getD_eq_getElem?_getD]
  have e2:(ig xs k).getD (xs.length - 1 - k) d=xs.getD (xs.length - 1 - k) d:=by rw[List.getD_eq_getElem?_getD,g2,List.getD_eq_getElem?_getD]
  rw[e1,e2,List.getElem?_set,List.length_set,hl]
  by_cases h1:xs.length - 1 - k=q
  ·rw[if_pos h1,if_pos (by omega),if_pos (.inr (by omega)),List.getD_eq_getElem?_getD,Y1 (show k < xs.length by omega)];rw[show xs.length - 1 - q=k from by omega,Y1 (show k < xs.length by omega)];rfl
  ·rw[if_neg h1,List.getElem?_set,hl]
   by_cases h2:k=q
   ·subst h2;rw[if_pos rfl,if_pos (by omega),if_pos (.inl (by omega)),List.getD_eq_getElem?_getD,Y1 (show xs.length - 1 - k < xs.length by omega)];rfl
   ·rw[if_neg h2,ij xs k (by omega) q hq]
    by_cases h3:q < k∨xs.length - k≤q
    ·rw[if_pos h3,if_pos (by omega)]
    ·rw[if_neg h3,if_neg (by omega)]
 ·rw[List.getElem?_eq_none (by simp[AH,hl];omega),List.getElem?_eq_none (by omega)]
theorem yN{α:Type}(xs:List α)(k:Nat)(h:2 * k≤xs.length)(h2:xs.length≤2 * k+1):ig xs k=xs.reverse:=by
 apply List.ext_getElem?;intro q
 by_cases hq:q < xs.length
 ·rw[ij xs k h q hq,List.getElem?_reverse (by simpa using hq)]
  by_cases h3:q < k∨xs.length - k≤q
  ·rw[if_pos h3]
  ·rw[if_neg h3];congr 1;omega
 ·rw[List.getElem?_eq_none (by rw[fH _ _ h];omega),List.getElem?_eq_none (by simp;omega)]
theorem rS(g n cap:Nat)(e:TypeId)(L:List UInt8)(w:World)(hn:L.length=n)(hn2:n≤4611686018427387904)(h:ae w g 0 e (cU L)):
  Calls Tryz.prog 150 #[.slice (some ⟨g,0,none⟩) n cap] w fun e' w'=>e'= .returned (.tuple #[])∧ae w' g 0 e (cU L.reverse)∧w.grownBy w' (some g):=by
 have HN:=hid hn;clear hn;go_enter Tryz.func150,Tryz.ntmps150;go_wp2_with fail;go_loopw [2,3] (fun i j wr=>∃k:Nat,2 * k≤n∧i= .int .i64 k∧j= .int .i64 ((n:Int) - 1 - (k:Int))∧ae wr g 0 e (cU (ig L k))∧w.grownBy wr (some g)) (fun i _ _=>n - (intOf i).toNat)
 case atStart=>exact⟨0,by omega,rfl,by go_num,by rw[yL];exact h,⟨rfl,rfl,rfl,Z5 _,fun _ _ _=>rfl⟩⟩
 case round=>
  obtain⟨k,hk,rfl,rfl,hrow,hg⟩:=hrel
  by_cases hlt:2 * k+1 < n
  ·have hst:=yM L 0 k (by rw[HN.out];exact hlt);have hrl:=fH L k (by rw[HN.out];exact hk);rw[HN.out]at hst hrl;obtain⟨m,hm⟩:∃m,m=n - 1 - k:=⟨_,rfl⟩;have hj:(n:Int) - 1 - (k:Int)=(m:Int):=by omega
   rw[← hm]at hst;rw[hj];have hkm:k < m:=by omega
   have hmn:m < n:=by omega
   have hkn:k < n:=by omega
   have hkmI:(k:Int) < (m:Int):=by omega
   have hmnI:(m:Int) < (n:Int):=by omega
   have hknI:(k:Int) < (n:Int):=by omega
   have hk2:m+k+1=n:=by omega
   have HK2:=hid hk2;clear hk2;clear hm hj hlt;generalize hM:ig L k=M at *
   have hc1:=hrow.Je k (by omega);have hc2:=hrow.Je m (by omega);have hf1:=hrow.frozen0 k (by rw[fE];omega);have hf2:=hrow.frozen0 m (by rw[fE];omega);have HRL:=hid hrl;clear hrl;have HM:=hid hM;clear hM;unfold AH at hst;generalize hx:M.getD k 0=x at *
   generalize hy:M.getD m 0=y at *
   have HST:=hid hst;clear hst;have HX:=hid hx;clear hx;have HY:=hid hy;clear hy;have hne:(k=m)=False:=by simp;omega
   have hne2:(m=k)=False:=by simp;omega
   go_wp2_with fail
   go_region
   all_goals go_wp2_with fail
   go_roundw
   case rel=>
    have h1:=hrow.ax k (by rw[fE,HRL.out];exact hkn) (.int .u8 ((y.toNat:Nat):Int));rw[pM]at h1;have h2:=h1.ax m (by rw[fE,List.length_set,HRL.out];exact hmn) (.int .u8 ((x.toNat:Nat):Int));rw[pM,HST.out]at h2;exact⟨k+1,by have:=HK2.out;omega,by go_num,by have:=HK2.out;go_num,h2.drew,fY (jX (jX hg rfl _) rfl _)⟩
   case measure=>simp[intOf];omega
  ·have hd:decide ((k:Int) < (n:Int) - 1 - (k:Int))=false:=by rw[decide_eq_false_iff_not];omega
   go_wp2_with fail
   go_end0
   refine⟨rfl,?_,hg⟩;rw[yN L k (by rw[HN.out];exact hk) (by rw[HN.out];omega)]at hrow;exact hrow
end
section
theorem ue:(Tryz.prog.info? 5).map (fun i=>(i.zero,i.size,i.bytes))=some (some (.int .u8 0),1,1):=by kernel_rfl
namespace Digits
def dg(b n i:Nat):Nat:=n / b ^ i % b
theorem Ek(b n i:Nat)(hb:2≤b):dg b n i < b:=Nat.mod_lt _ (by omega)
def fig(d:Nat):Nat:=if d < 10 then 48+d else 87+d
def uf(b n m j:Nat):Prop:=m≤j∧n < b ^ j∧∀k,m≤k→n < b ^ k→j≤k
theorem uf.unique{b n m j k:Nat}(h:uf b n m j)(g:uf b n m k):j=k:=by
 have:=h.2.2 k g.1 g.2.1;have:=g.2.2 j h.1 h.2.1;omega
theorem iJ(b n j:Nat)(hb:2≤b):n / b ^ j=0↔n < b ^ j:=by
 have:0 < b ^ j:=Nat.pow_pos (by omega);rw[Nat.div_eq_zero_iff];omega
theorem uf.of(b n m j:Nat)(hb:2≤b)(h1:m≤j)(h2:n / b ^ j=0)(h3:∀k,k < j→¬(m≤k∧n / b ^ k=0)):uf b n m j:=by
 refine⟨h1,(iJ b n j hb).mp h2,fun k hk hn=> ?_⟩
 by_cases hkj:k < j
 ·exact absurd ⟨hk,(iJ b n k hb).mpr hn⟩ (h3 k hkj)
 ·omega
def ds(b n j:Nat):List UInt8:=((List.range j).map fun i=>UInt8.ofNat (fig (dg b n i))).reverse
theorem jZ(b n j:Nat):(ds b n j).length=j:=by simp[ds]
theorem Jk(d:Nat)(h:d < 16):fig d < 103∧48≤fig d:=by unfold fig;split <;> omega
theorem BY(d:Nat)(h:d < 16):(UInt8.ofNat (fig d)).toNat=fig d:=by
 have:=Jk d h;rw[UInt8.toNat_ofNat'];omega
end Digits
end
section
open Go.RowKit
namespace Keys
def dig(c:Nat):Int:=if 48≤c∧c≤57 then(c:Int) - 48 else if 97≤c∧c≤102 then(c:Int) - 97+10 else if 65≤c∧c≤70 then(c:Int) - 65+10 else -1
end Keys
theorem BZ(c:Nat)(w:World)(h:c < 256):
  Calls Tryz.prog 158 #[.int .u8 (c:Int)] w fun e w'=>e= .returned (.int .i64 (Keys.dig c))∧w=w':=by
 unfold Keys.dig
 by_cases h1:48≤c∧c≤57
 ·have a1:48≤c:=h1.1;have a2:c≤57:=h1.2;rw[if_pos h1];clear h1;go_enter Tryz.func158,Tryz.ntmps158;go_wp2_with fail;go_ret;exact⟨rfl,rfl⟩
 ·rw[if_neg h1];have b1:(decide ((48:Int)≤(c:Int))&&decide ((c:Int)≤57))=false:=by
   rw[Bool.and_eq_false_iff,decide_eq_false_iff_not,decide_eq_false_iff_not];omega
  by_cases h2:97≤c∧c≤102
  ·have a1:97≤c:=h2.1;have a2:c≤102:=h2.2;rw[if_pos h2];clear h1 h2;go_enter Tryz.func158,Tryz.ntmps158;go_wp2_with fail;go_ret;exact⟨rfl,rfl⟩
  ·rw[if_neg h2]
   by_cases h3:65≤c∧c≤70
   ·have a1:65≤c:=h3.1;have a2:c≤70:=h3.2;rw[if_pos h3];clear h1 h2 h3;go_enter Tryz.func158,Tryz.ntmps158;go_wp2_with fail;go_ret;exact⟨rfl,rfl⟩
   ·rw[if_neg h3];go_enter Tryz.func158,Tryz.ntmps158;go_wp2_with fail
    all_goals first|(go_ret;first|done|exact⟨rfl,rfl⟩)|(exfalso;omega)
def lenOf:Value→Nat
 | .slice _ n _=>n
 |_=>0
namespace Digits
def le(b n j:Nat):List UInt8:=(List.range j).map fun i=>UInt8.ofNat (fig (dg b n i))
theorem Ca(b n j:Nat):(le b n j).length=j:=by simp[le]
theorem le_succ(b n j:Nat):le b n (j+1)=le b n j++[UInt8.ofNat (fig (dg b n j))]:=by simp[le,List.range_succ]
theorem Jl(b n j:Nat):(le b n j).reverse=ds b n j:=rfl
theorem Jm(d:Nat)(h:d < 16):∀w:World,(Instr.index 9 (.string ⟨#[48,49,50,51,52,53,54,55,56,57,97,98,99,100,101,102]⟩) (.int .u64 (d:Nat))).run Tryz.prog w= .ok (.int .u8 (fig d:Nat)) w:=by
 match d,h with
 |0,_=>exact fun _=>by kernel_rfl
 |1,_=>exact fun _=>by kernel_rfl
 |2,_=>exact fun _=>by kernel_rfl
 |3,_=>exact fun _=>by kernel_rfl
 |4,_=>exact fun _=>by kernel_rfl
 |5,_=>exact fun _=>by kernel_rfl
 |6,_=>exact fun _=>by kernel_rfl
 |7,_=>exact fun _=>by kernel_rfl
 |8,_=>exact fun _=>by kernel_rfl
 |9,_=>exact fun _=>by kernel_rfl
 |10,_=>exact fun _=>by kernel_rfl
 |11,_=>exact fun _=>by kernel_rfl
 |12,_=>exact fun _=>by kernel_rfl
 |13,_=>exact fun _=>by kernel_rfl
 |14,_=>exact fun _=>by kernel_rfl
 |15,_=>exact fun _=>by kernel_rfl
 |k+16,h=>omega
end Digits
theorem Cb(n b wd:Nat)(w:World)(hn:n < 18446744073709551616)(hb:2≤b)(hb2:b≤16)(hw:wd≤64):
  Calls Tryz.prog 133 #[.int .u64 (n:Nat),.int .i64 (b:Nat),.int .i64 (wd:Nat)] w fun e w'=>(∃J,Digits.uf b n (max wd 1) J∧e= .returned (.tuple #[.string (aa (Digits.ds b n J)),.nilIface]))∧Below w.heap.size w w':=by
 have hbw:IntKind.u64.wrap (b:Int)=(b:Int):=by rw[IntKind.wrap_u64];omega
 have hb0:(b:Int)≠0:=by omega
 obtain⟨B,hB⟩:∃B,B=w.heap.size:=⟨_,rfl⟩;rw[← hB];have HB:=hid hB;clear hB;have hd1:decide ((b:Int) < 2)=false:=by rw[decide_eq_false_iff_not];omega
 have hd2:decide ((16:Int) < (b:Int))=false:=by rw[decide_eq_false_iff_not];omega
 have hd3:decide ((wd:Int) < 0)=false:=by rw[decide_eq_false_iff_not];omega
 have hd4:decide ((64:Int) < (wd:Int))=false:=by rw[decide_eq_false_iff_not];omega
 go_enter Tryz.func133,Tryz.ntmps133;go_wp2_with fail;go_loopw [0,8] (fun v0 v8 wr=>∃(j cap:Nat) (a:Option Addr),j≤64∧v0= .int .u64 ((n / b ^ j:Nat):Int)∧v8= .slice a j cap∧Hid (ak wr B 5 1 a j cap (cU (Digits.le b n j)))∧Hid (∀k,k < j→¬(max wd 1≤k∧n / b ^ k=0))∧Below B w wr) (fun _ v8 _=>65 - lenOf v8)
 case atStart=>exact⟨0,0,none,by omega,by rw[Nat.pow_zero,Nat.div_one],rfl,hid (ak.nil _ _ _ _),hid (fun k h=>by omega),Y4 _ _⟩
 case round=>
  obtain⟨j,cap,a,hj,rfl,rfl,HO,HN,hbe⟩:=hrel
  by_cases hstop:max wd 1≤j∧n / b ^ j=0
  ·have hwide:=Digits.uf.of b n (max wd 1) j hb hstop.1 hstop.2 HN.out;have HW:=hid hwide;clear hwide;rw[hstop.2];have e1:decide (j < wd)=false:=by rw[decide_eq_false_iff_not];omega
   have e2:((j:Int)==0)=false:=by rw[Z8];omega
   have hj1:1≤j:=by omega
   clear hstop;cases a with
   |none=>have:=HO.out.aS;omega
   |some x=>
    obtain⟨h1,h2,h3,h4,h5⟩:=HO.out.row;rw[h1];generalize x.block=g at *
    have hrev:=rS g j cap 5 (Digits.le b n j) wr (Digits.Ca _ _ _) (by omega) h5;have HR:=hid hrev;clear hrev;go_wp2_with fail;refine HR.out.mono ?_;rintro e w1 ⟨rfl,hrow,hg⟩;rw[Digits.Jl]at hrow;have hstr:=rP 147 5 9 Tryz.underlying147 Tryz.underlying5 Tryz.underlying9 hrow j cap (Digits.jZ _ _ _).symm;go_wp2_with fail;go_ret2;exact⟨⟨j,HW.out,rfl⟩,hbe.grown hg (by rw[HB.out];exact hbe.size) (fun k e=>by cases e;exact h2)⟩
  ·have hj64:j < 64:=by
    rcases Nat.lt_or_ge j 64 with h|h
    ·exact h
    ·exfalso;obtain rfl:j=64:=by omega
     exact hstop ⟨by omega,(Digits.iJ b n 64 hb).mpr (Nat.lt_of_lt_of_le hn (Nat.pow_le_pow_left hb 64))⟩
   have hN2:∀k,k < j+1→¬(max wd 1≤k∧n / b ^ k=0):=fun k hk=>by
    by_cases h:k=j
    ·rw[h];exact hstop
    ·exact HN.out k (by omega)
   have HN2:=hid hN2;clear hN2;have hdiv:(n / b ^ j) / b=n / b ^ (j+1):=by rw[Nat.pow_succ,← Nat.div_div_eq_div_mul]
   have hfig:=Digits.Jm (n / b ^ j % b) (Nat.lt_of_lt_of_le (Nat.mod_lt _ (by omega)) hb2);have hft:((Digits.fig (n / b ^ j % b):Nat):Int)=(((UInt8.ofNat (Digits.fig (Digits.dg b n j))).toNat:Nat):Int):=by
    rw[Digits.BY (Digits.dg b n j) (Nat.lt_of_lt_of_le (Digits.Ek b n j hb) hb2)];rfl
   rw[hft,show((n / b ^ j % b:Nat):Int)=((n / b ^ j:Nat):Int) % (b:Int)from by simp]at hfig;have hle:=Digits.le_succ b n j;generalize UInt8.ofNat (Digits.fig (Digits.dg b n j))=fg at *
   generalize Digits.le b n j=L0 at *
   have hNlt:n / b ^ j < 18446744073709551616:=Nat.lt_of_le_of_lt (Nat.div_le_self _ _) hn;generalize n / b ^ j=N0 at *
   obtain⟨q1,hq1⟩:∃q:Bool,decide (0 < N0)=q:=⟨_,rfl⟩;obtain⟨q2,hq2⟩:∃q:Bool,decide (j < wd)=q:=⟨_,rfl⟩;obtain⟨q3,hq3⟩:∃q:Bool,((j:Int)==0)=q:=⟨_,rfl⟩;have hany:q1=true∨q1=false∧q2=true∨q1=false∧q2=false∧q3=true:=by
    cases q1 with
    |true=>exact .inl rfl
    |false=>
     cases q2 with
     |true=>exact .inr (.inl ⟨rfl,rfl⟩)
     |false=>
      cases q3 with
      |true=>exact .inr (.inr ⟨rfl,rfl,rfl⟩)
      |false=>
       exfalso;rw[decide_eq_false_iff_not]at hq1 hq2;rw[Z8]at hq3;exact hstop ⟨by omega,by omega⟩
   have HS:=hid hstop;clear hstop;have HD:=hid hdiv;clear hdiv;have HL:=hid hle;clear hle;clear hft;have hbB:B≤wr.heap.size:=by have:=hbe.size;have:=HB.out;omega
   rcases hany with rfl|⟨rfl,rfl⟩|⟨rfl,rfl,rfl⟩
   ·go_wp2_with (with_reducible refine bS _ rfl _ _ 147 rfl B 5 (.int .u8 0) 1 1 Tryz.underlying147 ue rfl (by decide) a j cap _ rfl HO.out [.int .u8 (fg.toNat:Int)] rfl (by simp[Value.oneCell']) rfl (by unfold maxLen;omega) (by omega) hbB ?_;intro a' cap' w' hown' hgrow hloc hsz' hex);go_roundw
    case rel=>
     refine⟨j+1,cap',a',by omega,oZ (by have:=Nat.div_le_self N0 b;rw[IntKind.wrap_u64,← Int.natCast_ediv,← HD.out];generalize N0 / b=q at *;omega),rfl,?_,HN2,eJ hbe HO.out (Z5 _) hbB hgrow⟩;have he:cU L0++[Value.int .u8 (fg.toNat:Int)]=cU (Digits.le b n (j+1)):=by rw[HL.out];simp[cU,BQ]
     rw[← he];exact hid hown'
    case measure=>simp[lenOf];omega
   ·go_wp2_with (with_reducible refine bS _ rfl _ _ 147 rfl B 5 (.int .u8 0) 1 1 Tryz.underlying147 ue rfl (by decide) a j cap _ rfl HO.out [.int .u8 (fg.toNat:Int)] rfl (by simp[Value.oneCell']) rfl (by unfold maxLen;omega) (by omega) hbB ?_;intro a' cap' w' hown' hgrow hloc hsz' hex);go_roundw
    case rel=>
     refine⟨j+1,cap',a',by omega,oZ (by have:=Nat.div_le_self N0 b;rw[IntKind.wrap_u64,← Int.natCast_ediv,← HD.out];generalize N0 / b=q at *;omega),rfl,?_,HN2,eJ hbe HO.out (Z5 _) hbB hgrow⟩;have he:cU L0++[Value.int .u8 (fg.toNat:Int)]=cU (Digits.le b n (j+1)):=by rw[HL.out];simp[cU,BQ]
     rw[← he];exact hid hown'
    case measure=>simp[lenOf];omega
   ·go_wp2_with (with_reducible refine bS _ rfl _ _ 147 rfl B 5 (.int .u8 0) 1 1 Tryz.underlying147 ue rfl (by decide) a j cap _ rfl HO.out [.int .u8 (fg.toNat:Int)] rfl (by simp[Value.oneCell']) rfl (by unfold maxLen;omega) (by omega) hbB ?_;intro a' cap' w' hown' hgrow hloc hsz' hex);go_roundw
    case rel=>
     refine⟨j+1,cap',a',by omega,oZ (by have:=Nat.div_le_self N0 b;rw[IntKind.wrap_u64,← Int.natCast_ediv,← HD.out];generalize N0 / b=q at *;omega),rfl,?_,HN2,eJ hbe HO.out (Z5 _) hbB hgrow⟩;have he:cU L0++[Value.int .u8 (fg.toNat:Int)]=cU (Digits.le b n (j+1)):=by rw[HL.out];simp[cU,BQ]
     rw[← he];exact hid hown'
    case measure=>simp[lenOf];omega
end
section
namespace Num
open Digits
def val(b:Nat)(l:List UInt8):Nat:=l.foldl (fun acc c=>acc * b+(Keys.dig c.toNat).toNat) 0
theorem El(b:Nat)(l:List UInt8)(c:UInt8):val b (l++[c])=val b l * b+(Keys.dig c.toNat).toNat:=by simp[val]
theorem vF(b:Nat)(l:List UInt8)(i:Nat)(h:i < l.length):val b (l.take (i+1))=val b (l.take i) * b+(Keys.dig (l.getD i 0).toNat).toNat:=by
 rw[List.take_succ_eq_append_getElem h,El,List.getD_eq_getElem?_getD,Y1 h];rfl
theorem vG(b:Nat)(l:List UInt8)(hb:1≤b):∀k i,i+k=l.length→val b (l.take i)≤val b l
 |0,i,h=>by rw[List.take_of_length_le (by omega)];exact Z5 _
 |k+1,i,h=>by
  have h1:=vG b l hb k (i+1) (by omega);rw[vF b l i (by omega)]at h1;have:val b (l.take i)≤val b (l.take i) * b:=Nat.le_mul_of_pos_right _ hb;omega
theorem Em(b:Nat)(l:List UInt8):∀a,l.foldl (fun v c=>v * b+(Keys.dig c.toNat).toNat) a=a * b ^ l.length+l.foldl (fun v c=>v * b+(Keys.dig c.toNat).toNat) 0:=by
 induction l with
 |nil=>intro a;simp
 |cons c l ih=>
  intro a;rw[List.foldl_cons,List.foldl_cons,ih,ih (0 * b+_),Z6,Nat.pow_succ,Nat.zero_mul,Nat.zero_add,Nat.add_mul,Nat.add_assoc]
  congr 1
  rw[Nat.mul_assoc,Nat.mul_comm b]
theorem En(b:Nat)(c:UInt8)(l:List UInt8):val b (c::l)=(Keys.dig c.toNat).toNat * b ^ l.length+val b l:=by
 have h:=Em b l (0 * b+(Keys.dig c.toNat).toNat);rw[Nat.zero_mul,Nat.zero_add]at h;unfold val;rw[List.foldl_cons,Nat.zero_mul,Nat.zero_add,h]
theorem Eo(b n j:Nat):ds b n (j+1)=UInt8.ofNat (fig (dg b n j))::ds b n j:=by simp[ds,List.range_succ]
theorem Ep:∀d:Fin 16,Keys.dig (UInt8.ofNat (fig d)).toNat=((d:Nat):Int):=by decide
theorem Jn(b n:Nat)(hb:2≤b)(hb2:b≤16):∀j,val b (ds b n j)=n % b ^ j:=by
 intro j
 induction j with
 |zero=>simp[ds,val,Nat.mod_one]
 |succ j ih=>
  have hd:=Ep ⟨dg b n j,Nat.lt_of_lt_of_le (Ek b n j hb) hb2⟩;simp only at hd;rw[Eo,En,ih,jZ,Nat.pow_succ,Nat.mod_mul,hd];simp only[Int.toNat_natCast,dg];rw[Nat.mul_comm (n / b ^ j % b),Nat.add_comm]
def je(b:Nat)(c:UInt8):Bool:=decide (0≤Keys.dig c.toNat)&&decide (Keys.dig c.toNat < (b:Int))
def dZ(b:Nat)(t:List UInt8):Nat ⊕ Nat:=
 if t=[]then .inr 3 else if t.all (je b)=true then(if val b t < 18446744073709551616 then .inl (val b t)else .inr 2)else .inr 3
def cu:List UInt8→Nat
 |48::120::_=>16
 |48::98::_=>2
 |_=>10
def cQ:List UInt8→List UInt8
 |48::120::r=>r
 |48::98::r=>r
 |s=>s
def numOf(s:List UInt8):Nat ⊕ Nat:=match dZ (cu s) (cQ s)with
 | .inr e=> .inr e
 | .inl n=>if n < 9223372036854775808 then .inl n else .inr 2
theorem pN{s:List UInt8}{n:Nat}(h:numOf s= .inl n):n < 9223372036854775808:=by
 unfold numOf at h;split at h
 ·cases h
 ·split at h
  ·cases h;assumption
  ·cases h
def wdt(n:Nat):Nat:=((List.range 25).find? fun j=>decide (1≤j)&&decide (n < 10 ^ j)).getD 0
theorem pO(n:Nat)(hn:n < 18446744073709551616):uf 10 n 1 (wdt n):=by
 unfold wdt;cases h:(List.range 25).find? (fun j=>decide (1≤j)&&decide (n < 10 ^ j))with
 |none=>
  rw[List.find?_eq_none]at h;have:=h 20 (by simp);simp at this;omega
 |some j=>
  rw[List.find?_eq_some_iff_getElem]at h;obtain⟨h1,i,hi,he,h2⟩:=h;simp only[List.length_range]at hi;rw[List.getElem_range]at he;subst he;simp only[Bool.and_eq_true,decide_eq_true_eq]at h1;refine⟨h1.1,h1.2,fun k hk hn=>Nat.le_of_not_lt fun hlt=> ?_⟩;have:=h2 k hlt;rw[List.getElem_range]at this;simp[hk,hn]at this
def dec(n:Nat):List UInt8:=ds 10 n (wdt n)
theorem lh(n:Nat):∀c∈dec n,je 10 c=true∧48≤c.toNat∧c.toNat≤57:=by
 intro c hc;unfold dec ds at hc;rw[List.mem_reverse,List.mem_map]at hc;obtain⟨i,_,rfl⟩:=hc;have hd:=Ek 10 n i (by decide);exact(by decide:∀d:Fin 10,je 10 (UInt8.ofNat (fig d))=true∧48≤(UInt8.ofNat (fig d)).toNat∧(UInt8.ofNat (fig d)).toNat≤57) ⟨_,hd⟩
theorem GQ(n:Nat)(hn:n < 18446744073709551616):val 10 (dec n)=n:=by
 unfold dec;rw[Jn 10 n (by decide) (by decide),Nat.mod_eq_of_lt (pO n hn).2.1]
theorem Er(n:Nat)(hn:n < 18446744073709551616):dec n≠[]:=by
 intro e;have:=congrArg List.length e;rw[dec,jZ,Y3]at this;have:=(pO n hn).1;omega
theorem Cc(n:Nat)(hn:n < 18446744073709551616):cu (dec n)=10∧cQ (dec n)=dec n:=by
 have hd:=lh n;have key:∀(l:List UInt8),(∀c∈l,48≤c.toNat∧c.toNat≤57)→cu l=10∧cQ l=l:=by
  intro l hl;unfold cu cQ;split
  ·have:=(hl 120 (by simp)).2;exact absurd this (by decide)
  ·have:=(hl 98 (by simp)).2;exact absurd this (by decide)
  ·exact⟨rfl,rfl⟩
 exact key _ fun c hc=>(hd c hc).2
theorem sG(n:Nat)(hn:n < 9223372036854775808):numOf (dec n)= .inl n:=by
 obtain⟨h1,h2⟩:=Cc n (by omega);unfold numOf dZ;rw[h1,h2,if_neg (Er n (by omega)),if_pos (List.all_eq_true.2 fun c hc=>(lh n c hc).1),GQ n (by omega),if_pos (by omega)];simp[hn]
end Num
end
section
open Go.RowKit
theorem pP(l:List UInt8)(k:Nat)(h:k < (aa l).size):(aa l)[k]'h=l.getD k 0:=by
 have hk:k < l.length:=by rwa[aq]at h
 rw[List.getD_eq_getElem?_getD,Y1 hk];rfl
namespace Num
def lj(r:Nat ⊕ Nat):Array Value:=match r with
 | .inl n=> #[.int .u64 (n:Nat),.nilIface]
 | .inr e=> #[.int .u64 0,.iface 48 (.int .i64 (e:Nat))]
theorem pd(z:Int):∃q:Nat,IntKind.u64.wrap z=(q:Int)∧q < 18446744073709551616:=by
 refine⟨(IntKind.u64.wrap z).toNat,?_,?_⟩ <;> rw[IntKind.wrap_u64] <;> omega
theorem Es{b:Nat}{l:List UInt8}(h:∀j,j < l.length→je b (l.getD j 0)=true):l.all (je b)=true:=by
 rw[List.all_eq_true];intro x hx;obtain⟨j,hj,rfl⟩:=List.getElem_of_mem hx;have:=h j hj;rwa[List.getD_eq_getElem?_getD,Y1 hj]at this
theorem GR{b:Nat}{l:List UInt8}{i:Nat}(hi:i < l.length)(h:je b (l.getD i 0)=false):l.all (je b)=false:=by
 rw[List.all_eq_false];rw[List.getD_eq_getElem?_getD,Y1 hi]at h;exact⟨_,List.getElem_mem hi,by simpa using h⟩
end Num
open Num
theorem lk(l:List UInt8)(b:Nat)(w:World)(hb:2≤b)(hb2:b≤16)(hl:l.length≤100000):
  Calls Tryz.prog 157 #[.string (aa l),.int .i64 (b:Nat)] w fun e w'=>e= .returned (.tuple (lj (dZ b l)))∧w=w':=by
 have hd1:decide ((b:Int) < 2)=false:=by rw[decide_eq_false_iff_not];omega
 have hd2:decide ((16:Int) < (b:Int))=false:=by rw[decide_eq_false_iff_not];omega
 have hbw:IntKind.u64.wrap (b:Int)=(b:Int):=by rw[IntKind.wrap_u64];omega
 have hb0:(b:Int)≠0:=by omega
 by_cases hne:l=[]
 ·subst hne;go_enter Tryz.func157,Tryz.ntmps157;go_wp2_with fail;go_ret2;exact⟨rfl,rfl⟩
 have hemp:l.isEmpty=false:=by cases l with
  |nil=>exact absurd rfl hne
  |cons _ _=>rfl
 obtain⟨R,hR⟩:∃R,R=dZ b l:=⟨_,rfl⟩;have HR:Hid (R=dZ b l):=hid hR;rw[← hR];have HNE:=hid hne;clear hne hR;go_enter Tryz.func157,Tryz.ntmps157;go_wp2_with fail;go_loop [6,7,22] (fun v6 v7 v22=>∃(i m:Nat) (ov:Bool),i≤l.length∧v22= .int .i64 i∧v7= .bool ov∧v6= .int .u64 (m:Nat)∧m < 18446744073709551616∧Hid (∀j,j < i→je b (l.getD j 0)=true)∧Hid (ov=decide (18446744073709551616≤val b (l.take i)))∧Hid (ov=false→m=val b (l.take i))) (fun _ _ v22=>l.length - (intOf v22).toNat)
 case atStart=>exact⟨0,0,false,by omega,rfl,rfl,rfl,by omega,hid (by intro j hj;omega),hid (by simp[val]),hid (by simp[val])⟩
 case round=>
  obtain⟨i,m,ov,hi,rfl,rfl,rfl,hm,HG,HO,HM⟩:=hrel
  by_cases hlt:i < l.length
  ·have hst:=vF b l i hlt;have hmo:=vG b l (by omega) (l.length - (i+1)) (i+1) (by omega);have hcx:∀h:i < (aa l).size,((aa l)[i]'h).toNat=(l.getD i 0).toNat:=fun h=>by rw[pP]
   have hx8:(l.getD i 0).toNat < 256:=UInt8.toNat_lt _;have hok:je b (l.getD i 0)=(decide (0≤Keys.dig (l.getD i 0).toNat)&&decide (Keys.dig (l.getD i 0).toNat < (b:Int))):=rfl;have HOK:=hid hok;have HST:=hid hst;have HMO:=hid hmo;clear hok hst hmo;have hki:(i:Int) < (l.length:Int):=by omega
   have hkn:decide (i < l.length)=true:=Z9 hlt;have hkd:decide ((i:Int) < (l.length:Int))=true:=Z9 hki;obtain⟨x,hx⟩:∃x,x=(l.getD i 0).toNat:=⟨_,rfl⟩;rw[← hx]at hcx hx8 HOK HST;have HDX:=hid (fun w=>BZ x w hx8);have HX:=hid hx;clear hx
   by_cases h1:0≤Keys.dig x∧Keys.dig x < (b:Int)
   ·have hgood:je b (l.getD i 0)=true:=by rw[HOK.out,Z9 h1.1,Z9 h1.2];rfl
    have HGD:=hid hgood;clear hgood;obtain⟨d,hdd⟩:=Int.eq_ofNat_of_zero_le h1.1;have h2:=h1.2;rw[hdd]at HDX h2 HST;have hst2:=HST.out;rw[Int.toNat_natCast]at hst2;have HST2:=hid hst2;clear hdd h1 HST HOK hst2;have hg2:∀j,j < i+1→je b (l.getD j 0)=true:=by
     intro j hj
     by_cases e:j=i
     ·subst e;exact HGD.out
     ·exact HG.out j (by omega)
    have HG2:=hid hg2;clear hg2;have d1:decide ((d:Int) < 0)=false:=by rw[decide_eq_false_iff_not];omega
    have d2:decide ((b:Int)≤(d:Int))=false:=by rw[decide_eq_false_iff_not];omega
    have hdw:IntKind.u64.wrap (d:Int)=(d:Int):=by rw[IntKind.wrap_u64];omega
    cases ov with
    |true=>
     have hbig:18446744073709551616≤val b (l.take i):=by
      have:=HO.out;exact of_decide_eq_true this.symm
     have hbig2:(true:Bool)=decide (18446744073709551616≤val b (l.take (i+1))):=by
      rw[HST2.out];have:val b (l.take i)≤val b (l.take i) * b:=Nat.le_mul_of_pos_right _ (by omega);exact(Z9 (by omega)).symm
     have HB:=hid hbig2;clear hbig hbig2;obtain⟨q,hq,hq2⟩:=pd ((m:Int) * (b:Int));obtain⟨r,hr,hr2⟩:=pd ((q:Int)+(d:Int));go_wp2_with fail;refine(HDX.out _).mono ?_;rintro e w1 ⟨rfl,rfl⟩;go_wp2_with fail;go_round
     case rel=>exact⟨i+1,r,true,by omega,by go_num,rfl,rfl,hr2,HG2,HB,hid (by intro h;cases h)⟩
     case measure=>simp[intOf];omega
    |false=>
     have hmv:=HM.out rfl;have hsub:IntKind.u64.wrap (18446744073709551615 - (d:Int))=18446744073709551615 - (d:Int):=by rw[IntKind.wrap_u64];omega
     obtain⟨q,hq,hq2⟩:=pd ((m:Int) * (b:Int));obtain⟨r,hr,hr2⟩:=pd ((q:Int)+(d:Int));have hquo:((18446744073709551615 - (d:Int)) / (b:Int) < (m:Int))↔18446744073709551616≤m * b+d:=by
      have e:((m * b:Nat):Int)=(m:Int) * (b:Int):=by simp
      have e2:(m:Int)≤(18446744073709551615 - (d:Int)) / (b:Int)↔(m:Int) * (b:Int)≤18446744073709551615 - (d:Int):=Int.le_ediv_iff_mul_le (by omega);constructor
      ·intro h;have:=mt e2.2 (by omega);omega
      ·intro h;have:=mt e2.1 (by omega);omega
     have hval:val b (l.take (i+1))=m * b+d:=by rw[HST2.out,hmv]
     have HV:=hid hval;have hrm:¬18446744073709551616≤m * b+d→r=m * b+d:=by
      intro h;have e:((m * b:Nat):Int)=(m:Int) * (b:Int):=by simp
      have:IntKind.u64.wrap ((m:Int) * (b:Int))=(m:Int) * (b:Int):=by rw[IntKind.wrap_u64,← e];omega
      rw[hq]at this;rw[IntKind.wrap_u64]at hr;omega
     have HRM:=hid hrm;clear hmv hval hrm;obtain⟨ov2,hov2⟩:∃ov2,ov2=decide ((18446744073709551615 - (d:Int)) / (b:Int) < (m:Int)):=⟨_,rfl⟩;have hov3:ov2=decide (18446744073709551616≤m * b+d):=by rw[hov2,decide_eq_decide];exact hquo
     have HV3:=hid hov3;have hov4:=hov2.symm;clear hquo hov3 hov2;go_wp2_with fail;refine(HDX.out _).mono ?_;rintro e w1 ⟨rfl,rfl⟩;go_wp2_with fail;go_round
     case rel=>
      refine⟨i+1,r,ov2,by omega,by go_num,?_,rfl,hr2,HG2,hid (by rw[HV.out];exact HV3.out),hid (fun h=> ?_)⟩
      ·first|rfl|(congr 1)
      ·rw[HV.out];exact HRM.out (of_decide_eq_false (by rw[← HV3.out];exact h))
     case measure=>simp[intOf];omega
   ·have hbad:je b (l.getD i 0)=false:=by
     rw[HOK.out,Bool.and_eq_false_iff,decide_eq_false_iff_not,decide_eq_false_iff_not];omega
    have hall:=GR hlt hbad;have hRR:R= .inr 3:=by
     rw[HR.out];unfold dZ;rw[if_neg HNE.out,if_neg (by rw[hall];decide)]
    have HRR:=hid hRR;clear hall hbad hRR;obtain⟨dd,hdd⟩:∃dd,dd=Keys.dig x:=⟨_,rfl⟩;rw[← hdd]at HDX h1;clear hdd
    by_cases h2:dd < 0
    ·have d1:decide (dd < 0)=true:=Z9 h2;go_wp2_with fail;refine(HDX.out _).mono ?_;rintro e w1 ⟨rfl,rfl⟩;go_wp2_with fail;go_ret2;rw[HRR.out];exact⟨rfl,rfl⟩
    ·have d1:decide (dd < 0)=false:=Y9 h2;have d2:decide ((b:Int)≤dd)=true:=by rw[decide_eq_true_eq];omega
     clear h1 h2;go_wp2_with fail;refine(HDX.out _).mono ?_;rintro e w1 ⟨rfl,rfl⟩;go_wp2_with fail;go_ret2;rw[HRR.out];exact⟨rfl,rfl⟩
  ·obtain rfl:i=l.length:=by omega
   have hd:decide ((l.length:Int) < (l.length:Int))=false:=by simp
   have hall:=Es HG.out;have hO:=HO.out;have hM:=HM.out;rw[List.take_length]at hO hM;have hRR:R=if val b l < 18446744073709551616 then .inl (val b l)else .inr 2:=by
    rw[HR.out];unfold dZ;rw[if_neg HNE.out,if_pos hall]
   cases ov with
   |true=>
    have h9:=of_decide_eq_true hO.symm;rw[if_neg (by omega)]at hRR;have HRR:=hid hRR;clear hO hM hRR hall h9;go_wp2_with fail;go_ret2;rw[HRR.out];exact⟨rfl,rfl⟩
   |false=>
    have h9:=of_decide_eq_false hO.symm;rw[if_pos (by omega),← hM rfl]at hRR;have HRR:=hid hRR;clear hO hM hRR hall h9;go_wp2_with fail;go_ret2;rw[HRR.out];exact⟨rfl,rfl⟩
end
end Go.Proofs.YtlomecfhobehnaaGreatDoor
