import Derived.Test.YtlomecfhobehnaaGreatDoorMgFixSets4
set_option linter.unusedVariables false
set_option linter.unusedSimpArgs false
set_option maxRecDepth 100000
set_option maxHeartbeats 4000000
namespace Go.Proofs.YtlomecfhobehnaaGreatDoor
open Lib (hid)
section
namespace Ex
theorem CX:∀l n,Num.numOf l= .inl n→Num.dec n≠[]∧(∀c∈Num.dec n,Lex.digit c.toNat=true)∧Num.numOf (Num.dec n)= .inl n:=by
 intro l n h;have hn:=Num.oT h;refine⟨Num.CI n (by omega),fun c hc=> ?_,Num.rn n hn⟩;have:=(Num.kH n c hc).2;unfold Lex.digit;exact Z9 this
theorem words:∀(n:Nat) (l:List UInt8) (i:Nat) (T:List Tok),l.length≤n→Lex.cZ l i=some T→∀t∈T,t.1≠[]∧∀c r,t.1=c::r→Lex.word c=true→∀b∈t.1,Lex.word b=true:=by
 intro n
 induction n with
 |zero=>
  intro l i T h hT;obtain rfl:=List.eq_nil_of_length_eq_zero (Nat.le_zero.1 h);rw[Lex.jc]at hT;cases hT;intro t ht;cases ht
 |succ n ih=>
  intro l i T h hT;cases l with
  |nil=>rw[Lex.jc]at hT;cases hT;intro t ht;cases ht
  |cons c l=>
   rw[Z6]at h
   by_cases h1:c=32∨c=10∨c=9
   ·rw[Lex.fN c l i h1]at hT;exact ih l _ T (by omega) hT
   ·by_cases h2:c=35
    ·subst h2;rw[Lex.my]at hT;exact ih _ _ T (by rw[List.length_drop,Z6];have:=Lex.jb l;omega) hT
    ·by_cases h3:Lex.next (c::l)=0
     ·rw[Lex.oL c l i h1 h2 h3]at hT;cases hT
     ·rw[Lex.lu c l i h1 h2 h3,Option.map_eq_some_iff]at hT;obtain⟨T',hT',rfl⟩:=hT;intro t ht;rcases List.mem_cons.1 ht with rfl|ht
      ·constructor
       ·intro e;have:=congrArg List.length e;rw[List.length_take,Z6,Y3]at this;omega
       ·intro d r hd hw b hb;have hdc:d=c:=by
         obtain⟨k,hk⟩:∃k,Lex.next (c::l)=k+1:=⟨Lex.next (c::l) - 1,by omega⟩;simp only[hk,List.take_succ_cons]at hd;cases hd;rfl
        subst hdc;simp only at hb;rw[Lex.mx,if_pos hw]at hb;have hp:=List.takeWhile_prefix Lex.word (l:=d::l);rw[← List.prefix_iff_eq_take.1 hp]at hb;exact Lex.gH Lex.word _ b hb
      ·exact ih _ _ T' (by rw[List.length_drop,Z6];omega) hT' t ht
def kp(z:Int):Int:=IntKind.i64.wrap z
def pd(b:Bool):Int:=if b then 1 else 0
def opv(op:List UInt8)(a b:Int):Int:=
 if op=[43]then kp (a+b)else if op=[45]then kp (a - b)else if op=[42]then kp (a * b)else if op=[38]then bits .and .i64 a b else if op=[124]then bits .or .i64 a b else
 if op=[61,61]then pd (decide (a=b))else if op=[33,61]then pd (!decide (a=b))else if op=[60]then pd (decide (a < b))else pd (decide (b < a))
abbrev Names:=List UInt8→Option Int
def ev(N:Names):X→Option Int
 | .num _ n=>some n
 | .name _ s=>N s
 | .bin _ op l r=>(ev N l).bind fun a=>(ev N r).map fun b=>opv op a b
theorem gh.ev{N:Names}{x y:X}(h:gh x y):Ex.ev N x=Ex.ev N y:=by
 induction h with
 |num=>rfl
 |name=>rfl
 |bin a b op _ _ ih1 ih2=>unfold Ex.ev;rw[ih1,ih2]
def InR(v:Int):Prop:= -9223372036854775808≤v∧v≤9223372036854775807
theorem nL(z:Int):InR (kp z):=by
 unfold InR kp;rw[IntKind.wrap_i64];omega
theorem uC(b:Bool):InR (pd b):=by cases b <;> (unfold InR pd;simp)
theorem AP(op:List UInt8)(a b:Int):InR (opv op a b):=by
 unfold opv;have hb:∀o x y,InR (bits o .i64 x y):=fun o x y=>nL _
 repeat' split
 all_goals first|exact nL _|exact hb _ _ _|exact uC _
theorem uD{N:Names}(hN:∀s v,N s=some v→InR v):∀x:X,kc Num.numOf Num.dec x→∀v,ev N x=some v→InR v
 | .num _ n,h,v,e=>by
  have:=Num.oT h.2.2;unfold ev at e;cases e;unfold InR;omega
 | .name _ s,h,v,e=>hN s v e
 | .bin _ op l r,h,v,e=>by
  unfold ev at e;rw[Option.bind_eq_some_iff]at e;obtain⟨a,_,e⟩:=e;rw[Option.map_eq_some_iff]at e;obtain⟨b,_,rfl⟩:=e;exact AP op a b
end Ex
end
section
open Go.RowKit
open Rd
open Ex (X levels)
theorem AQ(n:Nat)(w:World)(hn:n < 18446744073709551616):Calls Tryz.prog 133 #[.int .u64 (n:Nat),.int .i64 10,.int .i64 0] w fun e w'=>e= .returned (.tuple #[.string (aa (Num.dec n)),.nilIface])∧Below w.heap.size w w':=by
 refine(AF n 10 0 w hn (by decide) (by decide) (by decide)).mono ?_;rintro e w' ⟨⟨J,hJ,rfl⟩,hb⟩;have:J=Num.wdt n:=Digits.sO.unique hJ (Num.oU n hn);subst this;exact⟨rfl,hb⟩
theorem CY(a n:Nat)(hn:n < 9223372036854775808):o8 (.num a n):=by
 intro w rb b hl hrb hx hp;have c0:=hx.2.cell0 0 (by simp);have c2:=hx.2.cell0 2 (by simp);simp only[Z0,Z1]at c0 c2;have HP:=hid (AQ n w (by omega));have hw:IntKind.u64.wrap (n:Int)=(n:Int):=by rw[IntKind.wrap_u64];omega
 clear hx hl hp;show Calls _ _ _ _ fun e w'=>e= .returned (.string (aa (Num.dec n)))∧Below w.heap.size w w'
 go_enter Tryz.func108,Tryz.ntmps108;go_wp2_with fail;refine HP.out.mono ?_;rintro e w1 ⟨rfl,hb⟩;go_wp2_with fail;go_ret;exact⟨rfl,hb⟩
theorem AR(a:Nat)(s:List UInt8):o8 (.name a s):=by
 intro w rb b hl hrb hx hp;have c0:=hx.2.cell0 0 (by simp);have c3:=hx.2.cell0 3 (by simp);simp only[Z0,Z1]at c0 c3;clear hx hl hp;show Calls _ _ _ _ fun e w'=>e= .returned (.string (aa s))∧Below w.heap.size w w'
 go_enter Tryz.func108,Tryz.ntmps108;go_wp2_with fail;go_ret;exact⟨rfl,Y4 _ _⟩
theorem CZ(a:Nat)(op:List UInt8)(l r:X):Ex.pr Num.dec (.bin a op l r)=partOf l (Ex.aD op)++32::(op++32::partOf r (Ex.aD op+1)):=rfl
theorem zy(x:X)(k:Nat):(Ex.pr Num.dec x).length≤(partOf x k).length:=by
 unfold partOf;split
 ·simp only[Z6,Z7];omega
 ·exact Z5 _
abbrev TS(w:World)(b bl br:Nat)(op:List UInt8)(w1:World):Prop:=w1.cell? ⟨b,5,none⟩=some (.pointer (some ⟨bl,0,none⟩))∧w1.cell? ⟨b,4,none⟩=some (.string (aa op))∧w1.cell? ⟨b,6,none⟩=some (.pointer (some ⟨br,0,none⟩))∧Below w.heap.size w w1
theorem TS.al{w w1 w2:World}{b bl br:Nat}{op:List UInt8}(h:TS w b bl br op w1)(hb:b < w.heap.size)(h2:Below w1.heap.size w1 w2):TS w b bl br op w2:=by
 have hlt:b < w1.heap.size:=Nat.lt_of_lt_of_le hb h.2.2.2.size;exact⟨(h2.cell (p:=⟨b,5,none⟩) hlt).trans h.1,(h2.cell (p:=⟨b,4,none⟩) hlt).trans h.2.1,(h2.cell (p:=⟨b,6,none⟩) hlt).trans h.2.2.1,h.2.2.2.trans (h2.mono h.2.2.2.size)⟩
theorem TS.drew{w w1:World}{b bl br:Nat}{op:List UInt8}(h:TS w b bl br op w1):TS w b bl br op w1.drew:=⟨h.1,h.2.1,h.2.2.1,h.2.2.2.drew⟩
theorem C0(a:Nat)(op:List UInt8)(l r:X)(hop:Ex.aD op < 3)(hL:o8 l)(hR:o8 r):o8 (.bin a op l r):=by
 intro w rb b hl hrb hx hp;have HH:=hid (CV hl hx);have hh:Ex.hold (.bin a op l r)=Ex.aD op:=rfl;rw[hh]at HH;obtain⟨bl,br,h1,h2,h3,h4⟩:=hx;have c0:=h2.cell0 0 (by simp);have c4:=h2.cell0 4 (by simp);have c5:=h2.cell0 5 (by simp);have c6:=h2.cell0 6 (by simp);simp only[Z0,Z1]at c0 c4 c5 c6;rw[CZ]at hp⊢;have hpl:=zy l (Ex.aD op);have hpr:=zy r (Ex.aD op+1);simp only[Z7,Z6]at hp;obtain⟨k,hk⟩:∃k,k=Ex.aD op:=⟨_,rfl⟩;rw[← hk]at hpl hpr hp HH hop⊢;have hblt:=h2.lt;have hlv:∀W,Below w.heap.size w W→db W rb:=fun W hB=>by
  refine⟨hl.1,fun i hi=> ?_⟩;obtain⟨gk,ck,e1,e2,e3⟩:=hl.2 i hi;exact⟨gk,ck,(hB.cell (p:=⟨_,i,none⟩) (Nat.lt_of_lt_of_le hl.1 hrb)).trans e1,e2,fun j hj=>(hB.cell (p:=gk.add j) (by rw[Addr.cM];exact Nat.lt_of_lt_of_le e2 hrb)).trans (e3 j hj)⟩
 have HPL:Hid (∀W,TS w b bl br op W→Calls Tryz.prog 135 #[.pointer (some ⟨bl,0,none⟩),.int .i64 (k:Nat)] W fun e w'=>e= .returned (.string (aa (partOf l k)))∧TS w b bl br op w'):=hid fun W hW=>
  (uA l k W rb bl hL (hlv W hW.2.2.2) (Nat.le_trans hrb hW.2.2.2.size) (IsX.grown (ar hW.2.2.2 _) l bl h3) (by omega) (by omega)).mono fun e w' ⟨h,hb⟩=>⟨h,hW.al hblt hb⟩
 have HPR:Hid (∀W,TS w b bl br op W→Calls Tryz.prog 135 #[.pointer (some ⟨br,0,none⟩),.int .i64 ((k:Int)+1)] W fun e w'=>e= .returned (.string (aa (partOf r (k+1))))∧TS w b bl br op w'):=hid fun W hW=>
  (uA r (k+1) W rb br hR (hlv W hW.2.2.2) (Nat.le_trans hrb hW.2.2.2.size) (IsX.grown (ar hW.2.2.2 _) r br h4) (by omega) (by omega)).mono fun e w' ⟨h,hb⟩=>⟨h,hW.al hblt hb⟩
 have hS0:TS w b bl br op w:=⟨c5,c4,c6,Y4 _ _⟩;generalize partOf l k=p at *
 generalize partOf r (k+1)=q at *
 have z1:¬9223372036854775807 < p.length+1:=by omega
 have z2:¬9223372036854775807 < p.length+1+op.length:=by omega
 have z3:¬9223372036854775807 < p.length+1+op.length+1:=by omega
 have z4:¬9223372036854775807 < p.length+1+op.length+1+q.length:=by omega
 have z5:¬9223372036854775807 < p.length+(op.length+1):=by omega
 have hkw:IntKind.i64.wrap ((k:Int)+1)=(k:Int)+1:=by rw[IntKind.wrap_i64];omega
 clear hlv hL hR hl h2 h3 h4 hpl hpr hh hk hp;go_enter Tryz.func108,Tryz.ntmps108;go_wp2_with fail;refine HH.out.mono ?_;rintro e w ⟨rfl,rfl⟩;go_wp2_with fail;go_region_held3 (fun w1=>w1.cell? ⟨b,5,none⟩=some (.pointer (some ⟨bl,0,none⟩))∧w1.cell? ⟨b,4,none⟩=some (.string (aa op))∧w1.cell? ⟨b,6,none⟩=some (.pointer (some ⟨br,0,none⟩))∧Below w.heap.size w w1)
  (first
   |exact hS0
   |exact TS.drew (by assumption)
   |assumption)
  (first
   |(go_at_call 135;(with_reducible refine(HPL.out _ ?_).mono ?_);(next=>(first|assumption|exact hS0));(rintro e w9 ⟨rfl,hS9⟩))
   |((try rw[hkw]);go_at_call 135;(with_reducible refine(HPR.out _ ?_).mono ?_);(next=>(first|assumption|exact hS0));(rintro e w9 ⟨rfl,hS9⟩)))
 all_goals
  go_wp2_with fail;go_ret;have hst:aa p++{data:= #[32]}++aa op++{data:= #[32]}++aa q=aa (p++32::(op++32::q)):=by
   rw[show({data:= #[32]}:ByteArray)=aa [32]from rfl];simp only[gz,List.append_assoc];rfl
  exact⟨by rw[← hst];rfl,hS9.2.2.2⟩
theorem xE:∀x:X,Ex.kc Num.numOf Num.dec x→o8 x
 | .num a n,h=>CY a n (Num.oT h.2.2)
 | .name a s,_=>AR a s
 | .bin a op l r,h=>C0 a op l r h.1 (xE l h.2.1) (xE r h.2.2)
theorem uE(l:List UInt8)(w:World):Calls Tryz.prog 24 #[.string (aa l)] w fun e w'=>e= .returned (.bool (decide (900 < l.length)))∧w=w':=by
 by_cases h:900 < l.length
 ·have d1:decide ((900:Int) < (l.length:Int))=true:=Z9 (by omega);rw[Z9 h];go_enter Tryz.func24,Tryz.ntmps24;go_wp2_with fail;go_ret;exact⟨rfl,rfl⟩
 ·have d1:decide ((900:Int) < (l.length:Int))=false:=Y9 (by omega);rw[Y9 h];go_enter Tryz.func24,Tryz.ntmps24;go_wp2_with fail;go_ret;exact⟨rfl,rfl⟩
def nodes:X→Nat
 | .bin _ _ l r=>nodes l+nodes r+1
 |_=>1
theorem xF{num:Ex.jd}{E:Nat}{c:Ex.Cat}{d:Nat}{T:List Rd.Tok}{o:Ex.Out}(h:Ex.Par num E c d T o):∀x R,o= .ok x R→nodes x+R.length≤T.length+(match c with| .loop _ y=>nodes y|_=>0):=by
 induction h with
 |top _ ih=>intro x R e;exact ih x R e
 |lev _ _ _ ih1 ih2=>
  intro x R e;have h1:=ih1 _ _ rfl;have h2:=ih2 x R e;simp only at h1 h2⊢;omega
 |gJ=>intro x R e;cases e
 |done _=>intro x R e;cases e;simp only;omega
 |more _ _ _ ih1 ih2=>
  intro x R e;have h1:=ih1 _ _ rfl;have h2:=ih2 x R e;simp only[nodes,Z6]at h1 h2⊢;omega
 |dJ=>intro x R e;cases e
 |paren _ _ _ _ ih=>
  intro x R e;cases e;have h1:=ih _ _ rfl;simp only[Z6]at h1⊢;omega
 |bH=>intro x R e;cases e
 |cw=>intro x R e;cases e
 |deep=>intro x R e;cases e
 |name=>intro x R e;cases e;simp only[nodes,Z6];omega
 |cy=>intro x R e;cases e
 |none=>intro x R e;cases e
 |mark=>intro x R e;cases e
 |num=>intro x R e;cases e;simp only[nodes,Z6];omega
 |dU=>intro x R e;cases e
theorem uF(k:Nat):∀m∈levels k,m.length≤2:=by
 intro m hm;exact(Lex.ug m (Ex.cG k m hm).1).2
theorem Gj(n:Nat):Num.wdt n≤24:=by
 unfold Num.wdt;cases h:(List.range 25).find? (fun j=>decide (1≤j)&&decide (n < 10 ^ j))with
 |none=>simp
 |some j=>
  have:=List.mem_of_find?_eq_some h;rw[List.mem_range]at this;simp only[Option.getD_some];omega
theorem mD:∀x:X,Ex.kc Num.numOf Num.dec x→(Ex.pr Num.dec x).length≤30 * nodes x
 | .num _ n,h=>by
  have:=Gj n;show(Num.dec n).length≤_;rw[Num.dec,Digits.jH];simp only[nodes];omega
 | .name _ s,h=>by
  have:=h.2.1;show s.length≤_;simp only[nodes];omega
 | .bin _ op l r,h=>by
  have h1:=mD l h.2.1;have h2:=mD r h.2.2;have h3:=uF _ op (Ex.lz op h.1);have pl:∀(y:X) k,(partOf y k).length≤(Ex.pr Num.dec y).length+2:=by
   intro y k;unfold partOf;split
   ·simp
   ·omega
  have e1:=pl l (Ex.aD op);have e2:=pl r (Ex.aD op+1);rw[CZ];simp only[Z7,Z6,nodes];omega
theorem zz:∀(n:Nat) (l:List UInt8) (i:Nat) (T:List Rd.Tok),l.length≤n→Lex.cZ l i=some T→T.length≤l.length∧∀t∈T,t.1.length≤l.length:=by
 intro n
 induction n with
 |zero=>
  intro l i T h hT;obtain rfl:=List.eq_nil_of_length_eq_zero (Nat.le_zero.1 h);rw[Lex.jc]at hT;cases hT;exact⟨Z5 _,fun t ht=>by cases ht⟩
 |succ n ih=>
  intro l i T h hT;cases l with
  |nil=>rw[Lex.jc]at hT;cases hT;exact⟨Z5 _,fun t ht=>by cases ht⟩
  |cons c l=>
   rw[Z6]at h
   by_cases h1:c=32∨c=10∨c=9
   ·rw[Lex.fN c l i h1]at hT;have:=ih l _ T (by omega) hT;exact⟨by rw[Z6];omega,fun t ht=>by have:=this.2 t ht;rw[Z6];omega⟩
   ·by_cases h2:c=35
    ·subst h2;rw[Lex.my]at hT;have hp:=Lex.jb l;have:=ih _ _ T (by rw[List.length_drop,Z6];omega) hT;rw[List.length_drop]at this;exact⟨by omega,fun t ht=>by have:=this.2 t ht;omega⟩
    ·by_cases h3:Lex.next (c::l)=0
     ·rw[Lex.oL c l i h1 h2 h3]at hT;cases hT
     ·rw[Lex.lu c l i h1 h2 h3,Option.map_eq_some_iff]at hT;obtain⟨T',hT',rfl⟩:=hT;have:=ih _ _ T' (by rw[List.length_drop,Z6];omega) hT';rw[List.length_drop]at this;refine⟨by rw[Z6,Z6];rw[Z6]at this;omega,fun t ht=> ?_⟩;rcases List.mem_cons.1 ht with rfl|ht
      ·simp only[List.length_take];omega
      ·have:=this.2 t ht;omega
theorem C1{s:List UInt8}{T:List Rd.Tok}(hs:s.length≤3000)(h:Lex.cZ s 0=some T):∀t∈T,t.1.length≤100000:=fun t ht=>by
 have:=(zz s.length s 0 T (Z5 _) h).2 t ht;omega
theorem Gk{w w':World}{B:Nat}(h:Env w B)(hb:Below w.heap.size w w')(hB:B≤w.heap.size):Env w' B:=by
 have key:∀(p:Addr),p.block < B→w'.cell? p=w.cell? p:=fun p hlt=>hb.cell (p:=p) (Nat.lt_of_lt_of_le hlt hB)
 refine⟨⟨h.lv.1,fun k hk=> ?_⟩,(key ⟨_,0,none⟩ h.eb).trans h.er,h.eb⟩;obtain⟨gk,ck,h1,h2,h3⟩:=h.lv.2 k hk;exact⟨gk,ck,(key ⟨_,k,none⟩ h.lv.1).trans h1,h2,fun j hj=>(key (gk.add j) (by rw[Addr.cM];exact h2)).trans (h3 j hj)⟩
theorem Gl{w:World}{B B':Nat}(h:Env w B)(hB:B≤B'):Env w B':=by
 refine⟨⟨Nat.lt_of_lt_of_le h.lv.1 hB,fun k hk=> ?_⟩,h.er,Nat.lt_of_lt_of_le h.eb hB⟩;obtain⟨gk,ck,h1,h2,h3⟩:=h.lv.2 k hk;exact⟨gk,ck,h1,Nat.lt_of_lt_of_le h2 hB,h3⟩
structure ke(w:World):Prop where
 env:Env w w.heap.size
 mks:ec w
theorem ke.up{w w':World}(h:ke w)(hb:Below w.heap.size w w'):ke w':=⟨Gl (Gk h.env hb (Z5 _)) hb.size,h.mks.below hb (Z5 _)⟩
end
section
open Go.RowKit
open Rd
theorem AS(w:World):Calls Tryz.prog 86 #[.string (aa [])] w fun e w'=>e= .returned (.bool false)∧w=w':=by
 go_enter Tryz.func86,Tryz.ntmps86;go_wp2_with fail;go_ret;exact⟨rfl,rfl⟩
def isName:List UInt8→Bool
 |[]=>false
 |c::_=>Lex.letter c.toNat
theorem uG(s:List UInt8)(w:World):Calls Tryz.prog 86 #[.string (aa s)] w fun e w'=>e= .returned (.bool (isName s))∧w=w':=by
 cases s with
 |nil=>exact AS w
 |cons c r=>exact gT c r w
end
section
namespace Tm
open Ex
abbrev Wd:=List UInt8
def bk:List (Wd×Nat×Nat×Bool):=
 [([117,56],1,0,false),([105,56],1,0,true),
  ([117,49,54,108,101],2,0,false),([117,49,54,98,101],2,1,false),([105,49,54,108,101],2,0,true),([105,49,54,98,101],2,1,true),
  ([117,51,50,108,101],4,0,false),([117,51,50,98,101],4,1,false),([105,51,50,108,101],4,0,true),([105,51,50,98,101],4,1,true),
  ([105,54,52,108,101],8,0,true),([105,54,52,98,101],8,1,true)]
def kindOf(w:Wd):Option (Nat×Nat×Bool):=(bk.find? fun p=>p.1==w).map (·.2)
def cN:Wd:=[115,116,114,117,99,116]
def cC:Wd:=[98,121,116,101,115]
def dz:Wd:=[119,104,101,110]
def dA:Wd:=[115,105,122,101]
def cu:Wd:=[99,111,117,110,116]
def bL:Wd:=[99,104,101,99,107]
def fK:List Wd:=[cN,cC,dz,dA,cu,bL]
def kq(w:Wd):Bool:=(kindOf w).isSome||fK.contains w
def je:Wd→Bool
 |[]=>false
 |c::_=>Lex.letter c.toNat
def aN(w:Wd):Bool:=je w&& !kq w&&decide (w.length≤12)
inductive Rl where
 |none
 |size (f:Wd)
 |count (f:Wd)
 |check (f l:Wd)
inductive Knd where
 |scalar (w:Wd)
 |bytes
 |struct (t:Wd)
structure Hd where
 at_:Nat
 k:Knd
 name:Wd
 cnt:Option X
 ax:Rl
inductive Its where
 |nil
 |cons (h:Hd) (l:Its)
 |when (a:Nat) (c:X) (b l:Its)
structure Ty where
 name:Wd
 at_:Nat
 items:Its
abbrev eI(E:Nat)(T:List Tok)(x:X)(R:List Tok):Prop:=Par Num.numOf E (.lev 0) 0 T (.ok x R)
def ak:List Tok→Wd
 |[]=>[]
 |t::_=>t.1
inductive Cnt(E:Nat):List Tok→Option X→List Tok→Prop where
 |no {T}:ak T≠[91]→Cnt E T none T
 |yes {t u:Tok} {T R:List Tok} {c:X}:t.1=[91]→eI E T c (u::R)→u.1=[93]→Cnt E (t::T) (some c) R
inductive dS:List Tok→Rl→List Tok→Prop where
 |size {t u:Tok} {R:List Tok}:t.1=dA→aN u.1=true→dS (t::u::R) (.size u.1) R
 |count {t u:Tok} {R:List Tok}:t.1=cu→aN u.1=true→dS (t::u::R) (.count u.1) R
 |eJ {t u:Tok} {R:List Tok}:t.1=bL→aN u.1=true→ak R=[59]→dS (t::u::R) (.check u.1 u.1) R
 |eK {t u v:Tok} {R:List Tok}:t.1=bL→aN u.1=true→v.1≠[59]→aN v.1=true→dS (t::u::v::R) (.check u.1 v.1) R
inductive lB(E:Nat):Knd→List Tok→Option X→Rl→List Tok→Prop where
 |cnt {k:Knd} {T R:List Tok} {c:Option X}:Cnt E T c R→(k= .bytes→c≠none)→lB E k T c .none R
 |ax {w:Wd} {t:Tok} {T R:List Tok} {r:Rl}:t.1=[61]→dS T r R→lB E (.scalar w) (t::T) none r R
inductive mF:Tok→Knd→Prop where
 |scalar {t:Tok}:(kindOf t.1).isSome=true→mF t (.scalar t.1)
 |bytes {t:Tok}:t.1=cC→mF t .bytes
 |struct {t:Tok}:aN t.1=true→mF t (.struct t.1)
inductive HdP(E:Nat):List Tok→Hd→List Tok→Prop where
 |mk {t n s:Tok} {T R:List Tok} {k:Knd} {c:Option X} {r:Rl}:mF t k→aN n.1=true→lB E k T c r (s::R)→s.1=[59]→HdP E (t::n::T) ⟨t.2,k,n.1,c,r⟩ R
inductive Blk(E:Nat):Nat→Nat→List Tok→Its→List Tok→Prop where
 |fin {d n:Nat} {t:Tok} {R:List Tok}:t.1=[125]→Blk E d n (t::R) .nil R
 |item {d n:Nat} {T R1 R:List Tok} {h:Hd} {l:Its}:n < 16→HdP E T h R1→Blk E d (n+1) R1 l R→Blk E d n T (.cons h l) R
 |when {d n:Nat} {t b:Tok} {T T2 R1 R:List Tok} {c:X} {body l:Its}:n < 16→t.1=dz→eI E T c (b::T2)→b.1=[123]→d+1≤8→Blk E (d+1) 0 T2 body R1→Blk E d (n+1) R1 l R→Blk E d n (t::T) (.when t.2 c body l) R
inductive Tys(E:Nat):Nat→List Tok→List Ty→Prop where
 |fin {n:Nat}:Tys E n [] []
 |one {n:Nat} {t m b:Tok} {T R:List Tok} {l:Its} {r:List Ty}:n < 8→t.1=cN→aN m.1=true→b.1=[123]→Blk E 1 0 T l R→Tys E (n+1) R r→Tys E n (t::m::b::T) (⟨m.1,m.2,l⟩::r)
def uH:Option X→Option X→Prop
 |none,none=>True
 |some a,some b=>gh a b
 |_,_=>False
def iV(a b:Hd):Prop:=a.k=b.k∧a.name=b.name∧uH a.cnt b.cnt∧a.ax=b.ax
inductive eA:Its→Its→Prop where
 |nil:eA .nil .nil
 |cons {h h':Hd} {l l':Its}:iV h h'→eA l l'→eA (.cons h l) (.cons h' l')
 |when {a a':Nat} {c c':X} {b b' l l':Its}:gh c c'→eA b b'→eA l l'→eA (.when a c b l) (.when a' c' b' l')
def G9(a b:Ty):Prop:=a.name=b.name∧eA a.items b.items
inductive bZ:List Ty→List Ty→Prop where
 |nil:bZ [] []
 |cons {a b:Ty} {l m:List Ty}:G9 a b→bZ l m→bZ (a::l) (b::m)
def pad(d:Nat):Wd:=List.replicate (2 * d) 32
def prX(x:X):Wd:=pr Num.dec x
def ptX(x:X):List Wd:=pt Num.dec x
def kf:Knd→Wd
 | .scalar w=>w
 | .bytes=>cC
 | .struct t=>t
def bn(c:Option X)(r:Rl):Wd:=match c with
 |some c=>91::(prX c++[93])
 |none=>match r with
  | .none=>[]
  | .size f=>[32,61,32]++dA++32::f
  | .count f=>[32,61,32]++cu++32::f
  | .check f l=>if l=f then [32,61,32]++bL++32::f else [32,61,32]++bL++32::(f++32::l)
def pe(c:Option X)(r:Rl):List Wd:=match c with
 |some c=>[91]::(ptX c++[[93]])
 |none=>match r with
  | .none=>[]
  | .size f=>[[61],dA,f]
  | .count f=>[[61],cu,f]
  | .check f l=>if l=f then [[61],bL,f]else [[61],bL,f,l]
def prH(d:Nat)(h:Hd):Wd:=pad d++kf h.k++32::(h.name++(bn h.cnt h.ax++[59,10]))
def ptH(h:Hd):List Wd:=kf h.k::h.name::(pe h.cnt h.ax++[[59]])
def prI(d:Nat):Its→Wd
 | .nil=>[]
 | .cons h l=>prH d h++prI d l
 | .when _ c b l=>pad d++(dz++32::(prX c++[32,123,10]))++(prI (d+1) b++(pad d++([125,10]++prI d l)))
def ptI:Its→List Wd
 | .nil=>[]
 | .cons h l=>ptH h++ptI l
 | .when _ c b l=>dz::(ptX c++[123]::(ptI b++[125]::ptI l))
def prT(t:Ty):Wd:=cN++32::(t.name++[32,123,10])++(prI 1 t.items++[125,10])
def ptT(t:Ty):List Wd:=cN::t.name::[123]::(ptI t.items++[[125]])
def cS(l:List Ty):Wd:=l.flatMap prT
def C2(l:List Ty):List Wd:=l.flatMap ptT
def iA(w:Wd):Prop:=w≠[]∧∀c∈w,Lex.word c=true
def eL(w:Wd):Prop:=iA w∧aN w=true
def gU(x:X):Prop:=kc Num.numOf Num.dec x∧aX Num.dec x≤8
def zA:Knd→Prop
 | .scalar w=>(kindOf w).isSome=true
 | .bytes=>True
 | .struct t=>eL t
def zB:Rl→Prop
 | .none=>True
 | .size f=>eL f
 | .count f=>eL f
 | .check f l=>eL f∧eL l
def fO(h:Hd):Prop:=zA h.k∧eL h.name∧(∀c,h.cnt=some c→gU c∧h.ax= .none)∧zB h.ax∧(h.k= .bytes→h.cnt≠none)∧(h.ax≠.none→∃w,h.k= .scalar w)
def bB:Its→Prop
 | .nil=>True
 | .cons h l=>fO h∧bB l
 | .when _ c b l=>gU c∧bB b∧bB l
def aZ(t:Ty):Prop:=eL t.name∧bB t.items
theorem C3:∀p∈bk,iA p.1∧je p.1=true:=by
 unfold iA;decide
theorem AT{w:Wd}(h:(kindOf w).isSome=true):iA w∧je w=true:=by
 unfold kindOf at h;rw[Option.isSome_map]at h;obtain⟨p,hp⟩:=Option.isSome_iff_exists.1 h;have h1:=List.mem_of_find?_eq_some hp;have h2:=List.find?_some hp;rw[beq_iff_eq]at h2;rw[← h2];exact C3 p h1
theorem pg:∀w∈fK,iA w∧je w=true∧kq w=true:=by
 unfold iA;decide
theorem EH{k:Knd}(h:zA k):iA (kf k):=by
 cases k with
 |scalar w=>exact(AT h).1
 |bytes=>exact(pg cC (by decide)).1
 |struct t=>exact h.1
def xG(r:Wd):Prop:=r=[]∨∃c t,r=c::t∧Lex.word c=false
theorem dY{x r:Wd}{i:Nat}(hx:iA x)(hr:xG r):texts (x++r) i=(texts r 0).map (x:: ·):=by
 refine xi x r i hx.1 hx.2 ?_;rcases hr with h|h
 ·exact .inl (.inl h)
 ·exact .inr h
theorem jJ:∀(x:X),kc Num.numOf Num.dec x→∀(r:Wd) (i:Nat),xG r→texts (prX x++r) i=(texts r 0).map (ptX x++ ·)
 | .num _ n,h,r,i,hr=>by
  unfold prX ptX pr pt;exact dY ⟨h.1,fun c hc=>xo c (h.2.1 c hc)⟩ hr
 | .name _ s,h,r,i,hr=>by
  unfold prX ptX pr pt;exact dY ⟨h.1,h.2.2.1⟩ hr
 | .bin _ op l r',h,r,i,hr=>by
  obtain⟨h1,h2,h3⟩:=h;have part:∀(x:X) (b:Bool),kc Num.numOf Num.dec x→(∀(r:List UInt8) (i:Nat),xG r→texts (prX x++r) i=(texts r 0).map (ptX x++ ·))→∀(r:List UInt8) (i:Nat),xG r→
    texts ((if b then 40::(prX x++[41])else prX x)++r) i=(texts r 0).map ((if b then [40]::(ptX x++[[41]])else ptX x)++ ·):=by
   intro x b hx ih r i hr;cases b with
   |false=>exact ih r i hr
   |true=>
    simp only[if_true];rw[List.cons_append,xj,List.append_assoc,List.singleton_append,ih _ _ (.inr ⟨41,_,rfl,by decide⟩),xl,Option.map_map,Option.map_map]
    congr 1
    funext z
    simp
  have pl:=part l (decide (hold l < aD op)) h2 (jJ l h2);have pr':=part r' (decide (hold r' < aD op+1)) h3 (jJ r' h3);simp only[decide_eq_true_eq]at pl pr';unfold prX ptX at *
  unfold pr pt;rw[List.append_assoc,List.cons_append,pl _ _ (.inr ⟨32,_,rfl,by decide⟩),bQ,List.append_assoc,List.cons_append,CB _ _ _ h1,pr' _ _ hr,Option.map_map,Option.map_map]
  congr 1
  funext z
  simp
theorem jg(l:Wd)(i:Nat):texts (10::l) i=texts l 0:=by
 unfold texts;rw[Lex.fN 10 l i (.inr (.inl rfl))];exact eo l _ _
theorem jK:∀(n:Nat) (l:Wd) (i:Nat),texts (List.replicate n 32++l) i=texts l 0
 |0,l,i=>by rw[List.replicate_zero,List.nil_append];exact eo l _ _
 |n+1,l,i=>by rw[List.replicate_succ,List.cons_append,bQ];exact jK n l 0
theorem C4(r:Wd)(i:Nat):texts (91::r) i=(texts r 0).map ([91]:: ·):=fy [91] 91 [] r i rfl (by decide) (by decide) (by decide) rfl
theorem C5(r:Wd)(i:Nat):texts (93::r) i=(texts r 0).map ([93]:: ·):=fy [93] 93 [] r i rfl (by decide) (by decide) (by decide) rfl
theorem uI(r:Wd)(i:Nat):texts (123::r) i=(texts r 0).map ([123]:: ·):=fy [123] 123 [] r i rfl (by decide) (by decide) (by decide) rfl
theorem uJ(r:Wd)(i:Nat):texts (125::r) i=(texts r 0).map ([125]:: ·):=fy [125] 125 [] r i rfl (by decide) (by decide) (by decide) rfl
theorem xH(r:Wd)(i:Nat):texts (59::r) i=(texts r 0).map ([59]:: ·):=fy [59] 59 [] r i rfl (by decide) (by decide) (by decide) rfl
theorem C6(r:Wd)(i:Nat):texts (61::32::r) i=(texts r 0).map ([61]:: ·):=by
 have:=fy [61] 61 [] (32::r) i rfl (by decide) (by decide) (by decide) (Lex.oN [61] (by decide) 32 r (.inl rfl));rw[show(61::32::r:Wd)=[61]++32::r from rfl,this,bQ]
end Tm
namespace Tm
open Ex
theorem sW(o:Option (List Wd))(a b:List Wd):(o.map (b++ ·)).map (a++ ·)=o.map ((a++b)++ ·):=by
 rw[Option.map_map];congr 1;funext z;simp
theorem EI(o:Option (List Wd))(a b:List Wd):(o.map (b++ ·)).map (a++ ·)=o.map ((a++b)++ ·):=sW o a b
theorem map_nil(o:Option (List Wd)):o.map (([]:List Wd)++ ·)=o:=by cases o <;> rfl
theorem eB(c:UInt8)(t:Wd)(h:Lex.word c=false):xG (c::t):= .inr ⟨c,t,rfl,h⟩
theorem sX{w:Wd}(h:w∈fK):iA w:=(pg w h).1
theorem gB{w f r:Wd}{i:Nat}(hw:w∈fK)(hf:eL f)(hr:xG r):texts ([32,61,32]++w++32::f++r) i=(texts r 0).map ([[61],w,f]++ ·):=by
 have e:[32,61,32]++w++32::f++r=32::61::32::(w++32::(f++r)):=by simp
 rw[e,bQ,C6,dY (sX hw) (eB 32 _ (by decide)),bQ,dY hf.1 hr,Option.map_map,Option.map_map];rfl
theorem xI{h:Hd}(hh:fO h)(r:Wd)(i:Nat)(hr:∃t,r=59::t):texts (bn h.cnt h.ax++r) i=(texts r 0).map (pe h.cnt h.ax++ ·):=by
 obtain⟨t,rfl⟩:=hr;have hs:xG (59::t):=eB 59 t (by decide);obtain⟨at_,k,name,cnt,ax⟩:=h;obtain⟨h1,h2,h3,h4,h5⟩:=hh;simp only[]at *
 cases cnt with
 |some c=>
  have hc:=(h3 c rfl).1.1;show texts (91::(prX c++[93])++59::t) i=_;rw[List.cons_append,C4,List.append_assoc,List.singleton_append,jJ c hc _ _ (eB 93 _ (by decide)),C5,Option.map_map,Option.map_map]
  congr 1
  funext z
  show _=([91]::(ptX c++[[93]]))++z;simp
 |none=>
  cases ax with
  |none=>show texts (59::t) i=(texts (59::t) 0).map (([]:List Wd)++ ·);rw[map_nil];exact eo _ _ _
  |size f=>exact gB (by decide) h4 hs
  |count f=>exact gB (by decide) h4 hs
  |check f l=>
   unfold bn pe;simp only[]
   by_cases e:l=f
   ·rw[if_pos e,if_pos e];exact gB (by decide) h4.1 hs
   ·rw[if_neg e,if_neg e];have:=gB (w:=bL) (f:=f) (r:=32::(l++59::t)) (i:=i) (by decide) h4.1 (eB 32 _ (by decide));have e2:[32,61,32]++bL++32::(f++32::l)++59::t=[32,61,32]++bL++32::f++32::(l++59::t):=by simp
    rw[e2,this,bQ,dY h4.2.1 hs,Option.map_map];rfl
theorem AU{h:Hd}(hh:fO h)(d:Nat)(r:Wd)(i:Nat):texts (prH d h++r) i=(texts r 0).map (ptH h++ ·):=by
 have e:prH d h++r=List.replicate (2 * d) 32++(kf h.k++32::(h.name++(bn h.cnt h.ax++59::10::r))):=by unfold prH pad;simp
 rw[e,jK,dY (EH hh.1) (eB 32 _ (by decide)),bQ,dY hh.2.1.1,xI hh _ _ ⟨_,rfl⟩,xH,jg,Option.map_map,Option.map_map,Option.map_map]
 ·congr 1
  funext z
  unfold ptH;simp
 ·obtain⟨at_,k,name,cnt,ax⟩:=h;simp only[];cases cnt with
  |some c=>exact eB 91 _ (by decide)
  |none=>
   cases ax with
   |none=>exact eB 59 _ (by decide)
   |size f=>exact eB 32 _ (by decide)
   |count f=>exact eB 32 _ (by decide)
   |check f l=>
    unfold bn;simp only[];split <;> exact eB 32 _ (by decide)
theorem jL:∀(l:Its),bB l→∀(d:Nat) (r:Wd) (i:Nat),texts (prI d l++r) i=(texts r 0).map (ptI l++ ·)
 | .nil,h,d,r,i=>by
  show texts r i=(texts r 0).map (([]:List Wd)++ ·);rw[map_nil];exact eo _ _ _
 | .cons h l,hf,d,r,i=>by
  show texts (prH d h++prI d l++r) i=_;rw[List.append_assoc,AU hf.1,jL l hf.2,EI];rfl
 | .when a c b l,hf,d,r,i=>by
  have e:prI d (.when a c b l)++r=List.replicate (2 * d) 32++(dz++32::(prX c++32::123::10::(prI (d+1) b++(List.replicate (2 * d) 32++125::10::(prI d l++r))))):=by
   rw[prI];unfold pad;simp
  rw[e,jK,dY (sX (by decide)) (eB 32 _ (by decide)),bQ,jJ c hf.1.1 _ _ (eB 32 _ (by decide)),bQ,uI,jg,jL b hf.2.1,jK,uJ,jg,jL l hf.2.2];simp only[Option.map_map]
  congr 1
  funext z
  rw[show ptI (.when a c b l)=dz::(ptX c++[123]::(ptI b++[125]::ptI l))from rfl];simp
theorem AV{t:Ty}(ht:aZ t)(r:Wd)(i:Nat):texts (prT t++r) i=(texts r 0).map (ptT t++ ·):=by
 have e:prT t++r=cN++32::(t.name++32::123::10::(prI 1 t.items++125::10::r)):=by unfold prT;simp
 rw[e,dY (sX (by decide)) (eB 32 _ (by decide)),bQ,dY ht.1.1 (eB 32 _ (by decide)),bQ,uI,jg,jL t.items ht.2,uJ,jg];simp only[Option.map_map]
 congr 1
 funext z
 unfold ptT;simp
theorem kK:∀(l:List Ty),(∀t∈l,aZ t)→texts (cS l) 0=some (C2 l)
 |[],h=>rfl
 |t::l,h=>by
  show texts (prT t++cS l) 0=_;rw[AV (h t (by simp)),kK l fun u hu=>h u (by simp[hu])];rfl
theorem uK{x y:X}(h:gh x y):prX x=prX y∧ptX x=ptX y:=by
 refine⟨h.pr.2,?_⟩
 induction h with
 |num=>rfl
 |name=>rfl
 |bin a b op h1 h2 ih1 ih2=>
  unfold ptX at *
  unfold pt;rw[ih1,ih2,(h1.pr (dec:=Num.dec)).1,(h2.pr (dec:=Num.dec)).1]
theorem AW{c c':Option X}(h:uH c c')(r:Rl):bn c r=bn c' r:=by
 cases c with
 |none=>cases c' with
  |none=>rfl
  |some b=>exact h.elim
 |some a=>cases c' with
  |none=>exact h.elim
  |some b=>unfold bn;simp only[];rw[(uK h).1]
theorem C7{h h':Hd}(hs:iV h h')(d:Nat):prH d h=prH d h':=by
 unfold prH;rw[hs.1,hs.2.1,AW hs.2.2.1,hs.2.2.2]
theorem C8{l l':Its}(h:eA l l'):∀d,prI d l=prI d l':=by
 induction h with
 |nil=>intro d;rfl
 |cons hh _ ih=>intro d;show prH d _++_=prH d _++_;rw[C7 hh,ih]
 |when hc _ _ ih1 ih2=>intro d;rw[prI,prI,(uK hc).1,ih1,ih2]
theorem AX{l l':List Ty}(h:bZ l l'):cS l=cS l':=by
 induction h with
 |nil=>rfl
 |cons ht _ ih=>
  show prT _++cS _=prT _++cS _;rw[ih];unfold prT;rw[ht.1,C8 ht.2]
end Tm
namespace Tm
open Ex
variable{E:Nat}
theorem eI.suf{T R:List Tok}{x:X}(h:eI E T x R):R <:+ T∧R.length < T.length:=by
 have:=h.less x R rfl;exact⟨this.1,this.2 (by intro k y e;cases e)⟩
theorem cH{t:Tok}{R T:List Tok}(h:R <:+ T):R <:+ t::T:=h.trans (List.suffix_cons _ _)
theorem Cnt.suf{T R:List Tok}{c:Option X}(h:Cnt E T c R):R <:+ T:=by
 cases h with
 |no _=>exact List.suffix_refl _
 |yes _ h _=>exact cH ((List.suffix_cons _ _).trans h.suf.1)
theorem dS.suf{T R:List Tok}{r:Rl}(h:dS T r R):R <:+ T:=by
 cases h with
 |size=>exact cH (List.suffix_cons _ _)
 |count=>exact cH (List.suffix_cons _ _)
 |eJ=>exact cH (List.suffix_cons _ _)
 |eK=>exact cH (cH (List.suffix_cons _ _))
theorem lB.suf{k:Knd}{T R:List Tok}{c:Option X}{r:Rl}(h:lB E k T c r R):R <:+ T:=by
 cases h with
 |cnt h _=>exact h.suf
 |ax _ h=>exact cH h.suf
theorem HdP.suf{T R:List Tok}{h:Hd}(hh:HdP E T h R):R <:+ T∧R.length < T.length:=by
 cases hh with
 |@mk t n s T R k c r h1 h2 h3 h4=>
  have h5:=(List.suffix_cons s R).trans h3.suf;have h6:=h5.length_le;refine⟨cH (cH h5),?_⟩;simp only[Z6];omega
theorem Blk.suf{d n:Nat}{T R:List Tok}{l:Its}(h:Blk E d n T l R):R <:+ T∧R.length < T.length:=by
 induction h with
 |fin _=>exact⟨List.suffix_cons _ _,by simp⟩
 |item _ h1 _ ih=>
  have h2:=h1.suf;exact⟨ih.1.trans h2.1,by omega⟩
 |when _ _ h3 _ _ _ _ ih1 ih2=>
  have h4:=h3.suf;refine⟨cH (ih2.1.trans (ih1.1.trans ((List.suffix_cons _ _).trans h4.1))),?_⟩;simp only[Z6]at *;omega
theorem Par.det{num:jd}{c:Cat}{d:Nat}{T:List Tok}{o:Out}(h:Par num E c d T o):∀o',Par num E c d T o'→o=o':=by
 induction h with
 |top _ ih=>
  intro o' h';cases h' with
  |top h=>exact ih _ h
  |lev hk=>omega
  |gJ hk=>omega
 |lev hk h1 h2 ih1 ih2=>
  intro o' h';cases h' with
  |top h=>omega
  |lev _ g1 g2=>cases ih1 _ g1;exact ih2 _ g2
  |gJ _ g1=>cases ih1 _ g1
 |gJ hk h1 ih1=>
  intro o' h';cases h' with
  |top h=>omega
  |lev _ g1 g2=>cases ih1 _ g1
  |gJ _ g1=>exact ih1 _ g1
 |done h=>
  intro o' h';cases h' with
  |done _=>rfl
  |more g=>exact absurd g (h _ _ rfl)
  |dJ g=>exact absurd g (h _ _ rfl)
 |more h h1 h2 ih1 ih2=>
  intro o' h';cases h' with
  |done g=>exact absurd h (g _ _ rfl)
  |more _ g1 g2=>cases ih1 _ g1;exact ih2 _ g2
  |dJ _ g1=>cases ih1 _ g1
 |dJ h h1 ih1=>
  intro o' h';cases h' with
  |done g=>exact absurd h (g _ _ rfl)
  |more _ g1 g2=>cases ih1 _ g1
  |dJ _ g1=>exact ih1 _ g1
 |paren h1 h2 h3 h4 ih=>
  intro o' h';cases h' with
  |paren _ _ g3 _=>cases ih _ g3;rfl
  |bH _ _ g3 g4=>cases ih _ g3;exact absurd h4 (g4 _ _ rfl)
  |cw _ _ g3=>cases ih _ g3
  |deep _=>omega
  |name g1 g2 _=>rw[h1]at g1;cases g1;exact absurd g2 (by decide)
  |cy g1 g2 _=>rw[h1]at g1;cases g1;exact absurd g2 (by decide)
  |mark _ _ _ g=>exact absurd h1 g
  |num g1 g2 _=>rw[h1]at g1;cases g1;exact absurd g2 (by decide)
  |dU g1 g2 _=>rw[h1]at g1;cases g1;exact absurd g2 (by decide)
 |bH h1 h2 h3 h4 ih=>
  intro o' h';cases h' with
  |paren _ _ g3 g4=>cases ih _ g3;exact absurd g4 (h4 _ _ rfl)
  |bH _ _ g3 g4=>cases ih _ g3;rfl
  |cw _ _ g3=>cases ih _ g3
  |deep _=>omega
  |name g1 g2 _=>rw[h1]at g1;cases g1;exact absurd g2 (by decide)
  |cy g1 g2 _=>rw[h1]at g1;cases g1;exact absurd g2 (by decide)
  |mark _ _ _ g=>exact absurd h1 g
  |num g1 g2 _=>rw[h1]at g1;cases g1;exact absurd g2 (by decide)
  |dU g1 g2 _=>rw[h1]at g1;cases g1;exact absurd g2 (by decide)
 |cw h1 h2 h3 ih=>
  intro o' h';cases h' with
  |paren _ _ g3 g4=>cases ih _ g3
  |bH _ _ g3 g4=>cases ih _ g3
  |cw _ _ g3=>cases ih _ g3;rfl
  |deep _=>omega
  |name g1 g2 _=>rw[h1]at g1;cases g1;exact absurd g2 (by decide)
  |cy g1 g2 _=>rw[h1]at g1;cases g1;exact absurd g2 (by decide)
  |mark _ _ _ g=>exact absurd h1 g
  |num g1 g2 _=>rw[h1]at g1;cases g1;exact absurd g2 (by decide)
  |dU g1 g2 _=>rw[h1]at g1;cases g1;exact absurd g2 (by decide)
 |deep h1=>
  intro o' h';cases h' with
  |paren _ g=>omega
  |bH _ g=>omega
  |cw _ g=>omega
  |deep _=>rfl
  |name g1 g2 _=>rw[h1]at g1;cases g1;exact absurd g2 (by decide)
  |cy g1 g2 _=>rfl
  |mark _ _ _ g=>exact absurd h1 g
  |num g1 g2 _=>rw[h1]at g1;cases g1;exact absurd g2 (by decide)
  |dU g1 g2 _=>rw[h1]at g1;cases g1;exact absurd g2 (by decide)
 |name h1 h2 h3=>
  intro o' h';cases h' with
  |paren g=>rw[h1]at g;cases g;exact absurd h2 (by decide)
  |bH g=>rw[h1]at g;cases g;exact absurd h2 (by decide)
  |cw g=>rw[h1]at g;cases g;exact absurd h2 (by decide)
  |deep g=>rw[h1]at g;cases g;exact absurd h2 (by decide)
  |name _ _ _=>rfl
  |cy _ _ _=>omega
  |mark g1 g2 _ _=>rw[h1]at g1;cases g1;rw[h2]at g2;cases g2
  |num g1 g2 _=>rw[h1]at g1;cases g1;exact absurd (gC h2 g2) id
  |dU g1 g2 _=>rw[h1]at g1;cases g1;exact absurd (gC h2 g2) id
 |cy h1 h2 h3=>
  intro o' h';cases h' with
  |paren g=>rw[h1]at g;cases g;exact absurd h2 (by decide)
  |bH g=>rw[h1]at g;cases g;exact absurd h2 (by decide)
  |cw g=>rw[h1]at g;cases g;exact absurd h2 (by decide)
  |deep g=>rfl
  |name _ _ _=>omega
  |cy _ _ _=>rfl
  |mark g1 g2 _ _=>rw[h1]at g1;cases g1;rw[h2]at g2;cases g2
  |num g1 g2 _=>rw[h1]at g1;cases g1;exact absurd (gC h2 g2) id
  |dU g1 g2 _=>rw[h1]at g1;cases g1;exact absurd (gC h2 g2) id
 |none=>intro o' h';cases h';rfl
 |mark h1 h2 h3 h4=>
  intro o' h';cases h' with
  |paren g=>exact absurd g h4
  |bH g=>exact absurd g h4
  |cw g=>exact absurd g h4
  |deep g=>exact absurd g h4
  |name g1 g2 _=>rw[h1]at g1;cases g1;rw[h2]at g2;cases g2
  |cy g1 g2 _=>rw[h1]at g1;cases g1;rw[h2]at g2;cases g2
  |mark _ _ _ _=>rfl
  |num g1 g2 _=>rw[h1]at g1;cases g1;rw[h3]at g2;cases g2
  |dU g1 g2 _=>rw[h1]at g1;cases g1;rw[h3]at g2;cases g2
 |num h1 h2 h3=>
  intro o' h';cases h' with
  |paren g=>rw[h1]at g;cases g;exact absurd h2 (by decide)
  |bH g=>rw[h1]at g;cases g;exact absurd h2 (by decide)
  |cw g=>rw[h1]at g;cases g;exact absurd h2 (by decide)
  |deep g=>rw[h1]at g;cases g;exact absurd h2 (by decide)
  |name g1 g2 _=>rw[h1]at g1;cases g1;exact absurd (gC g2 h2) id
  |cy g1 g2 _=>rw[h1]at g1;cases g1;exact absurd (gC g2 h2) id
  |mark g1 g2 g3 _=>rw[h1]at g1;cases g1;rw[h2]at g3;cases g3
  |num _ _ g3=>rw[h3]at g3;cases g3;rfl
  |dU _ _ g3=>rw[h3]at g3;cases g3
 |dU h1 h2 h3=>
  intro o' h';cases h' with
  |paren g=>rw[h1]at g;cases g;exact absurd h2 (by decide)
  |bH g=>rw[h1]at g;cases g;exact absurd h2 (by decide)
  |cw g=>rw[h1]at g;cases g;exact absurd h2 (by decide)
  |deep g=>rw[h1]at g;cases g;exact absurd h2 (by decide)
  |name g1 g2 _=>rw[h1]at g1;cases g1;exact absurd (gC g2 h2) id
  |cy g1 g2 _=>rw[h1]at g1;cases g1;exact absurd (gC g2 h2) id
  |mark g1 g2 g3 _=>rw[h1]at g1;cases g1;rw[h2]at g3;cases g3
  |num _ _ g3=>rw[h3]at g3;cases g3
  |dU _ _ g3=>rw[h3]at g3;cases g3;rfl
where
 gC {c:UInt8} (h:Lex.letter c.toNat=true) (g:Lex.digit c.toNat=true):False:=by
  unfold Lex.letter at h;unfold Lex.digit at g;simp only[Bool.or_eq_true,decide_eq_true_eq]at h g;omega
theorem eI.det{T R R':List Tok}{x x':X}(h:eI E T x R)(h':eI E T x' R'):x=x'∧R=R':=by
 have:=Par.det h _ h';cases this;exact⟨rfl,rfl⟩
end Tm
end
end Go.Proofs.YtlomecfhobehnaaGreatDoor
