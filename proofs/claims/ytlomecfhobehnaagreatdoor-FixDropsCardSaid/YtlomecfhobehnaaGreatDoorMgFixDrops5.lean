import Derived.OpenShut
import Derived.WideKeyEntry
import Derived.Test.YtlomecfhobehnaaGreatDoorMgFixDrops4
set_option linter.all false
set_option maxRecDepth 100000
set_option maxHeartbeats 1000000
namespace Go.Proofs.YtlomecfhobehnaaGreatDoor
open Lib (hid)
section
namespace Tm
open Ex
variable{E d:Nat}
def nG(E d:Nat)(T:List Tok)(l:Its)(R:List Tok):Prop:=∃b T2,T=b::T2∧b.1=[123]∧d≤8∧Blk E d 0 T2 l R
inductive ir(E d:Nat):List Tok→Its→List Tok→Prop where
 |hd {T R:List Tok} {h:Hd}:HdP E T h R→ir E d T (.cons h .nil) R
 |when {t:Tok} {T U R:List Tok} {c:X} {body:Its}:t.1=dD→eK E T c U→nG E (d+1) U body R→ir E d (t::T) (.when t.2 c body .nil) R
theorem uu{t:Tok}{T R:List Tok}{a:Hd}(h:HdP E (t::T) a R):aP (al T)=true:=by
 cases h with
 |mk h1 h2 h3 h4=>exact h2
theorem Jz{t:Tok}{T R:List Tok}{a:Hd}(h:HdP E (t::T) a R):(kindOf t.1).isSome=true∨t.1=cD∨aP t.1=true:=by
 cases h with
 |mk h1 h2 h3 h4=>
  cases h1 with
  |scalar h=>exact .inl h
  |bytes h=>exact .inr (.inl h)
  |struct h=>exact .inr (.inr h)
theorem qe:kindOf cD=none∧aP cD=false:=by decide
theorem EY{t n:Tok}{T R:List Tok}{a:Hd}(h:HdP E (t::n::T) a R)(ht:t.1=cD):al T=[91]:=by
 cases h with
 |mk h1 h2 h3 h4=>
  cases h1 with
  |scalar h=>rw[ht,qe.1]at h;cases h
  |struct h=>rw[ht,qe.2]at h;cases h
  |bytes h=>
   cases h3 with
   |cnt hc hb=>
    cases hc with
    |no=>exact absurd rfl (hb rfl)
    |yes h5 h6 h7=>exact h5
theorem iM{t n o:Tok}{T R:List Tok}{a:Hd}(h:HdP E (t::n::o::T) a R)(ho:o.1=[91]):∃x c R',eK E T x (c::R')∧c.1=[93]∧al R'=[59]:=by
 cases h with
 |mk h1 h2 h3 h4=>
  cases h3 with
  |cnt hc hb=>
   cases hc with
   |no h5=>exact absurd ho h5
   |yes h5 h6 h7=>exact⟨_,_,_,h6,h7,h4⟩
  |ay h5 h6=>rw[ho]at h5;exact absurd h5 (by decide)
theorem AO{t n o:Tok}{T R:List Tok}{a:Hd}(h:HdP E (t::n::o::T) a R)(ho:o.1=[61]):∃r R',ea T r R'∧al R'=[59]:=by
 cases h with
 |mk h1 h2 h3 h4=>
  cases h3 with
  |cnt hc hb=>
   cases hc with
   |no h5=>rw[ho]at h4;exact absurd h4 (by decide)
   |yes h5 h6 h7=>rw[ho]at h5;exact absurd h5 (by decide)
  |ay h5 h6=>exact⟨_,_,h6,h4⟩
theorem AP{t n:Tok}{T R:List Tok}{a:Hd}(h:HdP E (t::n::T) a R)(h1:al T≠[91])(h2:(kindOf t.1).isSome=true→al T≠[61]):al T=[59]:=by
 cases h with
 |mk h3 _ h5 h6=>
  cases h5 with
  |cnt hc hb=>
   cases hc with
   |no _=>exact h6
   |yes h7 _ _=>exact absurd h7 h1
  |ay h7 h8=>
   cases h3 with
   |scalar hk=>exact absurd h7 (h2 hk)
theorem JA{R:List Tok}{a:Hd}(h:HdP E [] a R):False:=by cases h
theorem du{T R:List Tok}{I:Its}(h:ir E d T I R)(ht:al T≠dD):∃a,I= .cons a .nil∧HdP E T a R:=by
 cases h with
 |hd h=>exact⟨_,rfl,h⟩
 |when h=>exact absurd h ht
theorem we{t:Tok}{T R:List Tok}{I:Its}(h:ir E d (t::T) I R)(ht:t.1=dD):∃c U body,eK E T c U∧nG E (d+1) U body R:=by
 cases h with
 |hd h=>exact absurd ht h.no.2
 |when _ h2 h3=>exact⟨_,_,_,h2,h3⟩
theorem nG.suf{T R:List Tok}{l:Its}(h:nG E d T l R):R <:+ T∧R.length < T.length:=by
 obtain⟨b,T2,rfl,h1,h2,h3⟩:=h;exact⟨cK h3.suf.1,by have:=h3.suf.2;simp;omega⟩
theorem ir.suf{T R:List Tok}{I:Its}(h:ir E d T I R):R <:+ T∧R.length < T.length:=by
 cases h with
 |hd h=>exact h.suf
 |when h1 h2 h3=>exact⟨cK (h3.suf.1.trans h2.suf.1),by have:=h3.suf.2;have:=h2.suf.2;simp;omega⟩
theorem nG.det{T R R':List Tok}{l l':Its}(h:nG E d T l R)(h':nG E d T l' R'):l=l'∧R=R':=by
 obtain⟨b,T2,rfl,h1,h2,h3⟩:=h;obtain⟨b',T2',e,h1',h2',h3'⟩:=h';cases e;exact h3.det _ _ h3'
theorem ir.det{T R R':List Tok}{I I':Its}(h:ir E d T I R)(h':ir E d T I' R'):I=I'∧R=R':=by
 cases h with
 |hd h=>
  obtain⟨a,rfl,h2⟩:=du h' h.no.2;obtain⟨rfl,rfl⟩:=h.det h2;exact⟨rfl,rfl⟩
 |when h1 h2 h3=>
  cases h' with
  |hd h=>exact absurd h1 h.no.2
  |when _ h4 h5=>
   obtain⟨rfl,rfl⟩:=eK.det h2 h4;obtain⟨rfl,rfl⟩:=h3.det h5;exact⟨rfl,rfl⟩
def Its.app:Its→Its→Its
 | .nil,m=>m
 | .cons h l,m=> .cons h (l.app m)
 | .when a c b l,m=> .when a c b (l.app m)
def Its.len:Its→Nat
 | .nil=>0
 | .cons _ l=>l.len+1
 | .when _ _ _ l=>l.len+1
theorem AQ(l m:Its):(l.app m).len=l.len+m.len:=by
 induction l with
 |nil=>simp[Its.app,Its.len]
 |cons h l ih=>simp only[Its.app,Its.len,ih];omega
 |when a c b l _ ih=>simp only[Its.app,Its.len,ih];omega
theorem fe(l:Its):l.app .nil=l:=by
 induction l with
 |nil=>rfl
 |cons h l ih=>rw[Its.app,ih]
 |when a c b l _ ih=>rw[Its.app,ih]
theorem dM(l m k:Its):(l.app m).app k=l.app (m.app k):=by
 induction l with
 |nil=>rfl
 |cons h l ih=>simp only[Its.app,ih]
 |when a c b l _ ih=>simp only[Its.app,ih]
theorem ir.one{T R:List Tok}{I:Its}(h:ir E d T I R):I.len=1:=by
 cases h <;> rfl
theorem EZ{n:Nat}{T R R2:List Tok}{I l:Its}(hn:n < 16)(h:ir E d T I R)(h2:Blk E d (n+1) R l R2):Blk E d n T (I.app l) R2:=by
 cases h with
 |hd h=>exact .item hn h h2
 |when h1 h3 h4=>
  obtain⟨b,T2,rfl,h5,h6,h7⟩:=h4;exact .when hn h1 h3 h5 h6 h7 h2
theorem nH{n:Nat}{T R2:List Tok}{L:Its}(h:Blk E d n T L R2):(al T=[125]∧L= .nil)∨(al T≠[125]∧n < 16∧∃I R l,ir E d T I R∧Blk E d (n+1) R l R2∧L=I.app l):=by
 cases h with
 |fin h=>exact .inl ⟨h,rfl⟩
 |item h1 h2 h3=>exact .inr ⟨h2.no.1,h1,_,_,_,.hd h2,h3,rfl⟩
 |when h1 h2 h3 h4 h5 h6 h7=>exact .inr ⟨by intro e;exact absurd (h2.symm.trans e) (by decide),h1,_,_,_,.when h2 h3 ⟨_,_,rfl,h4,h5,h6⟩,h7,rfl⟩
end Tm
end
section
open Go.RowKit
open Rd
namespace Tm
def aJ:Knd→Nat
 | .scalar _=>1
 | .bytes=>2
 | .struct _=>3
def bw:Knd→Wd
 | .struct t=>t
 |_=>[]
def bA(k:Knd):Nat×Nat×Bool:=match k with
 | .scalar w=>cW w
 |_=>(0,0,false)
def ba(h:Hd):Bool:=match h.k,h.cnt with
 | .bytes,_=>false
 |_,some _=>true
 |_,none=>false
def qf(w:World)(rb:Nat):Option Ex.X→Value→Prop
 |none,v=>v= .pointer none
 |some x,v=>∃b,v= .pointer (some ⟨b,0,none⟩)∧IsX w rb b x
def ag(h:Hd)(cv:Value):List Value:=
 [.int .i64 (aJ h.k:Nat),.int .i64 (h.at_:Nat),.string (aa h.name),.string (aa (bw h.k)),.int .i64 ((bA h.k).1:Nat),.int .i64 ((bA h.k).2.1:Nat),.bool (bA h.k).2.2,.bool (ba h),cv,
  .int .i64 ((av h.ay).1:Nat),.string (aa (av h.ay).2.1),.string (aa (av h.ay).2.2),.slice none 0 0]
def au(a:Nat)(cv sv:Value):List Value:=
 [.int .i64 4,.int .i64 (a:Nat),.string (aa []),.string (aa []),.int .i64 0,.int .i64 0,.bool false,.bool false,cv,.int .i64 0,.string (aa []),.string (aa []),sv]
def Enc(w:World)(rb:Nat)(ok:Nat→Prop):Its→List Value→Prop
 | .nil,vs=>vs=[]
 | .cons h l,vs=>∃cv us,qf w rb h.cnt cv∧vs=ag h cv++us∧Enc w rb ok l us
 | .when a c b l,vs=>∃cb ga cap bs us,IsX w rb cb c∧ak w (rb+1) 70 13 ga b.len cap bs∧(∀x,ga=some x→ok x.block)∧Enc w rb ok b bs∧vs=au a (.pointer (some ⟨cb,0,none⟩)) (.slice ga b.len cap)++us∧Enc w rb ok l us
theorem Enc.mono{w:World}{rb:Nat}{ok ok':Nat→Prop}(h:∀b,ok b→ok' b):∀(l:Its) (vs:List Value),Enc w rb ok l vs→Enc w rb ok' l vs
 | .nil,vs,e=>e
 | .cons a l,vs,e=>by
  obtain⟨cv,us,h1,h2,h3⟩:=e;exact⟨cv,us,h1,h2,Enc.mono h l us h3⟩
 | .when a c b l,vs,e=>by
  obtain⟨cb,ga,cap,bs,us,h1,h2,h3,h4,h5,h6⟩:=e;exact⟨cb,ga,cap,bs,us,h1,h2,fun x hx=>h _ (h3 x hx),Enc.mono h b bs h4,h5,Enc.mono h l us h6⟩
theorem Enc.grown{w w':World}{rb:Nat}{ok:Nat→Prop}(hg:w.grownBy w' (some rb)):∀(l:Its) (vs:List Value),Enc w rb ok l vs→Enc w' rb ok l vs
 | .nil,vs,e=>e
 | .cons a l,vs,e=>by
  obtain⟨cv,us,h1,h2,h3⟩:=e;refine⟨cv,us,?_,h2,Enc.grown hg l us h3⟩;cases hc:a.cnt with
  |none=>rw[hc]at h1;exact h1
  |some x=>
   rw[hc]at h1;obtain⟨b,h4,h5⟩:=h1;exact⟨b,h4,IsX.grown hg x b h5⟩
 | .when a c b l,vs,e=>by
  obtain⟨cb,ga,cap,bs,us,h1,h2,h3,h4,h5,h6⟩:=e;refine⟨cb,ga,cap,bs,us,IsX.grown hg c cb h1,h2.grown hg fun x hx e=> ?_,h3,Enc.grown hg b bs h4,h5,Enc.grown hg l us h6⟩;subst hx;have:=h2.lt.1;injection e with e
  omega
theorem aj(h:Hd)(cv:Value):(ag h cv).length=13:=rfl
theorem bh(a:Nat)(cv sv:Value):(au a cv sv).length=13:=rfl
end Tm
end
section
open Go.RowKit
open Rd
open Ex (X levels)
structure lZ(w:World)(mv:Value)(N:Ex.Names)(n:Nat):Prop where
 look:∀W,Below w.heap.size w W→∀s:List UInt8,s.length≤1000→(Instr.lookup 103 mv (.string (aa s)) true).run Tryz.prog W= .ok (.tuple #[.int .i64 ((N s).getD 0),.bool (N s).isSome]) W
 rng:∀s v,N s=some v→Ex.InR v
 len:∀W,Below w.heap.size w W→(Builtin.len_ #[103] 3 #[mv]).run Tryz.prog W= .ok (.int .i64 (n:Nat)) W
def iN(w:World)(r:Option Int)(e:Ending)(w':World):Prop:=Below w.heap.size w w'∧match r with
 |some v=>e= .returned (.tuple #[.int .i64 v,.nilIface])
 |none=>∃g p,e= .returned (.tuple #[.int .i64 0,.iface 120 (.pointer (some ⟨g,0,none⟩))])∧ae w' g 0 122 [.int .i64 5,.int .i64 (p:Nat)]
def jw(w0:World)(mv:Value)(N:Ex.Names)(x:X):Prop:=∀(w:World) (rb b:Nat),Below w0.heap.size w0 w→IsX w rb b x→
 Calls Tryz.prog 94 #[.pointer (some ⟨b,0,none⟩),mv] w (iN w (Ex.ev N x))
theorem Fa(w0:World)(mv:Value)(N:Ex.Names)(a n:Nat):jw w0 mv N (.num a n):=by
 intro w rb b hb hx;have c0:=hx.2.cell0 0 (by simp);have c2:=hx.2.cell0 2 (by simp);simp only[Z0,Z1]at c0 c2;clear hx;go_enter Tryz.func94,Tryz.ntmps94;go_wp2_with fail;go_ret2;exact⟨Y4 _ _,rfl⟩
theorem CB(w0:World)(mv:Value)(N:Ex.Names)(n a:Nat)(s:List UInt8)(hs:s.length≤12)(hN:lZ w0 mv N n):jw w0 mv N (.name a s):=by
 intro w rb b hb hx;have c0:=hx.2.cell0 0 (by simp);have c1:=hx.2.cell0 1 (by simp);have c3:=hx.2.cell0 3 (by simp);simp only[Z0,Z1]at c0 c1 c3;have hlk:=hN.look w hb s (by omega);have hev:Ex.ev N (.name a s)=N s:=rfl;rw[hev];clear hx hN hb hev;cases h:N s with
 |some v=>
  rw[h]at hlk;simp only[Option.getD_some,Option.isSome_some]at hlk;clear h;go_enter Tryz.func94,Tryz.ntmps94;go_wp2_with fail;go_ret2;exact⟨Y4 _ _,rfl⟩
 |none=>
  rw[h]at hlk;simp only[Option.getD_none,Option.isSome_none]at hlk;clear h;go_enter Tryz.func94,Tryz.ntmps94;go_wp2_with fail
  go_region
  all_goals
   go_wp2_with fail;go_ret2;exact⟨((Y4 _ w).alloc (Z5 _) _).drew,_,a,rfl,(ae.new w 122 #[.int .i64 5,.int .i64 (a:Nat)]).drew⟩
theorem CC(c:Bool)(w:World):Calls Tryz.prog 119 #[.bool c] w fun e w'=>e= .returned (.int .i64 (Ex.pZ c))∧w'=w:=by
 cases c <;>
 ·go_enter Tryz.func119,Tryz.ntmps119;go_wp2_with fail;go_ret;exact⟨rfl,rfl⟩
theorem uv(z:Int):Ex.kQ z=wrap64 z:=by
 unfold Ex.kQ wrap64;rw[IntKind.wrap_i64]
theorem Hm(u v:Int):Ex.opv [43] u v=wrap64 (u+v):=by
 show Ex.kQ (u+v)=_;exact uv _
theorem Hn(u v:Int):Ex.opv [45] u v=wrap64 (u - v):=by
 show Ex.kQ (u - v)=_;exact uv _
theorem Ho(u v:Int):Ex.opv [42] u v=wrap64 (u * v):=by
 show Ex.kQ (u * v)=_;exact uv _
structure uw(w:World)(b bl br:Nat)(op:List UInt8):Prop where
 c0:w.cell? ⟨b,0,none⟩=some (.int .i64 3)
 c4:w.cell? ⟨b,4,none⟩=some (.string (aa op))
 c5:w.cell? ⟨b,5,none⟩=some (.pointer (some ⟨bl,0,none⟩))
 c6:w.cell? ⟨b,6,none⟩=some (.pointer (some ⟨br,0,none⟩))
 lt:b < w.heap.size
theorem uw.below{w w':World}{b bl br:Nat}{op:List UInt8}(h:uw w b bl br op)(hb:Below w.heap.size w w'):uw w' b bl br op:=
 ⟨(hb.cell (p:=⟨b,0,none⟩) h.lt).trans h.c0,(hb.cell (p:=⟨b,4,none⟩) h.lt).trans h.c4,(hb.cell (p:=⟨b,5,none⟩) h.lt).trans h.c5,(hb.cell (p:=⟨b,6,none⟩) h.lt).trans h.c6,Nat.lt_of_lt_of_le h.lt hb.size⟩
theorem nodeAt{w:World}{rb b a:Nat}{op:List UInt8}{l r:X}(h:IsX w rb b (.bin a op l r)):∃bl br,uw w b bl br op∧IsX w rb bl l∧IsX w rb br r:=by
 obtain⟨bl,br,h1,h2,h3,h4⟩:=h;exact⟨bl,br,⟨h2.cell0 0 (by simp),h2.cell0 4 (by simp),h2.cell0 5 (by simp),h2.cell0 6 (by simp),h2.lt⟩,h3,h4⟩
theorem CD(w0:World)(mv:Value)(N:Ex.Names)(a:Nat)(op:List UInt8)(l r:X)(hl:jw w0 mv N l)(hn:Ex.ev N l=none):jw w0 mv N (.bin a op l r):=by
 intro w rb b hb hx;obtain⟨bl,br,hnode,hxl,hxr⟩:=nodeAt hx;have hL:=hl w rb bl hb hxl;rw[hn]at hL;unfold iN at hL;have HL:=hid hL;have c0:=hnode.c0;have c5:=hnode.c5;have hev:Ex.ev N (.bin a op l r)=none:=by unfold Ex.ev;rw[hn];rfl
 rw[hev];clear hx hL hxl hxr hnode hev hn hl;go_enter Tryz.func94,Tryz.ntmps94;go_wp2_with fail;refine HL.out.mono ?_;rintro e w1 ⟨hb1,g,p,rfl,hrow⟩;go_wp2_with fail;go_ret2;exact⟨hb1,g,p,rfl,hrow⟩
theorem zd(w0:World)(mv:Value)(N:Ex.Names)(a:Nat)(op:List UInt8)(l r:X)(u:Int)(hl:jw w0 mv N l)(hr:jw w0 mv N r)(hu:Ex.ev N l=some u)(hn:Ex.ev N r=none):jw w0 mv N (.bin a op l r):=by
 intro w rb b hb hx;obtain⟨bl,br,hnode,hxl,hxr⟩:=nodeAt hx;have hL:=hl w rb bl hb hxl;rw[hu]at hL;unfold iN at hL;have HL:=hid hL;have hR:∀W,Below w.heap.size w W→Calls Tryz.prog 94 #[.pointer (some ⟨br,0,none⟩),mv] W (iN W none):=fun W hW=>by
  have:=hr W rb br (hb.trans (hW.mono hb.size)) (IsX.grown (ar hW _) r br hxr);rwa[hn]at this
 unfold iN at hR;have HR:=hid hR;have HN:=hid hnode;have c0:=hnode.c0;have c5:=hnode.c5;have hev:Ex.ev N (.bin a op l r)=none:=by unfold Ex.ev;rw[hu,hn];rfl
 rw[hev];clear hx hL hxl hxr hnode hev hn hl hr hu hR;go_enter Tryz.func94,Tryz.ntmps94;go_wp2_with fail;refine HL.out.mono ?_;rintro e w1 ⟨hb1,rfl⟩;have c6:=(HN.out.below hb1).c6;have HB1:=hid hb1;clear hb1;go_wp2_with fail;refine(HR.out w1 HB1.out).mono ?_;rintro e w2 ⟨hb2,g,p,rfl,hrow⟩;go_wp2_with fail;go_ret2;exact⟨HB1.out.trans (hb2.mono HB1.out.size),g,p,rfl,hrow⟩
theorem CE(w0:World)(mv:Value)(N:Ex.Names)(a:Nat)(op:List UInt8)(l r:X)(u v:Int)(hop:Ex.aG op < 3)(hl:jw w0 mv N l)(hr:jw w0 mv N r)(hu:Ex.ev N l=some u)(hv:Ex.ev N r=some v):jw w0 mv N (.bin a op l r):=by
 intro w rb b hb hx;obtain⟨bl,br,hnode,hxl,hxr⟩:=nodeAt hx;have hL:=hl w rb bl hb hxl;rw[hu]at hL;unfold iN at hL;have HL:=hid hL;have hR:∀W,Below w.heap.size w W→Calls Tryz.prog 94 #[.pointer (some ⟨br,0,none⟩),mv] W (iN W (some v)):=fun W hW=>by
  have:=hr W rb br (hb.trans (hW.mono hb.size)) (IsX.grown (ar hW _) r br hxr);rwa[hv]at this
 unfold iN at hR;have HR:=hid hR;have HN:=hid hnode;have c0:=hnode.c0;have c5:=hnode.c5;have hev:Ex.ev N (.bin a op l r)=some (Ex.opv op u v):=by unfold Ex.ev;rw[hu,hv];rfl
 rw[hev];have HTR:=hid (fun c w=>CC c w);have hm:op∈levels 0∨op∈levels 1∨op∈levels 2:=by
  have:=Ex.lV op hop;rcases(by omega:Ex.aG op=0∨Ex.aG op=1∨Ex.aG op=2)with h|h|h <;> rw[h]at this
  ·exact .inl this
  ·exact .inr (.inl this)
  ·exact .inr (.inr this)
 clear hx hL hxl hxr hnode hev hl hr hu hR hv hop;have hcase:op=[61,61]∨op=[33,61]∨op=[60]∨op=[62]∨op=[43]∨op=[45]∨op=[124]∨op=[42]∨op=[38]:=by
  simp only[levels,List.mem_cons,List.not_mem_nil,or_false]at hm;rcases hm with(h|h|h|h)|(h|h|h)|(h|h) <;> simp[h]
 clear hm;rcases hcase with rfl|rfl|rfl|rfl|rfl|rfl|rfl|rfl|rfl
 all_goals
  go_enter Tryz.func94,Tryz.ntmps94;go_wp2_with fail;refine HL.out.mono ?_;rintro e w1 ⟨hb1,rfl⟩;have c6:=(HN.out.below hb1).c6;have HB1:=hid hb1;clear hb1;go_wp2_with fail;refine(HR.out w1 HB1.out).mono ?_;rintro e w2 ⟨hb2,rfl⟩;have c4:=((HN.out.below HB1.out).below hb2).c4;have HB2:=hid (HB1.out.trans (hb2.mono HB1.out.size));clear hb2;go_wp2_with fail
  try(refine(HTR.out _ _).mono ?_;rintro e w3 ⟨rfl,rfl⟩;go_wp2_with fail)
  go_ret2;exact⟨HB2.out,by first|rfl|(rw[Hm];rfl)|(rw[Hn];rfl)|(rw[Ho];rfl)⟩
theorem ze(w0:World)(mv:Value)(N:Ex.Names)(n:Nat)(hN:lZ w0 mv N n):∀x:X,Ex.kK Num.numOf Num.dec x→jw w0 mv N x
 | .num a k,_=>Fa w0 mv N a k
 | .name a s,h=>CB w0 mv N n a s h.2.1 hN
 | .bin a op l r,h=>by
  have hl:=ze w0 mv N n hN l h.2.1;have hr:=ze w0 mv N n hN r h.2.2;cases e1:Ex.ev N l with
  |none=>exact CD w0 mv N a op l r hl e1
  |some u=>
   cases e2:Ex.ev N r with
   |none=>exact zd w0 mv N a op l r u hl hr e1 e2
   |some v=>exact CE w0 mv N a op l r u v h.1 hl hr e1 e2
def nm{H:Type}(D:DataW H):Ex.Names:=fun s=>if 1000 < s.length then none else match D.atKey (.string s) .nil with
 | .lit (.int _ a)=>some a
 |_=>none
theorem CF{H:Type}{w:World}{b n:Nat}{D:DataW H}(h:w.ownsMap Tryz.prog 9 (plainElem Tryz.prog 3) b n D):∃k,k≤n∧lZ w (.map (some b)) (nm D) k:=by
 obtain⟨es,clock,hb,F,hs,hD⟩:=h;have K:=Maps.string_keyed (P:=Tryz.prog) Tryz.underlying9;have hblt:b < w.heap.size:=(Array.getElem?_eq_some_iff.1 hb).1;have hlook:∀W,Below w.heap.size w W→∀s:List UInt8,s.length≤1000→(Instr.lookup 103 (.map (some b)) (.string (aa s)) true).run Tryz.prog W= .ok (.tuple #[.int .i64 ((nm D s).getD 0),.bool (nm D s).isSome]) W∧∀v,nm D s=some v→Ex.InR v:=by
  intro W hW s hsl;have hb':W.heap[b]? =some (.map es clock):=(hW.block b hblt).trans hb;have hz:(zeroValue 3).run Tryz.prog W= .ok (.int .i64 0) W:=by kernel_rfl
  have hkey:keyOf Tryz.prog 9 (.string (aa s))=some (.string s):=WideMaps.keyOf_string_mk Tryz.underlying9 (by rw[aq];unfold maxLen;omega);rcases Maps.fit_look true K Tryz.underlying103 hz hb' F hkey with⟨hrun,_,hat⟩|⟨e0,y,_,_,hrun,hRv,hat,_⟩
  ·have hn:nm D s=none:=by
    unfold nm;rw[if_neg (by omega),hD,hat .nil]
   rw[hn];exact⟨hrun,fun v e=>by cases e⟩
  ·obtain⟨a,ha,hy,hwf⟩:=plainElem_int_inv Tryz.underlying3 hRv;have hn:nm D s=some a:=by
    unfold nm;rw[if_neg (by omega),hD,hat .nil,hy]
   rw[hn];rw[ha]at hrun;refine⟨hrun,fun v e=> ?_⟩;cases e;exact bounds_i64 hwf
 refine⟨es.size,hs,fun W hW s hsl=>(hlook W hW s hsl).1,fun s v e=> ?_,fun W hW=> ?_⟩
 ·by_cases hl:1000 < s.length
  ·unfold nm at e;rw[if_pos hl]at e;cases e
  ·exact(hlook w (Y4 _ _) s (by omega)).2 v e
 ·have hb':W.heap[b]? =some (.map es clock):=(hW.block b hblt).trans hb;exact run_len_map W 103 3 b es clock (by kernel_rfl) hb'
end
section
open Go Go.RowKit Go.Maps Go.WideElems Go.ChangeMaps Go.WideMaps
def ia(P:Program)(k e:TypeId)(w:World)(b n:Nat)(S:List (List UInt8)):Prop:=
 ∃D:DataW Unit,w.ownsMap P k (plainElem P e) b n D∧IsMap D∧∀s:List UInt8,D.atKey (.string s) (.lit (.int .i64 0))= .lit (.int .i64 (if S.contains s then 1 else 0))
section
variable{P:Program}{t k e:TypeId}{w:World}{b n:Nat}{S:List (List UInt8)}
theorem AR(s:List UInt8):WideAt.IsKeyLit (.string s):=by unfold WideAt.IsKeyLit;trivial
theorem ia.made(w:World):ia P k e (w.alloc (.map #[] 0)) w.heap.size 0 []:=
 ⟨.map [],World.ownsMap_made _ _ _ _,isMap_empty,fun c=>rfl⟩
theorem ia.an{w':World}(h:ia P k e w b n S)(hh:w'.heap[b]? =w.heap[b]?):ia P k e w' b n S:=by
 obtain⟨D,⟨es,clock,hb,F,h1,h2⟩,h3⟩:=h;exact⟨D,⟨es,clock,hh.trans hb,F,h1,h2⟩,h3⟩
theorem ia.lt(h:ia P k e w b n S):b < w.heap.size:=by obtain⟨D,h1,_⟩:=h;exact h1.lt
theorem lp(hk:P.underlying k=some .string)(s:List UInt8)(hs:s.length≤100000):keyOf P k (.string (aa s))=some (.string s):=
 WideMaps.keyOf_string_mk hk (by rw[aq];show s.length≤9223372036854775807;omega)
theorem ia.look(h:ia P k e w b n S)(hk:P.underlying k=some .string)(ht:P.underlying t=some (.map k e))(he:P.underlying e=some (.int .i64))(hz:(zeroValue e).run P w= .ok (.int .i64 0) w)(s:List UInt8)(hs:s.length≤100000):
  (Instr.lookup t (.map (some b)) (.string (aa s)) false).run P w= .ok (.int .i64 (if S.contains s then 1 else 0)) w:=by
 obtain⟨D,h1,h2,h3⟩:=h;obtain⟨c,hrun,hat,_⟩:=h1.lookup_int (string_keyed hk) ht he hz (lp hk s hs);rw[h3 s]at hat;simp only[DataW.lit.injEq,Lit.int.injEq,true_and]at hat;rw[hrun,hat]
theorem ia.store(h:ia P k e w b n S)(hk:P.underlying k=some .string)(ht:P.underlying t=some (.map k e))(he:P.underlying e=some (.int .i64))(hn:n < maxLen)(s:List UInt8)(hs:s.length≤100000):
  ∃w',(Instr.mapUpdate t (.map (some b)) (.string (aa s)) (.int .i64 1)).run P w= .ok () w'∧ia P k e w' b (n+1) (s::S)∧w.grownBy w' (some b):=by
 obtain⟨D,h1,h2,h3⟩:=h;obtain⟨w',hrun,ho,hg⟩:=h1.update (string_keyed hk) ht hn (lp hk s hs) (plainElem_int he (by decide:(Lit.int .i64 1).wf=true));refine⟨w',hrun,⟨_,ho,h2.put _ _,fun x=> ?_⟩,hg⟩
 by_cases hxc:x=s
 ·subst hxc;rw[atKey_put_same h2 (AR x)];simp
 ·have hne:(Lit.string x)≠.string s:=fun h=>by injection h with h4;exact hxc h4
  rw[atKey_put_other hne,h3 x];have:(s::S).contains x=S.contains x:=by
   rw[List.contains_cons];have:(x==s)=false:=by rw[Z8];exact hxc
   rw[this,Bool.false_or]
  rw[this]
end
theorem kS{P:Program}(w:World){ops:Array Oper}{rest:List Oper}{o:Oper}{a:Act}{Q:Exit→Act→World→Prop}
  (hg:o.guard=none)(m x v:Operand)(t:TypeId)(hop:o.op=Op.mapUpdate t m x v)(k e:TypeId)(ht:P.underlying t=some (.map k e))(hk:P.underlying k=some .string)(he:P.underlying e=some (.int .i64))
  (b n:Nat)(S:List (List UInt8))(hm:a.eval m= .map (some b))(h:ia P k e w b n S)(hn:n < maxLen)(s:List UInt8)(hs:s.length≤100000)(hx:a.eval x= .string (aa s))(hv:a.eval v= .int .i64 1)
  (hK:∀w',ia P k e w' b (n+1) (s::S)→w.grownBy w' (some b)→wpList P ops Q rest (a.put o.dst undef) w'):
  wpList P ops Q (o::rest) a w:=by
 refine wpList_plain hg fun K' hK'=> ?_
 obtain⟨w',hrun,r1,r2⟩:=h.store hk ht he hn s hs;unfold Oper.wp;simp[execOp,hop,hm,hx,hv,hrun,Result.andThen];exact hK' _ _ (hK w' r1 r2)
end
section
namespace Tm
open Ex
def cf:X→List Wd
 | .num _ _=>[]
 | .name _ s=>[s]
 | .bin _ _ l r=>cf l++cf r
def ee:Option X→List Wd
 |none=>[]
 |some x=>cf x
structure Sk where
 wh:Bool
 name:Wd
 ay:Rl
 many:Bool
 w4:Bool
def w4K:Knd→Bool
 | .scalar w=>decide (((kindOf w).getD (0,0,false)).1=4)&& !((kindOf w).getD (0,0,false)).2.2
 |_=>false
def cP(h:Hd):Bool:=match h.k,h.cnt with
 | .bytes,_=>false
 |_,some _=>true
 |_,none=>false
def skH(h:Hd):Sk:=⟨false,h.name,h.ay,cP h,w4K h.k⟩
def skW:Sk:=⟨true,[],.none,false,false⟩
def Its.row:Its→List Sk
 | .nil=>[]
 | .cons h l=>skH h::l.row
 | .when _ _ _ l=>skW::l.row
def called(w:Wd)(s:Sk):Bool:= !s.wh&&s.name==w
def aV(R:List Sk)(w:Wd):Int:=match R.findIdx? (called w)with
 |some k=>(k:Int)
 |none=> -1
def aK:Rl→Bool
 | .check _ _=>true
 |_=>false
def bY:Rl→Bool
 | .count _=>true
 |_=>false
def isNone:Rl→Bool
 | .none=>true
 |_=>false
def bk:Rl→Wd
 | .none=>[]
 | .size f=>f
 | .count f=>f
 | .check f _=>f
def cX:Rl→Wd
 | .check _ l=>l
 |_=>[]
def db(R:List Sk)(r:Rl):Int:=if aK r then aV R (cX r)else aV R (bk r)
def nI(R:List Sk)(k:Int):Bool:=match R[k.toNat]? with
 |some s=>s.many
 |none=>false
def bB(R:List Sk)(i:Nat)(s:Sk):Option Nat:=
 if isNone s.ay then none else
 if aV R (bk s.ay) < 0∨db R s.ay < 0 then some 7 else
 if(bY s.ay&& !nI R (aV R (bk s.ay)))||(aK s.ay&& !s.w4)then some 13 else
 if db R s.ay < aV R (bk s.ay)then some 10 else
 if aV R (bk s.ay)≤(i:Int)∧(i:Int)≤db R s.ay then some 6 else none
def dU(R:List Sk):Nat→List Sk→Option Nat
 |_,[]=>none
 |i,s::l=>match bB R i s with
  |some e=>some e
  |none=>dU R (i+1) l
def eF(R:List Sk)(i k:Nat):Bool:=match R[i]? with
 |some s=>aK s.ay&&decide (aV R (bk s.ay)≤(k:Int))&&decide ((k:Int)≤aV R (cX s.ay))
 |none=>false
def bM(R:List Sk)(k:Nat):Bool:=match R[k]? with
 |some s=>aK s.ay
 |none=>false
def eO(R:List Sk):Nat→Nat→Nat→Bool
 |0,_,_=>false
 |n+1,i,to=>(List.range R.length).any fun k=>eF R i k&&(k==to||(bM R k&&eO R n k to))
def cyc(R:List Sk):Nat→List Sk→Option Nat
 |_,[]=>none
 |i,s::l=>if aK s.ay&&eO R R.length i i then some 11 else cyc R (i+1) l
def dw(R:List Sk):Option Nat:=match dU R 0 R with
 |some e=>some e
 |none=>cyc R 0 R
def asks(seen ns:List Wd):Bool:=ns.all fun n=>seen.contains n
def kT(ts:List Wd):Knd→Bool
 | .struct t=> !ts.contains t
 |_=>false
def single(h:Hd):Bool:=match h.k,h.cnt with
 | .scalar _,none=>true
 |_,_=>false
inductive Res where
 |bad (e:Nat)
 |ok (ns seen:List Wd)
def bD(ts:List Wd):Its→List Wd→List Wd→Res
 | .nil,ns,seen=> .ok ns seen
 | .cons h l,ns,seen=>if ns.contains h.name then .bad 9 else if kT ts h.k then .bad 7 else if asks seen (ee h.cnt)then bD ts l (h.name::ns) (if single h then seen++[h.name]else seen)else .bad 5
 | .when _ c b l,ns,seen=>if asks seen (cf c)then
   match bD ts b ns seen with
   | .bad e=> .bad e
   | .ok ns' _=>match dw b.row with
    |some e=> .bad e
    |none=>bD ts l ns' seen
  else .bad 5
def chk:List Wd→List Ty→Option Nat
 |_,[]=>none
 |ts,t::r=>if ts.contains t.name then some 9 else match bD ts t.items [] []with
  | .bad e=>some e
  | .ok _ _=>match dw t.items.row with
   |some e=>some e
   |none=>chk (t.name::ts) r
variable{f:Wd→Wd}
def lq(f:Wd→Wd):Prop:=∀u w,aP u=true→aP w=true→f u=f w→u=w
theorem Ren.inj(hf:Ren f)(hi:lq f){u w:Wd}(hu:aP u=true):f u=f w↔u=w:=by
 constructor
 ·intro h
  by_cases hw:aP w=true
  ·exact hi u w hu hw h
  ·rw[hf.AN w (by simpa using hw)]at h;rw[← h]at hw;exact absurd (hf.name u hu) hw
 ·rintro rfl;rfl
def Sk.ren(f:Wd→Wd)(s:Sk):Sk:=⟨s.wh,f s.name,nF f s.ay,s.many,s.w4⟩
def rX(s:Sk):Prop:=s.wh=true∨aP s.name=true
theorem zf(hf:Ren f)(hi:lq f){s:Sk}(hs:rX s)(w:Wd):called (f w) (s.ren f)=called w s:=by
 unfold called Sk.ren;rcases hs with h|h
 ·simp only[h,Bool.not_true,Bool.false_and]
 ·congr 1
  rw[Bool.eq_iff_iff,beq_iff_eq,beq_iff_eq];exact hf.inj hi h
theorem iu(hf:Ren f)(hi:lq f){R:List Sk}(hR:∀s∈R,rX s)(w:Wd):aV (R.map (Sk.ren f)) (f w)=aV R w:=by
 unfold aV;have:(R.map (Sk.ren f)).findIdx? (called (f w))=R.findIdx? (called w):=by
  induction R with
  |nil=>rfl
  |cons s R ih=>
   rw[List.map_cons,List.findIdx?_cons,List.findIdx?_cons,zf hf hi (hR s (by simp)),ih (fun t ht=>hR t (by simp[ht]))]
 rw[this]
theorem fh(r:Rl):aK (nF f r)=aK r:=by cases r <;> rfl
theorem wj(r:Rl):bY (nF f r)=bY r:=by cases r <;> rfl
theorem lu(hf:Ren f)(r:Rl):bk (nF f r)=f (bk r):=by
 cases r with
 |none=>exact(hf.AN [] (by decide)).symm
 |_=>rfl
theorem sN(hf:Ren f)(r:Rl):cX (nF f r)=f (cX r):=by
 cases r with
 |check=>rfl
 |_=>exact(hf.AN [] (by decide)).symm
theorem zg(r:Rl):isNone (nF f r)=isNone r:=by cases r <;> rfl
theorem CG(hf:Ren f)(hi:lq f){R:List Sk}(hR:∀s∈R,rX s)(r:Rl):db (R.map (Sk.ren f)) (nF f r)=db R r:=by
 unfold db;rw[fh,sN hf,lu hf,iu hf hi hR,iu hf hi hR]
theorem zh(R:List Sk)(k:Int):nI (R.map (Sk.ren f)) k=nI R k:=by
 unfold nI;rw[List.getElem?_map];cases R[k.toNat]? <;> rfl
theorem CH(hf:Ren f)(hi:lq f){R:List Sk}(hR:∀s∈R,rX s)(i:Nat)(s:Sk):bB (R.map (Sk.ren f)) i (s.ren f)=bB R i s:=by
 unfold bB;have e1:(s.ren f).ay=nF f s.ay:=rfl;have e2:(s.ren f).w4=s.w4:=rfl;rw[e1,e2,CG hf hi hR,lu hf,iu hf hi hR,fh,wj,zh,zg]
theorem qg(hf:Ren f)(hi:lq f){R:List Sk}(hR:∀s∈R,rX s):∀(l:List Sk) (i:Nat),dU (R.map (Sk.ren f)) i (l.map (Sk.ren f))=dU R i l
 |[],i=>rfl
 |s::l,i=>by
  rw[List.map_cons];unfold dU;rw[CH hf hi hR,qg hf hi hR l]
theorem CI(hf:Ren f)(hi:lq f){R:List Sk}(hR:∀s∈R,rX s)(i k:Nat):eF (R.map (Sk.ren f)) i k=eF R i k:=by
 unfold eF;rw[List.getElem?_map];cases R[i]? with
 |none=>rfl
 |some s=>
  have e1:(s.ren f).ay=nF f s.ay:=rfl;simp only[Option.map_some,e1];rw[fh,sN hf,lu hf,iu hf hi hR,iu hf hi hR]
theorem wk(R:List Sk)(k:Nat):bM (R.map (Sk.ren f)) k=bM R k:=by
 unfold bM;rw[List.getElem?_map];cases R[k]? with
 |none=>rfl
 |some s=>exact fh s.ay
theorem qh(hf:Ren f)(hi:lq f){R:List Sk}(hR:∀s∈R,rX s):∀n i to,eO (R.map (Sk.ren f)) n i to=eO R n i to
 |0,i,to=>rfl
 |n+1,i,to=>by
  unfold eO;rw[List.length_map]
  congr 1
  funext k
  rw[CI hf hi hR,wk,qh hf hi hR n]
theorem AS(hf:Ren f)(hi:lq f){R:List Sk}(hR:∀s∈R,rX s):∀(l:List Sk) (i:Nat),cyc (R.map (Sk.ren f)) i (l.map (Sk.ren f))=cyc R i l
 |[],i=>rfl
 |s::l,i=>by
  rw[List.map_cons];unfold cyc;have e1:(s.ren f).ay=nF f s.ay:=rfl;rw[e1,fh,List.length_map,qh hf hi hR,AS hf hi hR l]
theorem qi(hf:Ren f)(hi:lq f){R:List Sk}(hR:∀s∈R,rX s):dw (R.map (Sk.ren f))=dw R:=by
 unfold dw;rw[qg hf hi hR,AS hf hi hR]
theorem pg(hf:Ren f)(hi:lq f){l:List Wd}(hl:∀w∈l,aP w=true)(n:Wd):(l.map f).contains (f n)=l.contains n:=by
 rw[Bool.eq_iff_iff,List.contains_iff_mem,List.contains_iff_mem,List.mem_map];constructor
 ·rintro⟨a,h1,h2⟩;rw[← (hf.inj hi (hl a h1)).1 h2];exact h1
 ·intro h;exact⟨n,h,rfl⟩
theorem wm(hf:Ren f)(hi:lq f){seen:List Wd}(hl:∀w∈seen,aP w=true)(ns:List Wd):asks (seen.map f) (ns.map f)=asks seen ns:=by
 unfold asks;rw[List.all_map]
 congr 1
 funext n
 exact pg hf hi hl n
theorem iO:∀{x y:X},Cw f x y→cf y=(cf x).map f
 | .num _ _,.num _ _,_=>rfl
 | .name _ s,.name _ t,h=>by rw[show t=f s from h];rfl
 | .bin _ _ l r,.bin _ _ l' r',h=>by
  obtain⟨_,h1,h2⟩:=h;show cf l'++cf r'=_;rw[iO h1,iO h2];show _=(cf l++cf r).map f;rw[List.map_append]
 | .num _ _,.name _ _,h=>h.elim
 | .num _ _,.bin _ _ _ _,h=>h.elim
 | .name _ _,.num _ _,h=>h.elim
 | .name _ _,.bin _ _ _ _,h=>h.elim
 | .bin _ _ _ _,.num _ _,h=>h.elim
 | .bin _ _ _ _,.name _ _,h=>h.elim
theorem zi{x y:Option X}(h:Ju f x y):ee y=(ee x).map f:=by
 cases x with
 |none=>
  cases y with
  |none=>rfl
  |some b=>exact h.elim
 |some a=>
  cases y with
  |none=>exact h.elim
  |some b=>exact iO h
theorem sO{x y:Option X}(h:Ju f x y):y.isSome=x.isSome:=by
 cases x <;> cases y <;> first|rfl|exact h.elim
theorem ma(h:Hd):cP h=(match h.k with| .bytes=>false|_=>h.cnt.isSome):=by
 unfold cP;cases h.k <;> cases h.cnt <;> rfl
theorem eQ(h:Hd):single h=(match h.k with| .scalar _=> !h.cnt.isSome|_=>false):=by
 unfold single;cases h.k <;> cases h.cnt <;> rfl
theorem Hp{a b:Hd}(h:Kn f a b):skH b=(skH a).ren f:=by
 obtain⟨h1,h2,h3,h4⟩:=h;unfold skH Sk.ren;simp only[];rw[ma,ma,h1,h2,h4,sO h3];cases a.k <;> rfl
theorem AT(hf:Ren f){l m:Its}(h:rW f l m):m.row=l.row.map (Sk.ren f):=by
 induction h with
 |nil=>rfl
 |cons hh _ ih=>
  show skH _::_=_;rw[Hp hh,ih];rfl
 |when _ _ _ _ ih=>
  show skW::_=_;rw[ih];show _=skW.ren f::_
  congr 1
  unfold Sk.ren skW;simp only[nF];rw[hf.AN [] (by decide)]
theorem ux:∀{l:Its},bG l→∀s∈l.row,rX s
 | .nil,_,s,hs=>by cases hs
 | .cons h l,hf,s,hs=>by
  rcases List.mem_cons.1 hs with rfl|hs
  ·exact .inr hf.1.2.1.2
  ·exact ux hf.2 s hs
 | .when _ _ _ l,hf,s,hs=>by
  rcases List.mem_cons.1 hs with rfl|hs
  ·exact .inl rfl
  ·exact ux hf.2.2 s hs
theorem CJ(hf:Ren f)(hi:lq f){ts:List Wd}(hl:∀w∈ts,aP w=true)(k:Knd):kT (ts.map f) (Jv f k)=kT ts k:=by
 cases k with
 |struct t=>show(!_)=(!_);rw[pg hf hi hl]
 |_=>rfl
def Res.ren(f:Wd→Wd):Res→Res
 | .bad e=> .bad e
 | .ok ns seen=> .ok (ns.map f) (seen.map f)
theorem iP{ts:List Wd}:∀{l:Its} {ns seen ns' seen':List Wd},bG l→(∀w∈ns,aP w=true)→(∀w∈seen,aP w=true)→bD ts l ns seen= .ok ns' seen'→(∀w∈ns',aP w=true)∧(∀w∈seen',aP w=true)
 | .nil,ns,seen,ns',seen',_,h1,h2,h=>by
  unfold bD at h;cases h;exact⟨h1,h2⟩
 | .cons a l,ns,seen,ns',seen',hf,h1,h2,h=>by
  unfold bD at h;split at h
  ·cases h
  ·split at h
   ·cases h
   ·split at h
    ·refine iP hf.2 ?_ ?_ h
     ·intro w hw;rcases List.mem_cons.1 hw with rfl|hw
      ·exact hf.1.2.1.2
      ·exact h1 w hw
     ·intro w hw;split at hw
      ·rcases List.mem_append.1 hw with hw|hw
       ·exact h2 w hw
       ·rw[List.mem_singleton]at hw;rw[hw];exact hf.1.2.1.2
      ·exact h2 w hw
    ·cases h
 | .when _ c b l,ns,seen,ns',seen',hf,h1,h2,h=>by
  unfold bD at h;split at h
  ·cases hb:bD ts b ns seen with
   |bad e=>rw[hb]at h;cases h
   |ok n2 s2=>
    rw[hb]at h;simp only[]at h;have hn2:=(iP hf.2.1 h1 h2 hb).1;split at h
    ·cases h
    ·exact iP hf.2.2 hn2 h2 h
  ·cases h
theorem Fb(hf:Ren f)(hi:lq f){ts:List Wd}(hts:∀w∈ts,aP w=true){l m:Its}(h:rW f l m):bG l→∀ns seen:List Wd,(∀w∈ns,aP w=true)→(∀w∈seen,aP w=true)→bD (ts.map f) m (ns.map f) (seen.map f)=(bD ts l ns seen).ren f:=by
 induction h with
 |nil=>intro _ ns seen _ _;rfl
 |@cons a b l m hh _ ih=>
  intro hF ns seen h1 h2;obtain⟨g1,g2,g3,g4⟩:=hh;unfold bD;rw[g1,g2,pg hf hi h1,CJ hf hi hts,zi g3,wm hf hi h2];split
  ·rfl
  ·split
   ·rfl
   ·split
    ·have e1:single b=single a:=by rw[eQ,eQ,g1,sO g3];cases a.k <;> rfl
     have e2:(if single b then seen.map f++[f a.name]else seen.map f)=(if single a then seen++[a.name]else seen).map f:=by
      rw[e1];split <;> simp
     rw[e2];refine ih hF.2 (a.name::ns) _ ?_ ?_
     ·intro w hw;rcases List.mem_cons.1 hw with rfl|hw
      ·exact hF.1.2.1.2
      ·exact h1 w hw
     ·intro w hw;split at hw
      ·rcases List.mem_append.1 hw with hw|hw
       ·exact h2 w hw
       ·rw[List.mem_singleton]at hw;rw[hw];exact hF.1.2.1.2
      ·exact h2 w hw
    ·rfl
 |@when a a' c c' b b' l m hx hb hl ih1 ih2=>
  intro hF ns seen h1 h2;unfold bD;rw[iO hx,wm hf hi h2,ih1 hF.2.1 ns seen h1 h2,AT hf hb,qi hf hi (ux hF.2.1)];split
  ·cases hbr:bD ts b ns seen with
   |bad e=>rfl
   |ok n2 s2=>
    simp only[Res.ren];split
    ·rfl
    ·exact ih2 hF.2.2 n2 seen (iP hF.2.1 h1 h2 hbr).1 h2
  ·rfl
theorem Hq(hf:Ren f)(hi:lq f){l m:List Ty}(h:vY f l m):(∀t∈l,bg t)→∀ts:List Wd,(∀w∈ts,aP w=true)→chk (ts.map f) m=chk ts l:=by
 induction h with
 |nil=>intro _ ts _;rfl
 |@cons a b l m hh _ ih=>
  intro hF ts hts;obtain⟨g1,g2⟩:=hh;have hFa:=hF a (by simp);unfold chk;have hc:=Fb hf hi hts g2 hFa.2 [] [] (fun w hw=>by cases hw) (fun w hw=>by cases hw);simp only[List.map_nil]at hc;rw[g1,pg hf hi hts,hc,AT hf g2,qi hf hi (ux hFa.2)];split
  ·rfl
  ·cases bD ts a.items [] []with
   |bad e=>rfl
   |ok n2 s2=>
    simp only[Res.ren];split
    ·rfl
    ·refine ih (fun t ht=>hF t (by simp[ht])) (a.name::ts) ?_;intro w hw;rcases List.mem_cons.1 hw with rfl|hw
     ·exact hFa.1.2
     ·exact hts w hw
theorem me{x y:X}(h:gI x y):Cw id x y:=by
 induction h with
 |num=>exact rfl
 |name=>exact rfl
 |bin a b op _ _ ih1 ih2=>exact⟨rfl,ih1,ih2⟩
theorem Hr(k:Knd):Jv id k=k:=by cases k <;> rfl
theorem Hs(r:Rl):nF id r=r:=by cases r <;> rfl
theorem uy{l m:Its}(h:eC l m):rW id l m:=by
 induction h with
 |nil=>exact .nil
 |cons hh _ ih=>
  refine .cons ⟨by rw[Hr];exact hh.1.symm,hh.2.1.symm,?_,by rw[Hs];exact hh.2.2.2.symm⟩ ih;have:=hh.2.2.1
  revert this
  cases Hd.cnt _ <;> cases Hd.cnt _ <;> intro h
  ·trivial
  ·exact h.elim
  ·exact h.elim
  ·exact me h
 |when h1 _ _ ih1 ih2=>exact .when (me h1) ih1 ih2
theorem rY{l m:List Ty}(h:cy l m):vY id l m:=by
 induction h with
 |nil=>exact .nil
 |cons hh _ ih=>exact .cons ⟨hh.1.symm,uy hh.2⟩ ih
theorem wo{l m:List Ty}(h:cy l m)(hF:∀t∈l,bg t):chk [] m=chk [] l:=Hq Jw (fun u w _ _ h=>h) (rY h) hF [] (fun w hw=>by cases hw)
def Fit:Nat→Nat→Its→Prop
 |_,_,.nil=>True
 |d,n,.cons _ l=>n < 16∧Fit d (n+1) l
 |d,n,.when _ _ b l=>n < 16∧d+1≤8∧Fit (d+1) 0 b∧Fit d (n+1) l
theorem HdP.make{E:Nat}{h:Hd}(hf:ju h){S R:List Tok}(hS:S.map Prod.fst=ptH h):∃h',jh h h'∧HdP E (S++R) h' R:=by
 obtain⟨t,S1,rfl,ht,hS1⟩:=fJ hS;obtain⟨n,S2,rfl,hn,hS2⟩:=fJ hS1;obtain⟨c',s',h1,h2,h3⟩:=Cv (E:=E) hf (R:=R) hS2;have hk:nE t h.k:=by
  obtain⟨at_,k,name,cnt,ay⟩:=h;simp only[]at ht⊢;cases k with
  |scalar w=>rw[show w=t.1 from ht.symm];exact .scalar (by rw[ht];exact hf.1)
  |bytes=>exact .bytes ht
  |struct w=>rw[show w=t.1 from ht.symm];exact .struct (by rw[ht];exact hf.1.2)
 have hnm:aP n.1=true:=by rw[hn];exact hf.2.1.2
 exact⟨⟨t.2,h.k,n.1,c',h.ay⟩,⟨rfl,hn.symm,h1,rfl⟩,.mk hk hnm h2 h3⟩
theorem Blk.make{E:Nat}:∀{l:Its} {d n:Nat},Fit d n l→bG l→∀S R:List Tok,S.map Prod.fst=ptI l++[[125]]→∃l',eC l l'∧Blk E d n (S++R) l' R
 | .nil,d,n,_,_,S,R,hS=>by
  obtain⟨t,S1,rfl,ht,hS1⟩:=fJ hS;obtain rfl:=List.map_eq_nil_iff.1 hS1;exact⟨.nil,.nil,.fin ht⟩
 | .cons a l,d,n,h,hf,S,R,hS=>by
  rw[show ptI (.cons a l)=ptH a++ptI l from rfl,List.append_assoc]at hS;obtain⟨U,V,rfl,hU,hV⟩:=Cu hS;obtain⟨l',g1,g2⟩:=Blk.make (E:=E) h.2 hf.2 V R hV;obtain⟨a',g3,g4⟩:=HdP.make (E:=E) hf.1 (R:=V++R) hU;exact⟨.cons a' l',.cons g3 g1,by rw[List.append_assoc];exact .item h.1 g4 g2⟩
 | .when a c body l,d,n,h,hf,S,R,hS=>by
  rw[show ptI (.when a c body l)=dD::(ptX c++[123]::(ptI body++[125]::ptI l))from rfl]at hS;obtain⟨u,S1,rfl,hu,hS1⟩:=fJ (a:=dD) (l:=ptX c++([123]::(ptI body++[125]::(ptI l++[[125]])))) (by rw[hS];simp);obtain⟨P,Q,rfl,hP,hQ⟩:=Cu hS1;obtain⟨o,Q1,rfl,ho,hQ1⟩:=fJ hQ;obtain⟨B,C,rfl,hB,hC⟩:=Cu (a:=ptI body++[[125]]) (b:=ptI l++[[125]]) (by rw[hQ1];simp);obtain⟨l',g1,g2⟩:=Blk.make (E:=E) h.2.2.2 hf.2.2 C R hC;obtain⟨b',g3,g4⟩:=Blk.make (E:=E) h.2.2.1 hf.2.1 B (C++R) hB;obtain⟨c',g5,g6⟩:=eK.back (E:=E) hf.1 hP (R:=o::(B++(C++R))) (sM o _ (by rw[ho];decide));refine⟨.when u.2 c' b' l',.when g5 g3 g1,?_⟩;have e:(u::(P++o::(B++C)))++R=u::(P++o::(B++(C++R))):=by simp
  rw[e];exact .when h.1 hu g6 ho h.2.1 g4 g2
theorem Tys.make{E:Nat}:∀{l:List Ty} {n:Nat},n+l.length≤8→(∀t∈l,bg t∧Fit 1 0 t.items)→∀S:List Tok,S.map Prod.fst=EM l→∃l',cy l l'∧Tys E n S l'
 |[],n,_,_,S,hS=>by
  obtain rfl:=List.map_eq_nil_iff.1 hS;exact⟨[],.nil,.fin⟩
 |t::r,n,hn,hf,S,hS=>by
  obtain⟨hft,hfit⟩:=hf _ (List.mem_cons_self ..);rw[Z6]at hn;obtain⟨u,S1,rfl,hu,hS1⟩:=fJ (a:=cS) (l:=t.name::[123]::((ptI t.items++[[125]])++EM r)) (by rw[hS];show ptT _++EM r=_;unfold ptT;simp);obtain⟨v,S2,rfl,hv,hS2⟩:=fJ hS1;obtain⟨o,S3,rfl,ho,hS3⟩:=fJ hS2;obtain⟨U,V,rfl,hU,hV⟩:=Cu hS3;obtain⟨r',g1,g2⟩:=Tys.make (E:=E) (n:=n+1) (by omega) (fun t ht=>hf t (List.mem_cons_of_mem _ ht)) V hV;obtain⟨l',g3,g4⟩:=Blk.make (E:=E) hfit hft.2 U V hU;exact⟨⟨v.1,v.2,l'⟩::r',.cons ⟨hv.symm,g3⟩ g1,.one (by omega) hu (by rw[hv];exact hft.1.2) ho g4 g2⟩
end Tm
end
section
open Go.RowKit
def plc(k n o:Nat):Nat:=if o=1 then n - 1 - k else k
def byteOf(n k:Nat):Nat:=n / 256 ^ k % 256
def fM(n wd o k j:Nat):Nat:=if plc j wd o < k then byteOf n (plc j wd o)else 0
def putRow(n wd o k:Nat):List Value:=(List.range wd).map fun j=> .int .u8 ((fM n wd o k j:Nat):Int)
def mf(n wd o:Nat):List UInt8:=(List.range wd).map fun j=>UInt8.ofNat (byteOf n (plc j wd o))
theorem nJ{k n o:Nat}(h:k < n):plc k n o < n:=by unfold plc;split <;> omega
theorem ph{k n o:Nat}(h:k < n):plc (plc k n o) n o=k:=by unfold plc;split <;> omega
theorem rZ(n wd o k:Nat):(putRow n wd o k).length=wd:=by simp[putRow]
theorem wA(n wd o:Nat):putRow n wd o 0=List.replicate wd (.int .u8 0):=by
 apply List.ext_getElem
 ·simp[putRow]
 ·intro i h1 h2;simp[putRow,fM]
theorem wC(n wd o k:Nat)(h:k < wd):(putRow n wd o k).set (plc k wd o) (.int .u8 ((byteOf n k:Nat):Int))=putRow n wd o (k+1):=by
 apply List.ext_getElem
 ·simp[putRow]
 ·intro i h1 h2;have hi:i < wd:=by simpa[putRow]using h2
  rw[List.getElem_set]
  by_cases e:plc k wd o=i
  ·subst e;simp[putRow,fM,ph h]
  ·rw[if_neg e];have:plc i wd o≠k:=fun e'=>e (by rw[← e',ph hi])
   simp only[putRow,fM,List.getElem_map,List.getElem_range]
   congr 2
   by_cases h':plc i wd o < k
   ·rw[if_pos h',if_pos (by omega)]
   ·rw[if_neg h',if_neg (by omega)]
theorem Fc(k:Nat):(2:Int) ^ (8 * k)=((256 ^ k:Nat):Int):=by
 rw[Int.pow_mul];simp
theorem zj(n k:Nat):((n:Int) / 2 ^ (8 * k)) % 256=((byteOf n k:Nat):Int):=by
 unfold byteOf;rw[Fc];simp
theorem oE(n wd o:Nat):(mf n wd o).length=wd:=by simp[mf]
theorem wD(n wd o j:Nat)(h:j < wd):fM n wd o wd j=byteOf n (plc j wd o):=by
 unfold fM;rw[if_pos (nJ h)]
theorem wE(n wd o:Nat):strOfNums ((List.range wd).map fun j=>((fM n wd o wd j:Nat):Int))=aa (mf n wd o):=by
 rw[lR]
 congr 1
 rw[List.map_map];apply List.map_congr_left;intro j hj;have hj':j < wd:=by simpa using hj
 simp[wD n wd o j hj']
def fN(l:List UInt8)(a wd o:Nat):Nat→Nat
 |0=>0
 |k+1=>fN l a wd o k+(l.getD (a+plc k wd o) 0).toNat * 256 ^ k
theorem iQ(l:List UInt8)(a wd o k:Nat):fN l a wd o k < 256 ^ k:=by
 induction k with
 |zero=>simp[fN]
 |succ k ih=>
  have hb:=(l.getD (a+plc k wd o) 0).toNat_lt;have:(l.getD (a+plc k wd o) 0).toNat * 256 ^ k≤255 * 256 ^ k:=Nat.mul_le_mul_right _ (by omega);simp only[fN,Nat.pow_succ];omega
theorem kh{k:Nat}(h:k≤8):256 ^ k≤18446744073709551616:=by
 have:=Nat.pow_le_pow_right (n:=256) (by decide) h;simpa using this
theorem Ht(g b k:Nat)(hg:g < 256 ^ k)(hb:b < 256)(hk:k < 8):
  bits .or .u64 (g:Int) (IntKind.u64.wrap ((b:Int) * 2 ^ (8 * k)))=((g+b * 256 ^ k:Nat):Int):=by
 have h1:b * 256 ^ k < 256 ^ (k+1):=by
  rw[Nat.pow_succ,Nat.mul_comm];exact Nat.mul_lt_mul_of_pos_left hb (Nat.pow_pos (by decide))
 have h2:=kh (show k+1≤8 by omega);have h3:=kh (show k≤8 by omega);have h4:IntKind.u64.wrap ((b:Int) * 2 ^ (8 * k))=((b * 256 ^ k:Nat):Int):=by
  rw[Fc,← Int.natCast_mul];exact IntWalk.u64_in _ ⟨by omega,by omega⟩
 rw[h4,bits_or_u64_nat _ _ (by omega) (by omega),Nat.or_comm];have h5:b * 256 ^ k|||g=b * 256 ^ k+g:=by
  have e:256 ^ k=2 ^ (8 * k):=by rw[Nat.pow_mul]
  apply nat_join (8 * k)
  ·rw[e];simp
  ·rw[← e];exact hg
 rw[h5,Nat.add_comm]
theorem Hu(s:ByteArray)(i:Nat)(h:i < s.size):s[i]=s.data.toList.getD i 0:=by
 have h':i < s.data.toList.length:=by rw[Array.length_toList];exact h
 rw[List.getD_eq_getElem?_getD,Y1 h'];rfl
theorem Fe(s:ByteArray)(a wd o k G:Nat)(hG:fN s.data.toList a wd o k=G)(hg:G < 256 ^ k)(hk:k < 8)(h:a+plc k wd o < s.size):
  bits .or .u64 (G:Int) (IntKind.u64.wrap (IntKind.u64.wrap ((s[a+plc k wd o].toNat:Nat):Int) * 2 ^ (8 * k)))=((fN s.data.toList a wd o (k+1):Nat):Int):=by
 have hb:s[a+plc k wd o].toNat < 256:=UInt8.toNat_lt _;rw[IntWalk.u64_in ((s[a+plc k wd o].toNat:Nat):Int) ⟨by omega,by omega⟩,Ht G _ k hg hb hk,Hu,fN,hG]
def jm(n wd:Nat):Nat:=n % 256 ^ wd
def iv(n wd:Nat):Int:=if jm n wd < 256 ^ wd / 2 then(jm n wd:Int)else(jm n wd:Int) - ((256 ^ wd:Nat):Int)
def fi(n:Int):Nat:=(n % 18446744073709551616).toNat
theorem AU(n:Int):fi n < 18446744073709551616:=by unfold fi;omega
theorem CK(n:Int):((fi n:Nat):Int)=n % 18446744073709551616:=by unfold fi;omega
theorem nK(n:Int):IntKind.u64.wrap n=((fi n:Nat):Int):=by rw[IntKind.wrap_u64,CK]
theorem iR(n wd k:Nat)(h:k < wd):byteOf (n % 256 ^ wd) k=byteOf n k:=by
 unfold byteOf;have e:256 ^ wd=256 ^ k * 256 ^ (wd - k):=by rw[← Nat.pow_add];congr 1;omega
 have e2:256 ^ (wd - k)=256 * 256 ^ (wd - k - 1):=by rw[← Nat.pow_succ'];congr 1;omega
 rw[e,Nat.mod_mul_right_div_self,e2,Nat.mod_mul_right_mod]
theorem Ff(n wd o:Nat):mf (n % 256 ^ wd) wd o=mf n wd o:=by
 unfold mf;apply List.map_congr_left;intro j hj;rw[iR _ _ _ (nJ (by simpa using hj))]
theorem zk(g b k:Nat)(hg:g < 256 ^ k)(j:Nat)(h:j < k):byteOf (g+b * 256 ^ k) j=byteOf g j:=by
 rw[← iR (g+b * 256 ^ k) k j h,Nat.add_mul_mod_self_right,iR _ _ _ h]
theorem zl(g b k:Nat)(hg:g < 256 ^ k)(hb:b < 256):byteOf (g+b * 256 ^ k) k=b:=by
 unfold byteOf;rw[Nat.add_mul_div_right _ _ (Nat.pow_pos (by decide)),Nat.div_eq_of_lt hg];omega
theorem gS(l:List UInt8)(a wd o:Nat):∀m k,k < m→byteOf (fN l a wd o m) k=(l.getD (a+plc k wd o) 0).toNat:=by
 intro m
 induction m with
 |zero=>intro k h;omega
 |succ m ih=>
  intro k h;rw[fN]
  by_cases e:k=m
  ·subst e;exact zl _ _ _ (iQ _ _ _ _ _) (UInt8.toNat_lt _)
  ·rw[zk _ _ _ (iQ _ _ _ _ _) _ (by omega)];exact ih k (by omega)
theorem sP(l:List UInt8)(wd o:Nat)(h:l.length=wd):mf (fN l 0 wd o wd) wd o=l:=by
 apply List.ext_getElem
 ·simp[mf,h]
 ·intro i h1 h2;have hi:i < wd:=by omega
  simp only[mf,List.getElem_map,List.getElem_range];rw[gS _ _ _ _ _ _ (nJ hi),ph hi,Nat.zero_add,List.getD_eq_getElem?_getD,Y1 h2];simp
end
section
namespace Ly
open Ex (X Names ev)
open Tm
inductive Nds where
 |nil
 |cons (name:Wd) (kind at_ size:Nat) (val:Int) (text:Wd) (kids rest:Nds)
structure Nd where
 name:Wd
 kind:Nat
 at_:Nat
 size:Nat
 val:Int
 text:Wd
 kids:Nds
def Nd.put(d:Nd)(r:Nds):Nds:= .cons d.name d.kind d.at_ d.size d.val d.text d.kids r
def Nds.app:Nds→Nds→Nds
 | .nil,m=>m
 | .cons a b c d e f g r,m=> .cons a b c d e f g (r.app m)
def Nds.len:Nds→Nat
 | .nil=>0
 | .cons _ _ _ _ _ _ _ r=>r.len+1
theorem Nds.fe:∀l:Nds,l.app .nil=l
 | .nil=>rfl
 | .cons _ _ _ _ _ _ _ r=>by show Nds.cons _ _ _ _ _ _ _ (r.app .nil)=_;rw[Nds.fe r]
theorem Nds.dM:∀l m k:Nds,(l.app m).app k=l.app (m.app k)
 | .nil,_,_=>rfl
 | .cons _ _ _ _ _ _ _ r,m,k=>by show Nds.cons _ _ _ _ _ _ _ ((r.app m).app k)=Nds.cons _ _ _ _ _ _ _ (r.app (m.app k));rw[Nds.dM r]
structure St where
 at_:Nat
 n:Nat
def nod(st:St):Option St:=if st.n=400 then none else some ⟨st.at_,st.n+1⟩
def tak(s:Wd)(k:Int)(st:St):Option (Wd×St):=if k < 0∨(s.length:Int) - (st.at_:Int) < k then none else some ((s.drop st.at_).take k.toNat,⟨st.at_+k.toNat,st.n⟩)
def bo(w:Wd):Nat:=((kindOf w).getD (0,0,false)).1
def gh(w:Wd):Nat:=((kindOf w).getD (0,0,false)).2.1
def eR(w:Wd):Bool:=((kindOf w).getD (0,0,false)).2.2
def nL(w u:Wd):Int:=if eR w then iv (fN u 0 (bo w) (gh w) (bo w)) (bo w)else((fN u 0 (bo w) (gh w) (bo w):Nat):Int)
def qj(w:Wd)(v:Int):Wd:=mf (fi v) (bo w) (gh w)
def dG(w:Wd)(v:Int):Bool:=if eR w then decide (iv (fi v) (bo w)=v)else decide (0≤v)&&decide (jm (fi v) (bo w)=fi v)
def kNo:Knd→Nat
 | .scalar _=>1
 | .bytes=>2
 | .struct _=>3
def upd(N:Names)(w:Wd)(v:Int):Names:=fun x=>if x=w then some v else N x
abbrev Sub:=Wd→St→Option (Nds×St)
def bL(S:Sub)(s:Wd)(N:Names)(h:Hd)(st:St):Option (Nd×St):=
 (nod st).bind fun st1=>match h.k with
 | .scalar w=>(tak s (bo w:Nat) st1).map fun p=>(⟨h.name,1,st.at_,p.2.at_ - st.at_,nL w p.1,[],.nil⟩,p.2)
 | .bytes=>(h.cnt.bind (ev N)).bind fun k=>(tak s k st1).map fun p=>(⟨h.name,2,st.at_,p.2.at_ - st.at_,0,p.1,.nil⟩,p.2)
 | .struct t=>(S t st1).map fun p=>(⟨h.name,3,st.at_,p.2.at_ - st.at_,0,[],p.1⟩,p.2)
def rep(f:St→Option (Nd×St)):Nat→St→Option (Nds×St)
 |0,st=>some (.nil,st)
 |k+1,st=>(f st).bind fun p=>(rep f k p.2).map fun q=>(p.1.put q.1,q.2)
def iw(S:Sub)(s:Wd)(N:Names)(h:Hd)(st:St):Option (Nd×St):=
 (nod st).bind fun st1=>(h.cnt.bind (ev N)).bind fun k=>if k < 0 then none else(rep (bL S s N h) k.toNat st1).map fun p=>(⟨h.name,9,st.at_,p.2.at_ - st.at_,0,[],p.1⟩,p.2)
def hdR(S:Sub)(s:Wd)(N:Names)(h:Hd)(st:St):Option (Nd×St):=if cP h then iw S s N h st else bL S s N h st
def bO(S:Sub)(s:Wd):Its→Names→St→Option (Nds×Names×St)
 | .nil,N,st=>some (.nil,N,st)
 | .cons h l,N,st=>(hdR S s N h st).bind fun p=>(bO S s l (if single h then upd N h.name p.1.val else N) p.2).map fun q=>(p.1.put q.1,q.2)
 | .when _ c b l,N,st=>(nod st).bind fun st1=>(ev N c).bind fun v=>
   (if v=0 then some (Nds.nil,N,st1)else bO S s b N st1).bind fun p=>
    (bO S s l p.2.1 p.2.2).map fun q=>(Nds.cons [] 4 st.at_ (p.2.2.at_ - st.at_) (if v=0 then 0 else 1) [] p.1 q.1,q.2)
def rdS(s:Wd):List Ty→Sub
 |[],_,_=>none
 |t::r,nm,st=>if t.name=nm then(bO (rdS s r) s t.items (fun _=>none) st).map fun p=>(p.1,p.2.2)else rdS s r nm st
abbrev Wri:=Wd→Nds→Option Wd
def aX(W:Wri)(h:Hd)(d:Nd):Option Wd:=if d.name≠h.name∨d.kind≠kNo h.k then none else match h.k with
 | .scalar w=>if dG w d.val then some (qj w d.val)else none
 | .bytes=>some d.text
 | .struct t=>W t d.kids
def bc(f:Nd→Option Wd):Nds→Option Wd
 | .nil=>some []
 | .cons a b c d e g k r=>(f ⟨a,b,c,d,e,g,k⟩).bind fun u=>(bc f r).map (u++ ·)
def aY(W:Wri)(h:Hd)(d:Nd):Option Wd:=if cP h then(if d.name≠h.name∨d.kind≠9 then none else bc (aX W h) d.kids)else aX W h d
def aF(W:Wri):Its→Nds→Option Wd
 | .nil,.nil=>some []
 | .cons h l,.cons a b c d e g k r=>(aY W h ⟨a,b,c,d,e,g,k⟩).bind fun u=>(aF W l r).map (u++ ·)
 | .when _ _ body l,.cons a b _ _ e _ k r=>if a≠[]∨b≠4 then none else
   (if e=0 then(match k with| .nil=>some []|_=>none)else aF W body k).bind fun u=>(aF W l r).map (u++ ·)
 |_,_=>none
def wrS:List Ty→Wri
 |[],_,_=>none
 |t::r,nm,ks=>if t.name=nm then aF (wrS r) t.items ks else wrS r nm ks
def seg(s:Wd)(i j:Nat):Wd:=(s.drop i).take (j - i)
theorem uz(s:Wd){i j k:Nat}(h1:i≤j)(h2:j≤k):seg s i j++seg s j k=seg s i k:=by
 unfold seg;have e:s.drop j=(s.drop i).drop (j - i):=by rw[List.drop_drop];congr 1;omega
 rw[e,show k - i=(j - i)+(k - j) by omega,List.take_add]
theorem AV(s:Wd)(i:Nat):seg s i i=[]:=by unfold seg;simp
structure Step(s:Wd)(st st':St):Prop where
 le:st.at_≤st'.at_
 len:st'.at_≤s.length
theorem lx{st st1:St}(h:nod st=some st1):st1.at_=st.at_:=by
 unfold nod at h;split at h
 ·cases h
 ·cases h;rfl
theorem uA{s:Wd}{k:Int}{st st2:St}{u:Wd}(h:tak s k st=some (u,st2))(ha:st.at_≤s.length):Step s st st2∧u=seg s st.at_ st2.at_∧u.length=k.toNat:=by
 unfold tak at h;split at h
 ·cases h
 ·rename_i hn
  rw[not_or]at hn;cases h;refine⟨⟨by simp,by simp;omega⟩,?_,?_⟩
  ·unfold seg;simp
  ·rw[List.length_take,List.length_drop];omega
end Ly
end
section
open Go Go.RowKit Go.Maps Go.WideElems Go.ChangeMaps Go.WideMaps
open Rd
namespace Ly
open Tm
structure But(w w':World)(b:Nat)(m:Option Nat):Prop where
 os:w'.os=w.os
 tape:w'.tape=w.tape
 output:w'.output=w.output
 size:w.heap.size≤w'.heap.size
 block:∀k,k < w.heap.size→k≠b→some k≠m→w'.heap[k]? =w.heap[k]?
theorem But.refl(w:World)(b:Nat)(m:Option Nat):But w w b m:=⟨rfl,rfl,rfl,Z5 _,fun _ _ _ _=>rfl⟩
theorem But.trans{w w' w'':World}{b:Nat}{m:Option Nat}(h:But w w' b m)(k:But w' w'' b m):But w w'' b m:=
 ⟨k.os.trans h.os,k.tape.trans h.tape,k.output.trans h.output,Nat.le_trans h.size k.size,fun i hi h1 h2=>(k.block i (Nat.lt_of_lt_of_le hi h.size) h1 h2).trans (h.block i hi h1 h2)⟩
theorem But.aA{w w':World}{b:Nat}{m:Option Nat}(h:Below w.heap.size w w'):But w w' b m:=⟨h.os,h.tape,h.output,h.size,fun k hk _ _=>h.block k hk⟩
theorem But.wG{w w':World}{b:Nat}{m:Option Nat}(h:w.grownBy w' (some b)):But w w' b m:=⟨h.os,h.tape,h.output,h.size,fun k hk h1 _=>h.block k hk (fun e=>by injection e with e;exact h1 e)⟩
theorem But.setCell{w:World}{b:Nat}{m:Option Nat}(o:Nat)(u:Value):But w (w.setCell ⟨b,o,none⟩ u) b m:=
 ⟨rfl,rfl,rfl,by simp[World.setCell],fun k _ h _=>Below.heap_setCell _ _ _ _ h⟩
theorem But.drew{w w':World}{b:Nat}{m:Option Nat}(h:But w w' b m):But w w'.drew b m:=⟨h.os,h.tape,h.output,h.size,h.block⟩
theorem But.fresh{w w':World}{b g:Nat}{m:Option Nat}(h:But w w' b (some g))(hg:w.heap.size≤g):But w w' b m:=⟨h.os,h.tape,h.output,h.size,fun k hk h1 _=>h.block k hk h1 (fun e=>by injection e with e;omega)⟩
theorem But.wide{w w':World}{b:Nat}{m:Option Nat}(h:But w w' b none):But w w' b m:=⟨h.os,h.tape,h.output,h.size,fun k hk h1 _=>h.block k hk h1 (fun e=>by cases e)⟩
theorem But.below{B b:Nat}{m:Option Nat}{w0 w w':World}(h:Below B w0 w)(k:But w w' b m)(hB:B≤w.heap.size)(hb:B≤b)(hm:∀x,m=some x→B≤x):Below B w0 w':=
 h.trans ⟨k.os,k.tape,k.output,k.size,fun i hi=>k.block i (by omega) (by omega) (fun e=>by have:=hm i e.symm;omega)⟩
def ab(name:Wd)(kind at_ size:Nat)(val:Int)(text:Wd)(sv:Value):List Value:=
 [.string (aa name),.int .i64 (kind:Nat),.int .i64 (at_:Nat),.int .i64 (size:Nat),.int .i64 val,.string (aa text),sv]
def aB(a:Option Addr):List Nat:=match a with
 |none=>[]
 |some x=>[x.block]
theorem gj{a:Option Addr}{g:Nat}(h:g∈aB a):∃x,a=some x∧g=x.block:=by
 cases a with
 |none=>cases h
 |some x=>exact⟨x,rfl,by simpa[aB]using h⟩
def aU(w:World)(B:Nat):Nds→List Nat→List Value→Prop
 | .nil,bl,vs=>vs=[]∧bl=[]
 | .cons nm kd a sz v tx ks r,bl,vs=>∃ga cap bs us b1 b2,bl=aB ga++(b1++b2)∧ak w B 28 7 ga ks.len cap bs∧aU w B ks b1 bs∧vs=ab nm kd a sz v tx (.slice ga ks.len cap)++us∧aU w B r b2 us
theorem aU.an{w w':World}{B:Nat}:∀(l:Nds) (bl:List Nat) (vs:List Value),(∀b∈bl,w'.heap[b]? =w.heap[b]?)→aU w B l bl vs→aU w' B l bl vs
 | .nil,_,vs,_,e=>e
 | .cons nm kd a sz v tx ks r,bl,vs,h,e=>by
  obtain⟨ga,cap,bs,us,b1,b2,rfl,h1,h3,h4,h5⟩:=e;exact⟨ga,cap,bs,us,b1,b2,rfl,h1.an fun x hx=>h _ (by subst hx;simp[aB]),aU.an ks b1 bs (fun b hb=>h b (by simp[hb])) h3,h4,aU.an r b2 us (fun b hb=>h b (by simp[hb])) h5⟩
theorem aU.low{w:World}{B B':Nat}(hb:B'≤B):∀(l:Nds) (bl:List Nat) (vs:List Value),aU w B l bl vs→aU w B' l bl vs
 | .nil,_,vs,e=>e
 | .cons nm kd a sz v tx ks r,bl,vs,e=>by
  obtain⟨ga,cap,bs,us,b1,b2,h0,h1,h3,h4,h5⟩:=e;exact⟨ga,cap,bs,us,b1,b2,h0,h1.mono hb,aU.low hb ks b1 bs h3,h4,aU.low hb r b2 us h5⟩
theorem aU.len{w:World}{B:Nat}:∀(l:Nds) (bl:List Nat) (vs:List Value),aU w B l bl vs→vs.length=l.len * 7
 | .nil,_,vs,e=>by rw[e.1];rfl
 | .cons nm kd a sz v tx ks r,bl,vs,e=>by
  obtain⟨ga,cap,bs,us,b1,b2,h0,h1,h3,rfl,h5⟩:=e;rw[Z7,aU.len r b2 us h5,Nds.len];show 7+r.len * 7=_;omega
theorem aU.mem{w:World}{B:Nat}:∀(l:Nds) (bl:List Nat) (vs:List Value),aU w B l bl vs→∀b∈bl,B≤b∧b < w.heap.size
 | .nil,bl,vs,e,b,hb=>by rw[e.2]at hb;cases hb
 | .cons nm kd a sz v tx ks r,bl,vs,e,b,hb=>by
  obtain⟨ga,cap,bs,us,b1,b2,rfl,h1,h3,rfl,h5⟩:=e;rcases List.mem_append.1 hb with h|h
  ·obtain⟨x,rfl,rfl⟩:=gj h;exact h1.lt
  ·rcases List.mem_append.1 h with h|h
   ·exact aU.mem ks b1 bs h3 b h
   ·exact aU.mem r b2 us h5 b h
theorem aU.app{w:World}{B:Nat}{m:Nds}{bm:List Nat}{us:List Value}(hm:aU w B m bm us):∀(l:Nds) (bl:List Nat) (vs:List Value),aU w B l bl vs→aU w B (l.app m) (bl++bm) (vs++us)
 | .nil,bl,vs,e=>by rw[e.1,e.2];exact hm
 | .cons nm kd a sz v tx ks r,bl,vs,e=>by
  obtain⟨ga,cap,bs,ys,b1,b2,rfl,h1,h3,rfl,h5⟩:=e;exact⟨ga,cap,bs,ys++us,b1,b2++bm,by simp only[List.append_assoc],h1,h3,by rw[List.append_assoc],aU.app hm r b2 ys h5⟩
theorem Nds.bZ:∀l m:Nds,(l.app m).len=l.len+m.len
 | .nil,m=>by show m.len=0+m.len;omega
 | .cons _ _ _ _ _ _ _ r,m=>by show(r.app m).len+1=r.len+1+m.len;rw[Nds.bZ r m];omega
def NdV(w:World)(B:Nat)(bl:List Nat)(d:Nd)(v:Value):Prop:=∃ga cap bs b1,v= .agg (ab d.name d.kind d.at_ d.size d.val d.text (.slice ga d.kids.len cap)).toArray∧bl=aB ga++b1∧ak w B 28 7 ga d.kids.len cap bs∧aU w B d.kids b1 bs
structure aM(w:World)(B:Nat)(ks:Nds)(ga:Option Addr)(cap:Nat)(bl:List Nat)(vs:List Value):Prop where
 own:ak w B 28 7 ga ks.len cap vs
 enc:aU w B ks bl vs
 nodup:(aB ga++bl).Nodup
theorem aM.nil(w:World)(B:Nat):aM w B .nil none 0 [] []:=⟨ak.nil _ _ _ _,⟨rfl,rfl⟩,by simp[aB]⟩
theorem aM.mem{w:World}{B:Nat}{ks:Nds}{ga:Option Addr}{cap:Nat}{bl:List Nat}{vs:List Value}(h:aM w B ks ga cap bl vs):∀b∈aB ga++bl,B≤b∧b < w.heap.size:=by
 intro b hb;rcases List.mem_append.1 hb with h1|h1
 ·obtain⟨x,rfl,rfl⟩:=gj h1;exact h.own.lt
 ·exact h.enc.mem _ _ _ b h1
theorem aM.an{w w':World}{B:Nat}{ks:Nds}{ga:Option Addr}{cap:Nat}{bl:List Nat}{vs:List Value}(h:aM w B ks ga cap bl vs)(hk:∀b,B≤b→b < w.heap.size→w'.heap[b]? =w.heap[b]?):aM w' B ks ga cap bl vs:=
 ⟨h.own.an fun x hx=>by have ho:=h.own;subst hx;exact hk _ ho.lt.1 ho.lt.2,h.enc.an _ _ _ (fun b hb=>by have:=h.enc.mem _ _ _ b hb;exact hk b this.1 this.2),h.nodup⟩
theorem aM.low{w:World}{B B':Nat}{ks:Nds}{ga:Option Addr}{cap:Nat}{bl:List Nat}{vs:List Value}(h:aM w B ks ga cap bl vs)(hb:B'≤B):aM w B' ks ga cap bl vs:=⟨h.own.mono hb,h.enc.low hb _ _ _,h.nodup⟩
theorem aM.nd{w:World}{B:Nat}{ks:Nds}{ga:Option Addr}{cap:Nat}{bl:List Nat}{vs:List Value}(h:aM w B ks ga cap bl vs)(nm:Wd)(kd a sz:Nat)(v:Int)(tx:Wd):
  NdV w B (aB ga++bl) ⟨nm,kd,a,sz,v,tx,ks⟩ (.agg (ab nm kd a sz v tx (.slice ga ks.len cap)).toArray):=⟨ga,cap,vs,bl,rfl,rfl,h.own,h.enc⟩
theorem NdV.leaf(w:World)(B:Nat)(nm:Wd)(kd a sz:Nat)(v:Int)(tx:Wd):NdV w B [] ⟨nm,kd,a,sz,v,tx,.nil⟩ (.agg (ab nm kd a sz v tx (.slice none 0 0)).toArray):=(aM.nil w B).nd nm kd a sz v tx
theorem NdV.mem{w:World}{B:Nat}{bl:List Nat}{d:Nd}{v:Value}(h:NdV w B bl d v):∀b∈bl,B≤b∧b < w.heap.size:=by
 obtain⟨ga,cap,bs,b1,_,rfl,h1,h2⟩:=h;intro b hb;rcases List.mem_append.1 hb with h3|h3
 ·obtain⟨x,rfl,rfl⟩:=gj h3;exact h1.lt
 ·exact h2.mem _ _ _ b h3
theorem NdV.an{w w':World}{B:Nat}{bl:List Nat}{d:Nd}{v:Value}(h:NdV w B bl d v)(hk:∀b∈bl,w'.heap[b]? =w.heap[b]?):NdV w' B bl d v:=by
 obtain⟨ga,cap,bs,b1,e,rfl,h1,h2⟩:=h;exact⟨ga,cap,bs,b1,e,rfl,h1.an fun x hx=>hk _ (by subst hx;simp[aB]),h2.an _ _ _ (fun b hb=>hk b (by simp[hb]))⟩
theorem NdV.low{w:World}{B B':Nat}{bl:List Nat}{d:Nd}{v:Value}(h:NdV w B bl d v)(hb:B'≤B):NdV w B' bl d v:=by
 obtain⟨ga,cap,bs,b1,e,e2,h1,h2⟩:=h;exact⟨ga,cap,bs,b1,e,e2,h1.mono hb,h2.low hb _ _ _⟩
theorem NdV.cells{w:World}{B:Nat}{bl:List Nat}{d:Nd}{v:Value}(h:NdV w B bl d v):∃ga cap,v= .agg #[.string (aa d.name),.int .i64 (d.kind:Nat),.int .i64 (d.at_:Nat),.int .i64 (d.size:Nat),.int .i64 d.val,.string (aa d.text),.slice ga d.kids.len cap]:=by
 obtain⟨ga,cap,bs,b1,e,_⟩:=h;exact⟨ga,cap,e⟩
theorem aM.push{w w1 w2:World}{B:Nat}{ks:Nds}{ga ga':Option Addr}{cap cap':Nat}{bl b1:List Nat}{vs cs:List Value}{d:Nd}(h:aM w B ks ga cap bl vs)(hk:∀b,B≤b→b < w.heap.size→w1.heap[b]? =w.heap[b]?)
  (hd:NdV w1 w.heap.size b1 d (.agg cs.toArray))(hn:b1.Nodup)(hB:B≤w.heap.size)(hs:w.heap.size≤w1.heap.size)(ho:ak w2 B 28 7 ga' (ks.len+1) cap' (vs++cs))(hg:w1.grownBy w2 (blk ga))(hl:∀x,ga'=some x→ga=some x∨w1.heap.size < x.block):
  aM w2 B (ks.app (d.put .nil)) ga' cap' (bl++b1) (vs++cs):=by
 have hmem:=h.mem;have hmd:=hd.mem;have hkw:∀b,b < w1.heap.size→b∉aB ga→w2.heap[b]? =w1.heap[b]? :=fun b hb hne=>hg.block b hb (fun e=>by
  cases ha:ga with
  |none=>rw[ha]at e;simp[blk]at e
  |some x=>rw[ha]at e;simp only[blk,Option.map_some]at e;injection e with e;exact hne (by rw[ha,e];simp[aB]))
 have hnd:=List.nodup_append.1 h.nodup;refine⟨by rw[Nds.bZ];exact ho,?_,?_⟩
 ·refine aU.app (m:=d.put .nil) ?_ ks bl vs ?_
  ·obtain⟨g2,c2,bs,b2,e,rfl,e1,e2⟩:=hd;have hcs:cs=ab d.name d.kind d.at_ d.size d.val d.text (.slice g2 d.kids.len c2):=by
    have:=congrArg Value.cells e;simp only[Value.cells]at this;have h4:=congrArg Array.toList this;simpa using h4
   have hfar:∀b∈aB g2++b2,w2.heap[b]? =w1.heap[b]? :=fun b hb=>hkw b (hmd b hb).2 (fun hm=>by
    have h1:=hmem b (List.mem_append_left _ hm);have h2:=hmd b hb;omega)
   refine⟨g2,c2,bs,[],b2,[],by simp,(e1.an fun x hx=>hfar _ (by subst hx;simp[aB])).mono hB,(e2.an _ _ _ fun b hb=>hfar b (by simp[hb])).low hB _ _ _,by rw[List.append_nil];exact hcs,rfl,rfl⟩
  ·exact(h.enc.an _ _ _ fun b hb=>hk b (h.enc.mem _ _ _ b hb).1 (h.enc.mem _ _ _ b hb).2).an _ _ _ fun b hb=>hkw b (by have:=h.enc.mem _ _ _ b hb;omega) (fun hm=>hnd.2.2 b hm b hb rfl)
 ·rw[List.nodup_append];refine⟨by cases ga' <;> simp[aB],?_,?_⟩
  ·rw[List.nodup_append];exact⟨hnd.2.1,hn,fun a ha b hb e=>by subst e;have h1:=hmem a (List.mem_append_right _ ha);have h2:=hmd a hb;omega⟩
  ·intro a ha b hb e;subst e;obtain⟨x,hx,rfl⟩:=gj ha;rcases List.mem_append.1 hb with hb|hb
   ·rcases hl x hx with h1|h1
    ·exact hnd.2.2 x.block (by rw[h1];simp[aB]) x.block hb rfl
    ·have:=hmem _ (List.mem_append_right _ hb);omega
   ·rcases hl x hx with h1|h1
    ·have h2:=hmem x.block (by rw[h1];simp[aB]);have h3:=hmd _ hb;omega
    ·have:=hmd _ hb;omega
structure LR(w:World)(b:Nat)(F:Value)(s:Wd)(st:St):Prop where
 row:ae w b 0 62 [F,.string (aa s),.int .i64 (st.at_:Nat),.int .i64 (st.n:Nat)]
 len:st.at_≤s.length
 few:st.n≤400
theorem LR.an{w w':World}{b:Nat}{F:Value}{s:Wd}{st:St}(h:LR w b F s st)(hb:w'.heap[b]? =w.heap[b]?):LR w' b F s st:=⟨h.row.of_heap hb,h.len,h.few⟩
def NmM(w:World)(b n:Nat)(N:Ex.Names):Prop:=∃D:DataW Unit,w.ownsMap Tryz.prog 9 (plainElem Tryz.prog 3) b n D∧IsMap D∧∀s,nm D s=N s
theorem NmM.made(w:World):NmM (w.alloc (.map #[] 0)) w.heap.size 0 (fun _=>none):=
 ⟨.map [],World.ownsMap_made _ _ _ _,isMap_empty,fun s=>by unfold nm;split <;> rfl⟩
theorem NmM.an{w w':World}{b n:Nat}{N:Ex.Names}(h:NmM w b n N)(hh:w'.heap[b]? =w.heap[b]?):NmM w' b n N:=by
 obtain⟨D,⟨es,clock,hb,F,h1,h2⟩,h3⟩:=h;exact⟨D,⟨es,clock,hh.trans hb,F,h1,h2⟩,h3⟩
theorem NmM.lt{w:World}{b n:Nat}{N:Ex.Names}(h:NmM w b n N):b < w.heap.size:=by obtain⟨D,h1,_⟩:=h;exact h1.lt
theorem NmM.at_{w:World}{b n:Nat}{N:Ex.Names}(h:NmM w b n N):∃k,lZ w (.map (some b)) N k:=by
 obtain⟨D,h1,_,h3⟩:=h;obtain⟨k,_,hk⟩:=CF h1;rw[show nm D=N from funext h3]at hk;exact⟨k,hk⟩
theorem NmM.store{w:World}{b n:Nat}{N:Ex.Names}(h:NmM w b n N)(hn:n < maxLen)(s:Wd)(hs:s.length≤1000)(v:Int)(hv:Ex.InR v):
  ∃w',(Instr.mapUpdate 103 (.map (some b)) (.string (aa s)) (.int .i64 v)).run Tryz.prog w= .ok () w'∧NmM w' b (n+1) (upd N s v)∧w.grownBy w' (some b):=by
 obtain⟨D,h1,h2,h3⟩:=h;have hwf:(Lit.int .i64 v).wf=true:=by
  have h1:IntKind.i64.min= -9223372036854775808:=rfl;have h2:IntKind.i64.max=9223372036854775807:=rfl;obtain⟨h3,h4⟩:=hv;simp[Lit.wf,h1,h2];omega
 obtain⟨w',hrun,ho,hg⟩:=h1.update (string_keyed Tryz.underlying9) Tryz.underlying103 hn (lp Tryz.underlying9 s (by omega)) (plainElem_int Tryz.underlying3 hwf);refine⟨w',hrun,⟨_,ho,h2.put _ _,fun x=> ?_⟩,hg⟩;unfold upd
 by_cases hx:x=s
 ·subst hx;unfold nm;rw[if_neg (by omega),atKey_put_same h2 (AR x),if_pos rfl]
 ·have hne:(Lit.string x)≠.string s:=fun h=>by injection h with h4;exact hx h4
  rw[if_neg hx,← h3 x];unfold nm;rw[atKey_put_other hne]
end Ly
end
end Go.Proofs.YtlomecfhobehnaaGreatDoor
