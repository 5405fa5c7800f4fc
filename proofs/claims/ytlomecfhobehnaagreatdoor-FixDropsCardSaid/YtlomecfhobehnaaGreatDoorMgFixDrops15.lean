import Derived.Lib.Strings
import Derived.Test.YtlomecfhobehnaaGreatDoorMgFixDrops14
import Derived.Test.YtlomecfhobehnaaGreatDoorMgFixDrops13
set_option linter.all false
set_option maxRecDepth 100000
set_option maxHeartbeats 2000000
namespace Go.Proofs.YtlomecfhobehnaaGreatDoor
open Lib (hid)
section
open Go.RowKit
abbrev IsB(B b:Nat)(l:List UInt8)(w:World):Prop:=Lib.IsBuilder 149 5 B b (Lib.byteCells l) w
theorem Bd.size:(Tryz.prog.info? 149).map (·.size)=some 2:=by kernel_rfl
theorem Bd.KE:liesAt Tryz.prog Tryz.prog.depth 149 (2 / Tryz.prog.cellsOf 149) 0 149 1=true:=by kernel_rfl
theorem Bd.byte:(Tryz.prog.info? 5).map (fun i=>(i.zero,i.size,i.bytes))=some (some (.int .u8 0),1,1):=by kernel_rfl
theorem qu(b:Nat)(w:World)(h0:w.cell? ⟨b,0,none⟩=some (.pointer (some ⟨b,0,none⟩))):
  Calls Tryz.prog 106 #[.pointer (some ⟨b,0,none⟩)] w fun e w'=>e= .returned (.tuple #[])∧w'=w:=by
 obtain⟨j,hj,_⟩:=Option.map_eq_some_iff.1 Bd.size;go_enter Tryz.func106,Tryz.ntmps106
 go_wp2
 rw[Lib.run_neq_ptr_same w _ Tryz.underlying146 hj]
 go_wp2
 go_end0
 exact⟨rfl,rfl⟩
theorem oU(b:Nat)(w:World)(h0:w.cell? ⟨b,0,none⟩=some (.pointer none))(hsh:w.shape? b=some (149,2))(hfz:w.frozen? ⟨b,0,none⟩=false):
  Calls Tryz.prog 106 #[.pointer (some ⟨b,0,none⟩)] w fun e w'=>e= .returned (.tuple #[])∧w'=w.setCell ⟨b,0,none⟩ (.pointer (some ⟨b,0,none⟩)):=by
 obtain⟨j,hj,hjs⟩:=Option.map_eq_some_iff.1 Bd.size;go_enter Tryz.func106,Tryz.ntmps106
 go_wp2
 rw[Lib.run_to_unsafe w ⟨b,0,none⟩ Tryz.underlying146 Tryz.underlying134 hj (by rw[hjs];decide) hsh (Nat.zero_lt_succ 1)];simp only[Result.andThen];rw[Oper.upon_value]
 go_wp2
 rw[run_callFunc_extern Tryz.func128 (by kernel_rfl) (by kernel_rfl) (by kernel_rfl) (e:=Extern.AbiNoEscape.same) (by kernel_rfl)];rw[Lib.run_noEscape];simp only[Result.andThen];rw[Oper.upon_value]
 go_wp2
 rw[Lib.run_from_unsafe w ⟨b,0,none⟩ Tryz.underlying134 Tryz.underlying146 hj hsh Bd.KE];simp only[Result.andThen];rw[Oper.upon_value]
 go_wp2
 go_end0
 exact⟨rfl,rfl⟩
theorem sh(B b:Nat)(bs:List Value)(w:World)(h:Lib.IsBuilder 149 5 B b bs w):
  Calls Tryz.prog 106 #[.pointer (some ⟨b,0,none⟩)] w fun e w'=>e= .returned (.tuple #[])∧(Lib.BuilderAt 149 5 B b (.pointer (some ⟨b,0,none⟩)) bs w'∧Below B w w'∧∀(g off:Nat) (e:TypeId) (xs:List Value),g≠b→ae w g off e xs→ae w' g off e xs):=by
 rcases h with h|h
 ·refine(oU b w h.cell0 h.shape h.frozen0).mono ?_;rintro e w' ⟨rfl,rfl⟩;exact⟨rfl,h.used _,(Y4 B w).setCell (p:=⟨b,0,none⟩) h.1 _,fun g off e xs hg hr=>hr.far hg _⟩
 ·refine(qu b w h.cell0).mono ?_;rintro e w' ⟨rfl,rfl⟩;exact⟨rfl,h,Y4 B _,fun _ _ _ _ _ hr=>hr⟩
theorem byteCells_append(l m:List UInt8):Lib.byteCells l++Lib.strCells (aa m)=Lib.byteCells (l++m):=by
 simp[Lib.byteCells,Lib.strCells,aa]
theorem byteCells_length(l:List UInt8):(Lib.byteCells l).length=l.length:=by simp[Lib.byteCells]
theorem ji(B b:Nat)(l m:List UInt8)(w:World)(h:IsB B b l w)(hlen:l.length+m.length≤140737488355328)(hBw:B≤w.heap.size):
  Calls Tryz.prog 81 #[.pointer (some ⟨b,0,none⟩),.string (aa m)] w fun e w'=>e= .returned (.tuple #[.int .i64 m.length,.nilIface])∧IsB B b (l++m) w'∧Below B w w'∧∀(g off:Nat) (e:TypeId) (xs:List Value),g≠b→e≠5→ae w g off e xs→ae w' g off e xs:=by
 obtain⟨i0,hi,hz0,hz1,hz2⟩:=info_parts Bd.byte;go_enter Tryz.func81,Tryz.ntmps81;go_wp2_with fail;refine(sh B b _ _ h).mono ?_;rintro e w1 ⟨rfl,h1,hb1,hkeep1⟩;have HK1:=hid hkeep1;clear hkeep1;obtain⟨hB,v,hbk,hown,hne⟩:=h1;have c0:w1.cell? ⟨b,0,none⟩=some (.pointer (some ⟨b,0,none⟩)):=by rw[Lib.cell_of_heap hbk];rfl
 have c1:w1.cell? ⟨b,1,none⟩=some v:=by rw[Lib.cell_of_heap hbk];rfl
 have hml:(aa m).size=m.length:=aq m;go_wp2_with (at_builtin;refine Lib.wpList_append_own_string _ rfl _ _ 147 9 rfl B 5 i0 Tryz.underlying147 Tryz.underlying9 hi hz0 hz1 hz2 _ _ _ rfl hown (aa m) rfl ?c3 ?c4 ?c5 ?_)
 case c3=>rw[hml,byteCells_length];unfold maxLen;omega
 case c4=>rw[hml,byteCells_length];omega
 case c5=>have:=hb1.size;omega
 intro v' w2 hown' hgrow _;have hlt:b < w1.heap.size:=by
  rcases Nat.lt_or_ge b w1.heap.size with h'|h'
  ·exact h'
  ·simp[Array.getElem?_eq_none h']at hbk
 have hb2:w2.heap[b]? =some (.cells #[.pointer (some ⟨b,0,none⟩),v] 149 (0,0)):=by
  rw[hgrow.block b hlt (fun e=>hne e.symm)];exact hbk
 have d0:w2.cell? ⟨b,0,none⟩=some (.pointer (some ⟨b,0,none⟩)):=by rw[Lib.cell_of_heap hb2];rfl
 have d1:w2.cell? ⟨b,1,none⟩=some v:=by rw[Lib.cell_of_heap hb2];rfl
 have f1:w2.frozen? ⟨b,1,none⟩=false:=Lib.frozen_of_heap hb2 1;obtain⟨ao,n',cap,rfl⟩:∃ao n' cap,v'= .slice ao n' cap:=by
  rcases hown'.2 with⟨hv,_⟩|⟨g,cap,cur,hv,_⟩
  ·exact⟨_,_,_,hv⟩
  ·exact⟨_,_,_,hv⟩
 go_wp2_with fail;go_ret2;refine⟨rfl,.inr ?_,?_,fun g off e xs hg he hr=> ?_⟩
 ·rw[← byteCells_append];exact Lib.BuilderAt.put (T:=149) (e:=5) hB hb2 (bs':=Lib.byteCells l++Lib.strCells (aa m)) (by simpa[Lib.strCells_length,hml]using hown') (by decide)
 ·exact(hb1.grown hgrow (by have:=hb1.size;omega) (fun k hk=>(hown.lt k hk).1)).setCell (p:=⟨b,1,none⟩) hB _
 ·have hr1:=HK1.out g off e xs hg hr;refine(hr1.of_heap (hgrow.block g hr1.lt fun hh=> ?_)).far hg _;rcases hown.2 with⟨hv,_⟩|⟨g',cap',cur,hv,_,hcur,_⟩
  ·rw[hv]at hh;simp[Value.ownBlock]at hh
  ·rw[hv]at hh;simp[Value.ownBlock]at hh;subst hh;obtain⟨cur2,fz,h2,_⟩:=hr1;rw[hcur]at h2;injection h2 with h2
   injection h2 with h3 h4 h5
   exact he h4.symm
theorem IsB.fresh(w:World):IsB w.heap.size w.heap.size [] (w.alloc (.cells #[.pointer none,.slice none 0 0] 149)):= .inl (by
 have:=Lib.fresh_isBuilder 149 5 w;rcases this with h|h
 ·exact h
 ·have:=h.cell0;simp at this)
theorem IsB.below{B b:Nat}{l:List UInt8}{w w':World}(h:IsB B b l w)(hb:Below w.heap.size w w'):IsB B b l w':=by
 have key:∀p,Lib.BuilderAt 149 5 B b p (Lib.byteCells l) w→Lib.BuilderAt 149 5 B b p (Lib.byteCells l) w':=by
  intro p h;have hlt:=h.lt;obtain⟨hB,v,hbk,hown,hne⟩:=h;refine⟨hB,v,by rw[hb.block b hlt];exact hbk,?_,hne⟩;refine⟨hown.1,?_⟩;rcases hown.2 with h1|⟨g,cp,cur,h1,h2,h3,h4⟩
  ·exact .inl h1
  ·refine .inr ⟨g,cp,cur,h1,h2,?_,h4⟩;have hg:g < w.heap.size:=by
    rcases Nat.lt_or_ge g w.heap.size with h'|h'
    ·exact h'
    ·rw[Array.getElem?_eq_none h']at h3;cases h3
   rw[hb.block g hg];exact h3
 rcases h with h|h
 ·exact .inl (key _ h)
 ·exact .inr (key _ h)
theorem IsB.lt{B b:Nat}{l:List UInt8}{w:World}(h:IsB B b l w):b < w.heap.size:=by
 rcases h with h|h
 ·exact h.lt
 ·exact h.lt
end
section
open Go.RowKit
open Rd
namespace Tm
def Its.drop:Nat→Its→Its
 |0,l=>l
 |_+1,.nil=> .nil
 |n+1,.cons _ l=>l.drop n
 |n+1,.when _ _ _ l=>l.drop n
theorem drop_nil(n:Nat):Its.drop n .nil= .nil:=by cases n <;> rfl
theorem df:∀(l:Its),l.drop l.len= .nil
 | .nil=>rfl
 | .cons _ l=>df l
 | .when _ _ _ l=>df l
theorem cF:∀(l:Its) (i:Nat),i < l.len→(∃h r,l.drop i= .cons h r)∨(∃a c b r,l.drop i= .when a c b r)
 | .nil,i,h=>by simp[Its.len]at h
 | .cons a l,0,h=> .inl ⟨a,l,rfl⟩
 | .cons a l,i+1,h=>cF l i (by simp[Its.len]at h;omega)
 | .when a c b l,0,h=> .inr ⟨a,c,b,l,rfl⟩
 | .when a c b l,i+1,h=>cF l i (by simp[Its.len]at h;omega)
def Its.tail:Its→Its
 | .nil=> .nil
 | .cons _ l=>l
 | .when _ _ _ l=>l
theorem kq:∀(i:Nat) (l:Its),l.drop (i+1)=(l.drop i).tail
 |0,.nil=>rfl
 |0,.cons _ l=>rfl
 |0,.when _ _ _ l=>rfl
 |i+1,.nil=>by rw[drop_nil,drop_nil];rfl
 |i+1,.cons _ l=>kq i l
 |i+1,.when _ _ _ l=>kq i l
theorem mo{α:Type}(a b:List α)(n:Nat):(a++b).drop (a.length+n)=b.drop n:=by
 induction a with
 |nil=>simp
 |cons x a ih=>rw[List.cons_append,Z6,show a.length+1+n=(a.length+n)+1 by omega,List.drop_succ_cons,ih]
theorem bu.at_{w:World}{rb:Nat}:∀(i:Nat) (l:Its) (vs:List Value),bu w rb l vs→∃us,bu w rb (l.drop i) us∧us=vs.drop (i * 13)
 |0,l,vs,h=>⟨vs,h,by simp⟩
 |i+1,.nil,vs,h=>⟨[],by rw[drop_nil];rfl,by rw[show vs=[]from h];simp⟩
 |i+1,.cons a l,vs,h=>by
  obtain⟨cv,us,h1,rfl,h3⟩:=h;obtain⟨ys,g1,g2⟩:=bu.at_ i l us h3;refine⟨ys,g1,?_⟩;rw[g2,show(i+1) * 13=(ag a cv).length+i * 13 by rw[aj];omega,mo]
 |i+1,.when a c b l,vs,h=>by
  obtain⟨cb,ga,cap,bs,us,h1,h2,h3,h4,rfl,h6⟩:=h;obtain⟨ys,g1,g2⟩:=bu.at_ i l us h6;refine⟨ys,g1,?_⟩;rw[g2,show(i+1) * 13=(au a (.pointer (some ⟨cb,0,none⟩)) (.slice ga b.len cap)).length+i * 13 by rw[bh];omega,mo]
theorem wT{w:World}{g i:Nat}{vs cs us:List Value}(h:ae w g 0 70 vs)(hd:vs.drop (i * 13)=cs++us):ae w g (i * 13) 70 cs:=by
 have:=h.part (i * 13) cs.length;rw[hd,Nat.zero_add,List.take_left']at this
 ·exact this
 ·rfl
theorem bu.hd{w:World}{rb B i cap:Nat}{l:Its}{vs:List Value}{x:Addr}{h:Hd}{r:Its}(ho:ak w B 70 13 (some x) l.len cap vs)(he:bu w rb l vs)(hd:l.drop i= .cons h r):
  ∃cv,qf w rb h.cnt cv∧ae w x.block (i * 13) 70 (ag h cv)∧l.drop (i+1)=r:=by
 obtain⟨us,h1,h2⟩:=bu.at_ i l vs he;rw[hd]at h1;obtain⟨cv,ys,g1,g2,g3⟩:=h1;exact⟨cv,g1,wT ho.row.2.2.2.2 (h2.symm.trans g2),by rw[kq,hd];rfl⟩
theorem bu.wh{w:World}{rb B i cap:Nat}{l:Its}{vs:List Value}{x:Addr}{a:Nat}{c:Ex.X}{b r:Its}(ho:ak w B 70 13 (some x) l.len cap vs)(he:bu w rb l vs)(hd:l.drop i= .when a c b r):
  ∃cb ga capb bs,IsX w rb cb c∧ak w (rb+1) 70 13 ga b.len capb bs∧bu w rb b bs∧ae w x.block (i * 13) 70 (au a (.pointer (some ⟨cb,0,none⟩)) (.slice ga b.len capb))∧l.drop (i+1)=r:=by
 obtain⟨us,h1,h2⟩:=bu.at_ i l vs he;rw[hd]at h1;obtain⟨cb,ga,capb,bs,ys,g1,g2,g3,g4,g5,g6⟩:=h1;exact⟨cb,ga,capb,bs,g1,g2,g4,wT ho.row.2.2.2.2 (h2.symm.trans g5),by rw[kq,hd];rfl⟩
theorem dh:∀(i:Nat) (l:Its),bG l→bG (l.drop i)
 |0,l,h=>h
 |i+1,.nil,h=>h
 |i+1,.cons _ l,h=>dh i l h.2
 |i+1,.when _ _ _ l,h=>dh i l h.2.2
def Its.sz:Its→Nat
 | .nil=>0
 | .cons _ l=>l.sz+1
 | .when _ _ b l=>b.sz+l.sz+1
theorem gT:∀(i:Nat) (l:Its),(l.drop i).sz≤l.sz
 |0,l=>Z5 _
 |i+1,.nil=>Z5 _
 |i+1,.cons _ l=>by have:=gT i l;simp only[Its.drop,Its.sz];omega
 |i+1,.when _ _ _ l=>by have:=gT i l;simp only[Its.drop,Its.sz];omega
end Tm
structure ib(V w:World)(txt:Tm.Wd):Prop where
 bel:Below V.heap.size V w
 bd:IsB V.heap.size V.heap.size txt w
theorem ib.up{V w w':World}{txt:Tm.Wd}(h:ib V w txt)(hb:Below w.heap.size w w'):ib V w' txt:=⟨h.bel.trans (hb.mono h.bel.size),h.bd.below hb⟩
theorem ib.row{V w:World}{txt:Tm.Wd}(h:ib V w txt){g off:Nat}{e:TypeId}{xs:List Value}(hr:ae V g off e xs):ae w g off e xs:=hr.below h.bel hr.lt
theorem aC(V w:World)(txt:Tm.Wd)(X:ByteArray)(h:ib V w txt)(hlen:txt.length+X.size≤140737488355328):
  Calls Tryz.prog 81 #[.pointer (some ⟨V.heap.size,0,none⟩),.string X] w fun e w'=>(∃n:Nat,e= .returned (.tuple #[.int .i64 (n:Nat),.nilIface]))∧ib V w' (txt++X.data.toList):=by
 have:=ji V.heap.size V.heap.size txt X.data.toList w h.bd (by rw[show X.data.toList.length=X.size from Array.length_toList];exact hlen) h.bel.size;refine Calls.mono this ?_;rintro e w' ⟨rfl,h1,h2,_⟩;exact⟨⟨_,rfl⟩,h.bel.trans h2,h1⟩
structure ItV(V w:World)(rb:Nat)(l:Tm.Its)(ga:Option Addr)(cap:Nat)(bs:List Value):Prop where
 own:ak V (rb+1) 70 13 ga (Tm.Its.len l) cap bs
 enc:Tm.bu V rb l bs
 bel:Below V.heap.size V w
theorem ItV.up{V w w':World}{rb:Nat}{l:Tm.Its}{ga:Option Addr}{cap:Nat}{bs:List Value}(h:ItV V w rb l ga cap bs)(hb:Below w.heap.size w w'):ItV V w' rb l ga cap bs:=⟨h.own,h.enc,h.bel.trans (hb.mono h.bel.size)⟩
namespace Tm
theorem cT(l:Its):l.row.length=l.len:=by
 induction l with
 |nil=>rfl
 |cons h l ih=>simp only[Its.row,Its.len,Z6,ih]
 |when a c b l _ ih=>simp only[Its.row,Its.len,Z6,ih]
theorem qv:∀(i:Nat) (l:Its),(l.drop i).row=l.row.drop i
 |0,l=>by simp[Its.drop]
 |i+1,.nil=>by simp[Its.drop,Its.row]
 |i+1,.cons _ l=>by simp only[Its.drop,Its.row,List.drop_succ_cons];exact qv i l
 |i+1,.when _ _ _ l=>by simp only[Its.drop,Its.row,List.drop_succ_cons];exact qv i l
theorem Bc{l:Its}{i:Nat}{s:Sk}{R:List Sk}(h:(l.drop i).row=s::R):l.row[i]? =some s:=by
 rw[qv]at h;have:=congrArg (fun L=>L[0]?) h;simpa using this
end Tm
abbrev aQ(s:Tm.Sk)(k0 k1 k4 k5:Nat)(s3:ByteArray)(b6:Bool)(p8 a12:Option Addr)(n12 c12:Nat):List Value:=
 [.int .i64 (k0:Nat),.int .i64 (k1:Nat),.string (aa s.name),.string s3,.int .i64 (k4:Nat),.int .i64 (k5:Nat),.bool b6,.bool s.many,.pointer p8,.int .i64 ((av s.ay).1:Nat),.string (aa (Tm.bk s.ay)),.string (aa (Tm.cX s.ay)),.slice a12 n12 c12]
theorem qw(r:Tm.Rl):(av r).2.1=Tm.bk r∧(av r).2.2=Tm.cX r:=by cases r <;> exact⟨rfl,rfl⟩
theorem ItV.cells{V w:World}{rb:Nat}{l:Tm.Its}{x:Addr}{cap:Nat}{bs:List Value}(h:ItV V w rb l (some x) cap bs)(i:Nat)(hi:i < Tm.Its.len l):
  ∃(s:Tm.Sk) (k0 k1 k4 k5:Nat) (s3:ByteArray) (b6:Bool) (p8 a12:Option Addr) (n12 c12:Nat),l.row[i]? =some s∧ae w x.block (i * 13) 70 (aQ s k0 k1 k4 k5 s3 b6 p8 a12 n12 c12)∧(k0=4↔s.wh=true)∧k0≤4∧s.w4=(decide (k4=4)&& !b6):=by
 rcases Tm.cF l i hi with⟨hd,r,hdr⟩|⟨a,c,b,r,hdr⟩
 ·obtain⟨cv,hcv,hrow,hnx⟩:=Tm.bu.hd h.own h.enc hdr;have hrow2:=hrow.below h.bel hrow.lt;obtain⟨p8,hp8⟩:∃p8,cv= .pointer p8:=by
   cases hc:hd.cnt with
   |none=>rw[hc]at hcv;exact⟨none,hcv⟩
   |some x=>rw[hc]at hcv;obtain⟨b,h1,_⟩:=hcv;exact⟨_,h1⟩
  refine⟨Tm.skH hd,Tm.aJ hd.k,hd.at_,(Tm.bA hd.k).1,(Tm.bA hd.k).2.1,aa (Tm.bw hd.k),(Tm.bA hd.k).2.2,p8,none,0,0,Tm.Bc (by rw[hdr];rfl),?_,?_,?_,?_⟩
  ·obtain⟨e1,e2⟩:=qw hd.ay;have e3:Tm.ba hd=Tm.cP hd:=rfl;unfold Tm.ag at hrow2;rw[e1,e2,e3,hp8]at hrow2;exact hrow2
  ·constructor
   ·intro e;cases hk:hd.k <;> rw[hk]at e <;> simp[Tm.aJ]at e
   ·intro e;cases e
  ·cases hd.k <;> simp[Tm.aJ]
  ·show Tm.w4K hd.k=_;unfold Tm.w4K Tm.bA;cases hd.k <;> rfl
 ·obtain⟨cb,ga,capb,bb,_,_,_,hrow,hnx⟩:=Tm.bu.wh h.own h.enc hdr;have hrow2:=hrow.below h.bel hrow.lt;exact⟨Tm.skW,4,a,0,0,aa [],false,some ⟨cb,0,none⟩,ga,Tm.Its.len b,capb,Tm.Bc (by rw[hdr];rfl),hrow2,⟨fun _=>rfl,fun _=>rfl⟩,Z5 _,rfl⟩
theorem CU(s:Tm.Sk)(k0 k1 k4 k5:Nat)(s3:ByteArray)(b6:Bool)(p8 a12:Option Addr)(n12 c12 sb:Nat)(nm:Tm.Wd)(w:World)(hk:k0=4↔s.wh=true)(hk4:k0≤4)(hb:ae w sb 0 9 [.string (aa nm)]):
  Calls Tryz.prog 140 #[.agg (aQ s k0 k1 k4 k5 s3 b6 p8 a12 n12 c12).toArray,.pointer (some ⟨sb,0,none⟩)] w fun e w'=>e= .returned (.bool (Tm.called nm s))∧Below w.heap.size w w':=by
 have hrow:=ae.new w 70 (aQ s k0 k1 k4 k5 s3 b6 p8 a12 n12 c12).toArray;have hbb:=(Y4 w.heap.size w).alloc (Z5 _) (.cells (aQ s k0 k1 k4 k5 s3 b6 p8 a12 n12 c12).toArray 70);have hb2:=hb.below hbb hb.lt;have c0:=hrow.cell0 0 (by simp);have c2:=hrow.cell0 2 (by simp);have d0:=hb2.cell0 0 (by simp);simp only[aQ,Z0,Z1]at c0 c2 d0;have HB:=hid hbb;have HK:=hid hk;clear hrow hbb hb2 hb hk;unfold Tm.called
 by_cases h4:k0=4
 ·have hw:=HK.out.1 h4;have q1:((k0:Int)==4)=true:=by rw[beq_iff_eq];omega
  have q2:((k0:Int)!=4)=false:=by rw[bne,q1];rfl
  have q3:(k0==4)=true:=by rw[beq_iff_eq];exact h4
  have q4:(k0 !=4)=false:=by rw[bne,q3];rfl
  have HW:=hid hw;clear h4 hw;go_enter Tryz.func140,Tryz.ntmps140;go_wp2_with fail;go_ret;refine⟨?_,HB.out⟩;rw[HW.out];rfl
 ·have hw:s.wh=false:=by
   cases h:s.wh with
   |false=>rfl
   |true=>exact absurd (HK.out.2 h) h4
  have q1:((k0:Int)==4)=false:=by rw[Z8];omega
  have q2:((k0:Int)!=4)=true:=by rw[bne,q1];rfl
  have q3:(k0==4)=false:=by rw[Z8];exact h4
  have q4:(k0 !=4)=true:=by rw[bne,q3];rfl
  have HW:=hid hw;clear h4 hw;go_enter Tryz.func140,Tryz.ntmps140;go_wp2_with fail;go_ret;refine⟨?_,HB.out⟩;rw[HW.out];rfl
namespace Tm
theorem qx{R:List Sk}{nm:Wd}{k:Nat}{s:Sk}(h1:(R.take k).findIdx? (called nm)=none)(h2:R[k]? =some s)(h3:called nm s=true):R.findIdx? (called nm)=some k:=by
 have hk:k < R.length:=by
  rcases Nat.lt_or_ge k R.length with h|h
  ·exact h
  ·rw[List.getElem?_eq_none h]at h2;cases h2
 have e:R=R.take k++s::R.drop (k+1):=by
  conv=>lhs;rw[← List.take_append_drop k R]
  congr 1
  rw[List.drop_eq_getElem_cons hk];rw[Y1 hk]at h2;injection h2 with h2
  rw[h2]
 rw[e,List.findIdx?_append,h1,List.findIdx?_cons,h3];simp[List.length_take];omega
theorem mq{R:List Sk}{nm:Wd}{k:Nat}{s:Sk}(h1:(R.take k).findIdx? (called nm)=none)(h2:R[k]? =some s)(h3:called nm s=false):(R.take (k+1)).findIdx? (called nm)=none:=by
 rw[List.take_add_one,h2,List.findIdx?_append,h1];simp[List.findIdx?_cons,h3]
theorem jA(R:List Sk)(nm:Wd):-1≤aV R nm∧aV R nm < R.length:=by
 unfold aV;cases h:R.findIdx? (called nm)with
 |none=>simp only[];omega
 |some k=>
  have:=(List.findIdx?_eq_some_iff_getElem.1 h).1;simp only[];omega
end Tm
theorem JH(V:World)(rb cap sb n:Nat)(l:Tm.Its)(ga:Option Addr)(bs:List Value)(nm:Tm.Wd)(w:World)(hn:n=Tm.Its.len l)(hn2:n≤100000)(h:ItV V w rb l ga cap bs)(hb:ae w sb 0 9 [.string (aa nm)]):
  Calls Tryz.prog 120 #[.slice ga n cap,.func (.func 140) #[] #[.pointer (some ⟨sb,0,none⟩)]] w fun e w'=>e= .returned (.int .i64 (Tm.aV l.row nm))∧Below w.heap.size w w':=by
 have hcap:n≤cap:=by rw[hn];exact aW h.own
 have HH:=hid h;have HBX:=hid hb;have HN:=hid hn;clear h hb hn;go_enter Tryz.func120,Tryz.ntmps120;go_wp2_with fail;go_loopw [8] (fun v8 wr=>∃k:Nat,v8= .int .i64 k∧k≤n∧Hid ((l.row.take k).findIdx? (Tm.called nm)=none)∧Hid (Below w.heap.size w wr)) (fun v8 _=>n - (intOf v8).toNat)
 case atStart=>exact⟨0,rfl,Nat.zero_le _,hid (by simp),hid (Y4 _ _)⟩
 case round=>
  obtain⟨k,rfl,hk,HQ,HB⟩:=hrel
  by_cases hlt:k < n
  ·have hki:(k:Int) < (n:Int):=by omega
   have q1:decide ((k:Int) < (n:Int))=true:=Z9 hki;have q2:decide (k < n)=true:=Z9 hlt;obtain⟨x,rfl⟩:∃x,ga=some x:=by
    cases ga with
    |none=>have:=HH.out.own.aS.1;rw[← HN.out]at this;omega
    |some x=>exact⟨x,rfl⟩
   obtain⟨gb,rfl⟩:∃gb,x=⟨gb,0,none⟩:=⟨x.block,HH.out.own.row.1⟩;obtain⟨s,k0,k1,k4,k5,s3,b6,p8,a12,n12,c12,hs,hrow,hk0,hk4,hw4⟩:=(HH.out.up HB.out).cells k (by rw[← HN.out];exact hlt);have HF:=hid (CU s k0 k1 k4 k5 s3 b6 p8 a12 n12 c12 sb nm wr hk0 hk4 (HBX.out.below HB.out HBX.out.lt));have HS:=hid hs;have c0:=hrow.cell 0 (by simp);have c1:=hrow.cell 1 (by simp);have c2:=hrow.cell 2 (by simp);have c3:=hrow.cell 3 (by simp);have c4:=hrow.cell 4 (by simp);have c5:=hrow.cell 5 (by simp);have c6:=hrow.cell 6 (by simp);have c7:=hrow.cell 7 (by simp);have c8:=hrow.cell 8 (by simp);have c9:=hrow.cell 9 (by simp);have c10:=hrow.cell 10 (by simp);have c11:=hrow.cell 11 (by simp);have c12:=hrow.cell 12 (by simp);simp only[aQ,Z0,Z1,Y2]at c0 c1 c2 c3 c4 c5 c6 c7 c8 c9 c10 c11 c12;clear hrow hs hk0 hk4 hw4;go_wp2_with fail;refine HF.out.mono ?_;rintro e w2 ⟨rfl,hb2⟩;have HB2:=hid (HB.out.trans (hb2.mono HB.out.size));cases hc:Tm.called nm s with
   |true=>
    have HC:=hid hc;clear hc hb2;go_wp2_with fail;go_ret;refine⟨?_,HB2.out⟩;unfold Tm.aV;rw[Tm.qx HQ.out HS.out HC.out];rfl
   |false=>
    have HC:=hid hc;clear hc hb2;go_wp2_with fail;go_roundw
    case rel=>exact⟨k+1,by go_num,by omega,hid (Tm.mq HQ.out HS.out HC.out),HB2⟩
    case measure=>simp[intOf];omega
  ·obtain rfl:k=n:=by omega
   have hd:decide ((k:Int) < (k:Int))=false:=by simp
   have hd2:decide (k < k)=false:=by simp
   go_wp2_with fail;go_ret;refine⟨?_,HB.out⟩;have:=HQ.out;rw[HN.out,← Tm.cT,List.take_length]at this;unfold Tm.aV;rw[this];rfl
theorem qy(V:World)(rb cap n:Nat)(l:Tm.Its)(ga:Option Addr)(bs:List Value)(nm:Tm.Wd)(w:World)(hn:n=Tm.Its.len l)(hn2:n≤100000)(h:ItV V w rb l ga cap bs):
  Calls Tryz.prog 117 #[.slice ga n cap,.string (aa nm)] w fun e w'=>e= .returned (.int .i64 (Tm.aV l.row nm))∧Below w.heap.size w w':=by
 have hbb:=(Y4 w.heap.size w).alloc (Z5 _) (.cells #[.string (aa nm)] 9);have HI:=hid (JH V rb cap w.heap.size n l ga bs nm _ hn hn2 (h.up hbb) (ae.new w 9 #[.string (aa nm)]));have HB:=hid hbb;clear h hbb hn;go_enter Tryz.func117,Tryz.ntmps117;go_wp2_with fail;refine HI.out.mono ?_;rintro e w2 ⟨rfl,hb2⟩;have HB2:=hid (HB.out.trans (hb2.mono (by simp)));clear hb2;go_wp2_with fail;go_ret;exact⟨rfl,HB2.out⟩
theorem fq(r:Tm.Rl):((av r).1==3)=Tm.aK r∧((((av r).1:Nat):Int)==3)=Tm.aK r∧((av r).1==2)=Tm.bY r∧((((av r).1:Nat):Int)==2)=Tm.bY r∧((av r).1==0)=Tm.isNone r∧((((av r).1:Nat):Int)==0)=Tm.isNone r:=by
 cases r <;> exact⟨rfl,rfl,rfl,rfl,rfl,rfl⟩
theorem wU(V:World)(rb cap n i k:Nat)(l:Tm.Its)(ga:Option Addr)(bs:List Value)(w:World)(hn:n=Tm.Its.len l)(hn2:n≤100000)(h:ItV V w rb l ga cap bs)(hi:i < n):
  Calls Tryz.prog 123 #[.slice ga n cap,.int .i64 (i:Nat),.int .i64 (k:Nat)] w fun e w'=>e= .returned (.bool (Tm.eF l.row i k))∧Below w.heap.size w w':=by
 have hcap:n≤cap:=by rw[hn];exact aW h.own
 obtain⟨x,rfl⟩:∃x,ga=some x:=by
  cases ga with
  |none=>have:=h.own.aS.1;rw[← hn]at this;omega
  |some x=>exact⟨x,rfl⟩
 obtain⟨gb,rfl⟩:∃gb,x=⟨gb,0,none⟩:=⟨x.block,h.own.row.1⟩;obtain⟨s,k0,k1,k4,k5,s3,b6,p8,a12,n12,c12,hs,hrow,hk0,hk4,hw4⟩:=h.cells i (by rw[← hn];exact hi);have e0:Tm.eF l.row i k=(Tm.aK s.ay&&decide (Tm.aV l.row (Tm.bk s.ay)≤(k:Int))&&decide ((k:Int)≤Tm.aV l.row (Tm.cX s.ay))):=by
  unfold Tm.eF;rw[hs]
 rw[e0];have c9:=hrow.cell 9 (by simp);have c10:=hrow.cell 10 (by simp);simp only[aQ,Z0,Z1]at c9 c10;obtain⟨r1,r2,_⟩:=fq s.ay;have HF:=hid (fun W hW nm=>qy V rb cap n l (some ⟨gb,0,none⟩) bs nm W hn hn2 hW);have HV:=hid h;have HROW:=hid hrow;have hii:(i:Int) < (n:Int):=by omega
 obtain⟨fw,hfw⟩:∃fw,fw=Tm.bk s.ay:=⟨_,rfl⟩;obtain⟨lw,hlw⟩:∃lw,lw=Tm.cX s.ay:=⟨_,rfl⟩;rw[← hfw]at c10⊢;rw[← hlw];have HLW:=hid hlw;generalize hch:Tm.aK s.ay=ch at *
 generalize ha:Tm.aV l.row fw=fa at *
 generalize hb:Tm.aV l.row lw=fb at *
 have HA:=hid ha;have HB:=hid hb;clear h hn hk0 hk4 hw4 hs hrow e0 hfw hlw ha hb hch;cases ch with
 |false=>
  go_enter Tryz.func123,Tryz.ntmps123;go_wp2_with fail;go_ret;exact⟨rfl,Y4 _ _⟩
 |true=>
  go_enter Tryz.func123,Tryz.ntmps123;go_wp2_with fail;refine(HF.out w HV.out fw).mono ?_;rintro e w2 ⟨rfl,hb2⟩;rw[HA.out];have HB2:=hid hb2;have c11:=(HROW.out.below hb2 HROW.out.lt).cell 11 (by simp);simp only[aQ,Z0,Z1]at c11;rw[← HLW.out]at c11;clear hb2
  by_cases h1:fa≤(k:Int)
  ·have d1:decide (fa≤(k:Int))=true:=Z9 h1;go_wp2_with fail;refine(HF.out w2 (HV.out.up HB2.out) lw).mono ?_;rintro e w3 ⟨rfl,hb3⟩;rw[HB.out];have HB3:=hid (HB2.out.trans (hb3.mono HB2.out.size));clear hb3;go_wp2_with fail;go_ret;refine⟨?_,HB3.out⟩
   first|rfl|(rw[d1];rfl)|(simp[d1])
  ·have d1:decide (fa≤(k:Int))=false:=Y9 h1;go_wp2_with fail;go_ret;refine⟨?_,HB2.out⟩
   first|rfl|(rw[d1];rfl)|(simp[d1])
def uE(V:World)(rb cap n:Nat)(l:Tm.Its)(ga:Option Addr)(bs:List Value)(st:Nat):Prop:=∀(w:World) (i to:Nat),ItV V w rb l ga cap bs→i < n→to < n→
 Calls Tryz.prog 118 #[.slice ga n cap,.int .i64 (i:Nat),.int .i64 (to:Nat),.int .i64 (st:Nat)] w fun e w'=>e= .returned (.bool (Tm.eO l.row st i to))∧Below w.heap.size w w'
theorem zw(V:World)(rb cap n:Nat)(l:Tm.Its)(ga:Option Addr)(bs:List Value)(hn2:n≤100000):uE V rb cap n l ga bs 0:=by
 intro w i to h hi hto;clear h;go_enter Tryz.func118,Tryz.ntmps118;go_wp2_with fail;go_loopw [12] (fun v12 wr=>∃k:Nat,v12= .int .i64 k∧k≤n∧Hid (Below w.heap.size w wr)) (fun v12 _=>n - (intOf v12).toNat)
 case atStart=>exact⟨0,rfl,Nat.zero_le _,hid (Y4 _ _)⟩
 case round=>
  obtain⟨k,rfl,hk,HB⟩:=hrel
  by_cases hlt:k < n
  ·have hki:(k:Int) < (n:Int):=by omega
   have q1:decide ((k:Int) < (n:Int))=true:=Z9 hki;have q2:decide (k < n)=true:=Z9 hlt;go_wp2_with fail;go_roundw
   case rel=>exact⟨k+1,by go_num,by omega,HB⟩
   case measure=>simp[intOf];omega
  ·obtain rfl:k=n:=by omega
   have hd:decide ((k:Int) < (k:Int))=false:=by simp
   have hd2:decide (k < k)=false:=by simp
   go_wp2_with fail;go_ret;exact⟨rfl,HB.out⟩
theorem qz{p:Nat→Bool}{k:Nat}(h:(List.range k).any p=false)(h2:p k=false):(List.range (k+1)).any p=false:=by
 rw[List.range_succ,List.any_append,h];simp[h2]
theorem td{p:Nat→Bool}{k n:Nat}(hk:k < n)(h2:p k=true):(List.range n).any p=true:=by
 rw[List.any_eq_true];exact⟨k,List.mem_range.2 hk,h2⟩
theorem zx(V:World)(rb cap n:Nat)(l:Tm.Its)(ga:Option Addr)(bs:List Value)(hn:n=Tm.Its.len l)(hn2:n≤100000)(st:Nat)(hst:st≤100000)(ih:uE V rb cap n l ga bs st):uE V rb cap n l ga bs (st+1):=by
 intro w i to h hi hto;have hcap:n≤cap:=by rw[hn];exact aW h.own
 obtain⟨x,rfl⟩:∃x,ga=some x:=by
  cases ga with
  |none=>have:=h.own.aS.1;rw[← hn]at this;omega
  |some x=>exact⟨x,rfl⟩
 obtain⟨gb,rfl⟩:∃gb,x=⟨gb,0,none⟩:=⟨x.block,h.own.row.1⟩;have e0:Tm.eO l.row (st+1) i to=(List.range n).any (fun k=>Tm.eF l.row i k&&(k==to||(Tm.bM l.row k&&Tm.eO l.row st k to))):=by
  rw[hn,← Tm.cT];rfl
 rw[e0];obtain⟨p,hp⟩:∃p:Nat→Bool,p=fun k=>Tm.eF l.row i k&&(k==to||(Tm.bM l.row k&&Tm.eO l.row st k to)):=⟨_,rfl⟩
 rw[← hp];obtain⟨s1,hs1⟩:∃s1,s1=st+1:=⟨_,rfl⟩;rw[← hs1];have hsp:0 < s1:=by omega
 have hsi:(0:Int) < (s1:Int):=by omega
 have q8:decide ((0:Int) < (s1:Int))=true:=Z9 hsi;have q9:decide (0 < s1)=true:=Z9 hsp;have hsub:(s1:Int) - 1=(st:Int):=by omega
 have hwr:IntKind.i64.wrap ((s1:Int) - 1)=(st:Int):=by rw[hsub];rw[IntKind.wrap_i64];omega
 have HO:=hid (fun W hW k=>wU V rb cap n i k l (some ⟨gb,0,none⟩) bs W hn hn2 hW hi);have HV:=hid h;have HIH:=hid ih;have HP:=hid hp;have HN:=hid hn;have HTO:=hid hto;clear h hn e0 hp hs1 ih;go_enter Tryz.func118,Tryz.ntmps118;go_wp2_with fail;go_loopw [12] (fun v12 wr=>∃k:Nat,v12= .int .i64 k∧k≤n∧Hid ((List.range k).any p=false)∧Hid (Below w.heap.size w wr)) (fun v12 _=>n - (intOf v12).toNat)
 case atStart=>exact⟨0,rfl,Nat.zero_le _,hid (by simp),hid (Y4 _ _)⟩
 case round=>
  obtain⟨k,rfl,hk,HQ,HB⟩:=hrel
  by_cases hlt:k < n
  ·have hki:(k:Int) < (n:Int):=by omega
   have q1:decide ((k:Int) < (n:Int))=true:=Z9 hki;have q2:decide (k < n)=true:=Z9 hlt;have HLT:=hid hlt;go_wp2_with fail;refine(HO.out wr (HV.out.up HB.out) k).mono ?_;rintro e w2 ⟨rfl,hb2⟩;have HB2:=hid (HB.out.trans (hb2.mono HB.out.size));clear hb2;cases ho:Tm.eF l.row i k with
   |false=>
    have HPK:=hid (show p k=false by rw[HP.out];simp[ho]);clear ho;go_wp2_with fail;go_roundw
    case rel=>exact⟨k+1,by go_num,by have:=HLT.out;omega,hid (qz HQ.out HPK.out),HB2⟩
    case measure=>simp[intOf];have:=HLT.out;omega
   |true=>
    have HOK:=hid ho;clear ho
    by_cases hkt:k=to
    ·have t1:((k:Int)==(to:Int))=true:=by rw[beq_iff_eq];omega
     have t2:(k==to)=true:=by rw[beq_iff_eq];exact hkt
     have HPK:=hid (show p k=true by rw[HP.out];show(Tm.eF l.row i k&&(k==to||_))=true;rw[HOK.out,t2];rfl);clear hkt;go_wp2_with fail;go_ret;exact⟨by rw[td HLT.out HPK.out];rfl,HB2.out⟩
    ·have t1:((k:Int)==(to:Int))=false:=by rw[Z8];omega
     have t2:(k==to)=false:=by rw[Z8];exact hkt
     obtain⟨s,k0,k1,k4,k5,s3,b6,p8,a12,n12,c12,hs,hrow,hk0,hk4,hw4⟩:=(HV.out.up HB2.out).cells k (by rw[← HN.out];exact hlt);have c9:=hrow.cell 9 (by simp);simp only[aQ,Z0,Z1]at c9;obtain⟨r1,r2,_⟩:=fq s.ay;have hca:Tm.bM l.row k=Tm.aK s.ay:=by unfold Tm.bM;rw[hs]
     have HCA:=hid hca;have HKT:=hid hkt;clear hrow hs hk0 hk4 hw4 hca hkt;generalize Tm.aK s.ay=ch at *
     cases ch with
     |false=>
      have HPK:=hid (show p k=false by rw[HP.out];simp[HOK.out,HKT.out,HCA.out]);go_wp2_with fail;go_roundw
      case rel=>exact⟨k+1,by go_num,by have:=HLT.out;omega,hid (qz HQ.out HPK.out),HB2⟩
      case measure=>simp[intOf];have:=HLT.out;omega
     |true=>
      go_wp2_with fail;refine(HIH.out w2 k to (HV.out.up HB2.out) hlt HTO.out).mono ?_;rintro e w3 ⟨rfl,hb3⟩;have HB3:=hid (HB2.out.trans (hb3.mono HB2.out.size));clear hb3;cases hr:Tm.eO l.row st k to with
      |true=>
       have HPK:=hid (show p k=true by rw[HP.out];simp[HOK.out,HKT.out,HCA.out,hr]);clear hr;go_wp2_with fail;go_ret;exact⟨by rw[td HLT.out HPK.out];rfl,HB3.out⟩
      |false=>
       have HPK:=hid (show p k=false by rw[HP.out];simp[HOK.out,HKT.out,HCA.out,hr]);clear hr;go_wp2_with fail;go_roundw
       case rel=>exact⟨k+1,by go_num,by have:=HLT.out;omega,hid (qz HQ.out HPK.out),HB3⟩
       case measure=>simp[intOf];have:=HLT.out;omega
  ·obtain rfl:k=n:=by omega
   have hd:decide ((k:Int) < (k:Int))=false:=by simp
   have hd2:decide (k < k)=false:=by simp
   go_wp2_with fail;go_ret;exact⟨by rw[HQ.out];rfl,HB.out⟩
theorem te(V:World)(rb cap n:Nat)(l:Tm.Its)(ga:Option Addr)(bs:List Value)(hn:n=Tm.Its.len l)(hn2:n≤100000):∀st,st≤100000→uE V rb cap n l ga bs st
 |0,_=>zw V rb cap n l ga bs hn2
 |st+1,h=>zx V rb cap n l ga bs hn hn2 st (by omega) (te V rb cap n l ga bs hn hn2 st (by omega))
end
end Go.Proofs.YtlomecfhobehnaaGreatDoor
