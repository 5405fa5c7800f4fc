import Derived.WalkLawsBesides
import Derived.WalkSpells
import Derived.BigQuiet
import Derived.StillTailTactics
import Derived.Lib.Hide
import Derived.Laws.AppendOwnNone
import Derived.Test.YtlomecfhobehnaaGreatDoorChecked
set_option linter.all false
set_option maxRecDepth 100000
set_option maxHeartbeats 4000000
namespace Go.Proofs.YtlomecfhobehnaaGreatDoor
open Lib (hid)
theorem Z0{α:Type _}(a:α)(l:List α)(h:0<(a::l).length):(a::l)[0]'h=a:=rfl
theorem Z1{α:Type _}(a:α)(l:List α)(i:Nat)(h:i+1<(a::l).length):(a::l)[i+1]'h=l[i]'(Nat.lt_of_succ_lt_succ h):=rfl
theorem Z2{α:Type _}{x:α}{l:List α}{a:α}:(x::l).set 0 a=a::l:=rfl
theorem Z3{α:Type _}{x:α}{l:List α}{i:Nat}{a:α}:(x::l).set (i+1) a=x::l.set i a:=rfl
theorem Z4{α:Type _}(l:List α)(i:Nat)(a:α):l.toArray.setIfInBounds i a=(l.set i a).toArray:=List.setIfInBounds_toArray l i a
theorem Z5(n:Nat):n≤n:=Nat.le_refl n
theorem Z6{α:Type _}{a:α}{l:List α}:(a::l).length=l.length+1:=rfl
theorem Z7{α:Type _}{a b:List α}:(a++b).length=a.length+b.length:=List.length_append
theorem Z8{α:Type _}[BEq α][LawfulBEq α]{a b:α}:(a==b)=false↔a≠b:=beq_eq_false_iff_ne
theorem Z9{p:Prop}[Decidable p](h:p):decide p=true:=decide_eq_true h
theorem Y9{p:Prop}[Decidable p](h:¬p):decide p=false:=decide_eq_false h
theorem Y1{α:Type _}{l:List α}{i:Nat}(h:i<l.length):l[i]?=some (l[i]'h):=List.getElem?_eq_getElem h
theorem Y2(n:Nat):n+0=n:=rfl
theorem Y3{α:Type _}:([]:List α).length=0:=rfl
theorem Y4(B:Nat)(w:World):RowKit.Below B w w:=RowKit.Below.refl B w
section
open Go.RowKit
def aa(l:List UInt8):ByteArray:=⟨l.toArray⟩
theorem BO(l:List UInt8):(aa l).data.toList=l:=rfl
@[go_sem] theorem gM(l:List UInt8):(aa l).toList=l:=by
 rw[ByteArray.toList_eq];rfl
@[go_sem] theorem aq(l:List UInt8):(aa l).size=l.length:=by simp[aa,ByteArray.size]
theorem jV(s:ByteArray):s=aa s.data.toList:=by cases s;rfl
theorem lR(xs:List Int):strOfNums xs=aa (xs.map fun n=>UInt8.ofNat n.toNat):=rfl
theorem jW{k:IntKind}{a b:Int}(h:a=b):Ending.returned (.int k a)= .returned (.int k b):=by rw[h]
theorem jo{a b:Bool}(h:a=b):Ending.returned (.bool a)= .returned (.bool b):=by rw[h]
theorem oZ{k:IntKind}{a b:Int}(h:a=b):Value.int k a= .int k b:=by rw[h]
theorem fy{B:Nat}{a w:World}(h:Below B a w)(n:Nat):Below B a (w.drewN n):=⟨h.os,h.tape,h.output,h.size,h.block⟩
@[go_sem] theorem gN(a b:List UInt8):aa a++aa b=aa (a++b):=by
 rw[jV (aa a++aa b)]
 congr 1
theorem gO(s:ByteArray):s.data.toList.length=s.size:=by rw[Array.length_toList];rfl
theorem tX{P:Program}{f:FuncId}{args:Array Value}{w:World}{v:Value}(h:Calls P f args w fun e w'=>e= .returned v∧w=w'):
  Calls P f args w fun e w'=>e= .returned v∧w'=w:=h.mono fun _ _ h=>⟨h.1,h.2.symm⟩
def gW(k:IntKind)(w:World)(a:Option Addr)(len cap:Nat)(zs:List Int):Prop:=
 (a=none∧len=0∧cap=0∧zs=[])∨
 ∃x,a=some x∧len≤cap∧cap≤maxLen∧zs.length=cap∧(∀i,i < zs.length→w.cell? (x.add i)=some (.int k (zs.getD i 0)))∧(∀n∈zs,(Lit.int k n).wf=true)∧cap≤140737488351232
theorem Addr.cH(x:Addr)(i:Nat):(x.add i).block=x.block:=by unfold Addr.add;split <;> rfl
theorem gW.cell{k:IntKind}{w:World}{a:Option Addr}{len cap:Nat}{zs:List Int}(h:gW k w a len cap zs)(i:Nat)(hi:i < len):∃x:Addr,a=some x∧x.block < w.heap.size∧w.cell? (x.add i)=some (.int k (zs.getD i 0)):=by
 rcases h with⟨_,h,_⟩|⟨x,h1,h2,h3,h4,h5,h6,h7⟩
 ·omega
 ·have hc:=h5 i (by omega);have:=World.block_lt_of_cell? w _ hc;rw[Addr.cH]at this;exact⟨x,h1,this,hc⟩
theorem gW.len{k:IntKind}{w:World}{a:Option Addr}{len cap:Nat}{zs:List Int}(h:gW k w a len cap zs):len≤cap∧zs.length=cap∧cap≤140737488351232:=by
 rcases h with⟨_,h,h2,h3⟩|⟨x,h1,h2,h3,h4,h5,h6,h7⟩
 ·subst h h2 h3;exact⟨Z5 _,rfl,by decide⟩
 ·exact⟨h2,h4,h7⟩
end
section
namespace Lex
def letter(n:Nat):Bool:=decide (97≤n∧n≤122)||decide (65≤n∧n≤90)||decide (n=95)
def digit(n:Nat):Bool:=decide (48≤n∧n≤57)
def word(c:UInt8):Bool:=letter c.toNat||digit c.toNat
def marks:List (List UInt8):=[[61,61],[33,61],[123],[125],[91],[93],[40],[41],[59],[44],[61],[43],[45],[42],[38],[124],[60],[62]]
def eZ(l:List UInt8):Nat:=match marks.find? fun m=>m.isPrefixOf l with
 |some m=>m.length
 |none=>0
def next(l:List UInt8):Nat:=match l with
 |[]=>0
 |c::_=>if word c then(l.takeWhile word).length else eZ l
theorem nw(c:UInt8)(l:List UInt8):next (c::l)=if word c then((c::l).takeWhile word).length else eZ (c::l):=rfl
def note(l:List UInt8):Nat:=(l.takeWhile fun c=>c !=10).length
def jl:Nat→List UInt8→Nat→Option (List (List UInt8×Nat))
 |0,_,_=>some []
 |_+1,[],_=>some []
 |f+1,c::l,i=>
  if c=32∨c=10∨c=9 then jl f l (i+1)
  else if c=35 then jl f ((c::l).drop (note (c::l))) (i+note (c::l))
  else if next (c::l)=0 then none
  else(jl f ((c::l).drop (next (c::l))) (i+next (c::l))).map fun T=>((c::l).take (next (c::l)),i)::T
theorem jq(l:List UInt8):0 < note (35::l):=by
 unfold note;rw[List.takeWhile_cons,if_pos (by decide)];simp
theorem oC:∀(n:Nat) (l:List UInt8),l.length≤n→∀f i,l.length≤f→jl f l i=jl n l i:=by
 intro n
 induction n with
 |zero=>
  intro l hl f i hf;have:l=[]:=List.eq_nil_of_length_eq_zero (by omega);subst this;cases f <;> rfl
 |succ n ih=>
  intro l hl f i hf;cases l with
  |nil=>cases f <;> rfl
  |cons c l=>
   simp only[Z6]at hl hf;obtain⟨f,rfl⟩:∃g,f=g+1:=⟨f - 1,by omega⟩;unfold jl
   by_cases h1:c=32∨c=10∨c=9
   ·rw[if_pos h1,if_pos h1];exact ih l (by omega) f _ (by omega)
   ·rw[if_neg h1,if_neg h1]
    by_cases h2:c=35
    ·subst h2;rw[if_pos rfl,if_pos rfl];have:=jq l;exact ih _ (by rw[List.length_drop,Z6];omega) f _ (by rw[List.length_drop,Z6];omega)
    ·rw[if_neg h2,if_neg h2]
     by_cases h3:next (c::l)=0
     ·rw[if_pos h3,if_pos h3]
     ·rw[if_neg h3,if_neg h3];rw[ih _ (by rw[List.length_drop,Z6];omega) f _ (by rw[List.length_drop,Z6];omega)]
def cZ(l:List UInt8)(i:Nat):Option (List (List UInt8×Nat)):=jl l.length l i
theorem jr(i:Nat):cZ [] i=some []:=rfl
theorem fX(c:UInt8)(l:List UInt8)(i:Nat)(h:c=32∨c=10∨c=9):cZ (c::l) i=cZ l (i+1):=by
 show jl (l.length+1) (c::l) i=_;unfold jl;rw[if_pos h];rfl
theorem nz(l:List UInt8)(i:Nat):cZ (35::l) i=cZ ((35::l).drop (note (35::l))) (i+note (35::l)):=by
 show jl (l.length+1) (35::l) i=_;unfold jl;rw[if_neg (by decide),if_pos rfl];have:=jq l;exact(oC l.length _ (by rw[List.length_drop,Z6];omega) _ _ (Z5 _)).symm
theorem lS(c:UInt8)(l:List UInt8)(i:Nat)(h1:¬(c=32∨c=10∨c=9))(h2:c≠35)(h3:next (c::l)≠0):
  cZ (c::l) i=(cZ ((c::l).drop (next (c::l))) (i+next (c::l))).map fun T=>((c::l).take (next (c::l)),i)::T:=by
 show jl (l.length+1) (c::l) i=_;rw[jl];rw[if_neg h1,if_neg h2,if_neg h3]
 congr 1
 exact(oC l.length _ (by rw[List.length_drop,Z6];omega) _ _ (Z5 _)).symm
theorem pF(c:UInt8)(l:List UInt8)(i:Nat)(h1:¬(c=32∨c=10∨c=9))(h2:c≠35)(h3:next (c::l)=0):cZ (c::l) i=none:=by
 show jl (l.length+1) (c::l) i=_;rw[jl,if_neg h1,if_neg h2,if_pos h3]
theorem BP{l m:List UInt8}(h:(marks.find? fun m=>m.isPrefixOf l)=some m):m∈marks∧m <+: l:=by
 have h1:=List.mem_of_find?_eq_some h;have h2:=List.find?_some h;exact⟨h1,List.isPrefixOf_iff_prefix.1 h2⟩
theorem vw:∀m∈marks,m≠[]∧m.length≤2:=by decide
theorem yD(l:List UInt8):eZ l≤l.length:=by
 unfold eZ;split
 ·rename_i m h
  obtain⟨_,k,hk⟩:=BP h;rw[← hk,Z7];omega
 ·exact Nat.zero_le _
theorem GM(l:List UInt8):next l≤l.length:=by
 unfold next;split
 ·exact Nat.zero_le _
 ·split
  ·exact List.Sublist.length_le (List.takeWhile_sublist _)
  ·exact yD _
theorem GN(l:List UInt8):note l≤l.length:=List.Sublist.length_le (List.takeWhile_sublist _)
theorem gX(p:UInt8→Bool):∀(l:List UInt8),∀c∈l.takeWhile p,p c=true:=by
 intro l
 induction l with
 |nil=>intro c h;simp at h
 |cons a l ih=>
  intro c h;rw[List.takeWhile_cons]at h;split at h
  ·rw[List.mem_cons]at h;rcases h with rfl|h
   ·assumption
   ·exact ih c h
  ·simp at h
theorem pG(p:UInt8→Bool)(d:UInt8)(rest:List UInt8)(hd:p d=false):∀(x:List UInt8),(∀c∈x,p c=true)→(x++d::rest).takeWhile p=x:=by
 intro x
 induction x with
 |nil=>intro _;rw[List.nil_append,List.takeWhile_cons,if_neg (by rw[hd];decide)]
 |cons a x ih=>
  intro h;rw[List.cons_append,List.takeWhile_cons,if_pos (h a List.mem_cons_self),ih fun c hc=>h c (List.mem_cons_of_mem _ hc)]
theorem pH:∀m∈marks,∀d rest,(d=32∨d=10∨d=9∨d=35)→(marks.find? fun k=>k.isPrefixOf (m++d::rest))=some m:=by
 intro m hm d rest hd;simp only[marks,List.mem_cons,List.not_mem_nil,or_false]at hm;rcases hd with rfl|rfl|rfl|rfl <;> rcases hm with rfl|rfl|rfl|rfl|rfl|rfl|rfl|rfl|rfl|rfl|rfl|rfl|rfl|rfl|rfl|rfl|rfl|rfl <;> rfl
theorem sC:∀m∈marks,∃c l,m=c::l∧word c=false∧¬(c=32∨c=10∨c=9)∧c≠35:=by
 intro m hm;simp only[marks,List.mem_cons,List.not_mem_nil,or_false]at hm;rcases hm with rfl|rfl|rfl|rfl|rfl|rfl|rfl|rfl|rfl|rfl|rfl|rfl|rfl|rfl|rfl|rfl|rfl|rfl <;> exact⟨_,_,rfl,by decide,by decide,by decide⟩
end Lex
end
section
open Go.RowKit
def ae(w:World)(g off:Nat)(e:TypeId)(xs:List Value):Prop:=
 ∃cur fz,w.heap[g]? =some (.cells cur e fz)∧(∀i,i < xs.length→cur[off+i]? =xs[i]?)∧(∀i,i < xs.length→fz.1≤off+i→fz.2≤off+i)
section
variable{w w':World}{g off:Nat}{e:TypeId}{xs:List Value}
theorem ae.lt(h:ae w g off e xs):g < w.heap.size:=by
 obtain⟨cur,fz,h,_⟩:=h;rcases Nat.lt_or_ge g w.heap.size with hlt|hge
 ·exact hlt
 ·rw[Array.getElem?_eq_none hge]at h;cases h
theorem ae.cell?(h:ae w g off e xs)(i:Nat)(hi:i < xs.length):w.cell? ⟨g,off+i,none⟩=xs[i]? :=by
 obtain⟨cur,fz,h,hc,_⟩:=h;rw[cell_of_row w g (off+i) cur e fz h,hc i hi]
theorem ae.cell(h:ae w g off e xs)(i:Nat)(hi:i < xs.length):w.cell? ⟨g,off+i,none⟩=some xs[i]:=by
 rw[h.cell? i hi,Y1 hi]
theorem ae.cell0(h:ae w g 0 e xs)(i:Nat)(hi:i < xs.length):w.cell? ⟨g,i,none⟩=some xs[i]:=by
 have:=h.cell i hi;rwa[Nat.zero_add]at this
theorem ae.frozen(h:ae w g off e xs)(i:Nat)(hi:i < xs.length):w.frozen? ⟨g,off+i,none⟩=false:=by
 obtain⟨cur,fz,h,_,hf⟩:=h;have:=hf i hi;simp only[World.frozen?,h]
 by_cases h1:fz.1≤off+i
 ·simp[h1];exact this h1
 ·simp[h1]
theorem ae.frozen0(h:ae w g 0 e xs)(i:Nat)(hi:i < xs.length):w.frozen? ⟨g,i,none⟩=false:=by
 have:=h.frozen i hi;rwa[Nat.zero_add]at this
theorem ae.of_heap(h:ae w g off e xs)(hh:w'.heap[g]? =w.heap[g]?):ae w' g off e xs:=by
 obtain⟨cur,fz,h,r⟩:=h;exact⟨cur,fz,hh.trans h,r⟩
theorem ae.drew(h:ae w g off e xs):ae w.drew g off e xs:=h
theorem ae.drewN(h:ae w g off e xs)(n:Nat):ae (w.drewN n) g off e xs:=h
theorem ae.alloc(h:ae w g off e xs)(o:Obj):ae (w.alloc o) g off e xs:=h.of_heap (Below.heap_alloc w o g h.lt)
theorem ae.far(h:ae w g off e xs){p:Addr}(hp:g≠p.block)(u:Value):ae (w.setCell p u) g off e xs:=h.of_heap (Below.heap_setCell w p u g hp)
theorem ae.below{B:Nat}(h:ae w g off e xs)(hb:Below B w w')(hg:g < B):ae w' g off e xs:=h.of_heap (hb.block g hg)
theorem ae.set(h:ae w g off e xs)(i:Nat)(hi:i < xs.length)(u:Value):ae (w.setCell ⟨g,off+i,none⟩ u) g off e (xs.set i u):=by
 obtain⟨cur,fz,h,hc,hf⟩:=h;have hlt:off+i < cur.size:=by
  have:=hc i hi;rw[Y1 hi]at this;rcases Nat.lt_or_ge (off+i) cur.size with h1|h1
  ·exact h1
  ·rw[Array.getElem?_eq_none h1]at this;cases this
 refine⟨cur.setIfInBounds (off+i) u,fz,?_,?_,?_⟩
 ·simp[World.setCell,Array.getElem?_modify,h]
 ·intro j hj;rw[List.length_set]at hj;rw[Array.getElem?_setIfInBounds,List.getElem?_set]
  by_cases hij:i=j
  ·subst hij;simp[hlt,hi]
  ·rw[if_neg (by omega),if_neg hij];exact hc j hj
 ·intro j hj;exact hf j (by simpa using hj)
theorem ae.ax(h:ae w g 0 e xs)(i:Nat)(hi:i < xs.length)(u:Value):ae (w.setCell ⟨g,i,none⟩ u) g 0 e (xs.set i u):=by
 have:=h.set i hi u;rwa[Nat.zero_add]at this
theorem ae.new(w:World)(e:TypeId)(cs:Array Value):ae (w.alloc (.cells cs e)) w.heap.size 0 e cs.toList:=
 ⟨cs,(0,0),heap_alloc_new w _,fun i hi=>by rw[Nat.zero_add];simp,fun i _ _=>by simp⟩
theorem ae.part(h:ae w g off e xs)(k n:Nat):ae w g (off+k) e ((xs.drop k).take n):=by
 obtain⟨cur,fz,h,hc,hf⟩:=h;refine⟨cur,fz,h,?_,?_⟩
 ·intro i hi;have hi':i < n∧i < xs.length - k:=by rw[List.length_take,List.length_drop]at hi;omega
  rw[List.getElem?_take,if_pos hi'.1,List.getElem?_drop,Nat.add_assoc];exact hc (k+i) (by omega)
 ·intro i hi;have hi':i < n∧i < xs.length - k:=by rw[List.length_take,List.length_drop]at hi;omega
  have:=hf (k+i) (by omega);rwa[← Nat.add_assoc]at this
end
def BQ(b:UInt8):Value:= .int .u8 ((b.toNat:Nat):Int)
def cU(l:List UInt8):List Value:=l.map BQ
theorem fE(l:List UInt8):(cU l).length=l.length:=by simp[cU]
theorem BR(l:List UInt8)(i:Nat)(h:i < (cU l).length):(cU l)[i]= .int .u8 (((l.getD i 0).toNat:Nat):Int):=by
 have h':i < l.length:=by simpa[cU]using h
 simp[cU,BQ,List.getD_eq_getElem?_getD,Y1 h']
theorem BS(l:List UInt8)(i:Nat)(b:UInt8):(cU l).set i (BQ b)=cU (l.set i b):=by
 simp[cU,List.map_set]
section
variable{P:Program}
theorem ae.byte{w:World}{g off:Nat}{e:TypeId}{l:List UInt8}(h:ae w g off e (cU l))(i:Nat)(hi:i < l.length):
  w.cell? ⟨g,off+i,none⟩=some (.int .u8 (((l.getD i 0).toNat:Nat):Int)):=by
 rw[h.cell i (by simpa[cU]using hi),BR]
theorem ae.Je{w:World}{g:Nat}{e:TypeId}{l:List UInt8}(h:ae w g 0 e (cU l))(i:Nat)(hi:i < l.length):
  w.cell? ⟨g,i,none⟩=some (.int .u8 (((l.getD i 0).toNat:Nat):Int)):=by
 have:=h.byte i hi;rwa[Nat.zero_add]at this
theorem rP{w:World}{g off:Nat}{l:List UInt8}(src e dst:TypeId)(hs:P.underlying src=some (.slice e))(he:P.underlying e=some (.int .u8))(hd:P.underlying dst=some .string)
  (h:ae w g off e (cU l))(n cap:Nat)(hn:n=l.length):
  (convert src dst (.slice (some ⟨g,off,none⟩) n cap)).run P w= .ok (.string (aa l)) w:=by
 have:=run_convert_bytes_arg (P:=P) w src e hs he g off n cap (l.map fun b=>((b.toNat:Nat):Int)) (by simp[hn]) (fun i hi=>by
  rw[h.byte i (by omega)]
  congr 2
  rw[List.getD_eq_getElem?_getD,List.getD_eq_getElem?_getD,List.getElem?_map];have h':i < l.length:=by omega
  simp[Y1 h']) dst hd
 rw[this,lR]
 congr 3
 rw[List.map_map]
 conv=>rhs;rw[← List.map_id l]
 apply List.map_congr_left;intro b _;simp
end
theorem Ji(s:ByteArray)(i:Nat)(h:i < s.size):s[i]=s.data.toList.getD i 0:=by
 have h':i < s.data.toList.length:=by rw[Array.length_toList];exact h
 rw[List.getD_eq_getElem?_getD,Y1 h'];rfl
def ak(w:World)(B:Nat)(e:TypeId)(size:Nat)(a:Option Addr)(n cap:Nat)(xs:List Value):Prop:=w.ownsRow B e size (.slice a n cap) n xs
def blk(a:Option Addr):Option Nat:=a.map Addr.block
theorem bF(a:Option Addr)(n cap:Nat):(Value.slice a n cap).ownBlock=blk a:=by cases a <;> rfl
section
variable{w w':World}{B:Nat}{e:TypeId}{size:Nat}{a:Option Addr}{n cap:Nat}{xs:List Value}
theorem ak.nil(w:World)(B:Nat)(e:TypeId)(size:Nat):ak w B e size none 0 0 []:=World.ownsRow_nil w B e size
theorem ak.len(h:ak w B e size a n cap xs):xs.length=n * size:=h.1
theorem ak.aS(h:ak w B e size none n cap xs):n=0∧cap=0∧xs=[]:=by
 rcases h.2 with⟨h1,h2⟩|⟨g,cp,cur,h1,_⟩
 ·cases h1;exact⟨rfl,rfl,List.eq_nil_of_length_eq_zero (by simpa using h.1)⟩
 ·cases h1
theorem ak.row{x:Addr}(h:ak w B e size (some x) n cap xs):x=⟨x.block,0,none⟩∧B≤x.block∧n≤cap∧cap≤maxLen∧ae w x.block 0 e xs:=by
 rcases h.2 with⟨h1,h2⟩|⟨g,cp,cur,h1,h2,h3,h4,h5,h6,h7⟩
 ·cases h1
 ·cases h1;refine⟨rfl,h2,h4,h5,cur,(0,0),h3,?_,fun i _ _=>by simp⟩;intro i hi;rw[← h7,List.getElem?_take,if_pos (by rw[h.1]at hi;exact hi),Nat.zero_add];simp
theorem ak.lt{x:Addr}(h:ak w B e size (some x) n cap xs):B≤x.block∧x.block < w.heap.size:=⟨h.row.2.1,h.row.2.2.2.2.lt⟩
theorem ak.an(h:ak w B e size a n cap xs)(hh:∀x,a=some x→w'.heap[x.block]? =w.heap[x.block]?):ak w' B e size a n cap xs:=by
 refine⟨h.1,?_⟩;rcases h.2 with h1|⟨g,cp,cur,h1,h2,h3,h4⟩
 ·exact .inl h1
 ·refine .inr ⟨g,cp,cur,h1,h2,?_,h4⟩;cases h1;exact(hh _ rfl).trans h3
theorem ak.grown{row:Option Nat}(h:ak w B e size a n cap xs)(hg:w.grownBy w' row)(hne:∀x,a=some x→some x.block≠row):ak w' B e size a n cap xs:=
 h.an fun x hx=>by subst hx;exact hg.block _ h.lt.2 (hne _ rfl)
theorem ak.below{B':Nat}(h:ak w B e size a n cap xs)(hb:Below B' w w')(hB:w.heap.size≤B'):ak w' B e size a n cap xs:=
 h.an fun x hx=>by subst hx;exact hb.block _ (Nat.lt_of_lt_of_le h.lt.2 hB)
theorem ak.drew(h:ak w B e size a n cap xs):ak w.drew B e size a n cap xs:=h
theorem ak.drewN(h:ak w B e size a n cap xs)(k:Nat):ak (w.drewN k) B e size a n cap xs:=h
theorem ak.alloc(h:ak w B e size a n cap xs)(o:Obj):ak (w.alloc o) B e size a n cap xs:=
 h.an fun x hx=>by subst hx;exact Below.heap_alloc w o _ h.lt.2
theorem ak.far(h:ak w B e size a n cap xs){p:Addr}(hp:∀x,a=some x→x.block≠p.block)(u:Value):ak (w.setCell p u) B e size a n cap xs:=
 h.an fun x hx=>Below.heap_setCell w p u _ (hp x hx)
theorem ak.mono{B':Nat}(h:ak w B e size a n cap xs)(hB:B'≤B):ak w B' e size a n cap xs:=by
 refine⟨h.1,?_⟩;rcases h.2 with h1|⟨g,cp,cur,h1,h2,h3⟩
 ·exact .inl h1
 ·exact .inr ⟨g,cp,cur,h1,Nat.le_trans hB h2,h3⟩
theorem ak.set{g:Nat}(h:ak w B e size (some ⟨g,0,none⟩) n cap xs)(i:Nat)(hi:i < xs.length)(u:Value):ak (w.setCell ⟨g,i,none⟩ u) B e size (some ⟨g,0,none⟩) n cap (xs.set i u):=by
 refine⟨by rw[List.length_set];exact h.1,?_⟩;rcases h.2 with⟨h1,_⟩|⟨g',cp,cur,h1,h2,h3,h4,h5,h6,h7⟩
 ·cases h1
 ·cases h1;refine .inr ⟨g,cap,cur.setIfInBounds i u,rfl,h2,?_,h4,h5,by simpa using h6,?_⟩
  ·simp[World.setCell,Array.getElem?_modify,h3]
  ·rw[← h7,Array.toList_setIfInBounds,List.take_set]
theorem ak.nA(hl:xs.length=n * size)(w:World)(g:Nat)(cur:Array Value)(hB:B≤g)(hg:w.heap[g]? =some (.cells cur e (0,0)))(hc:cur.size=cap * size)(hn:n≤cap)(hm:cap≤maxLen)(ht:cur.toList.take (n * size)=xs):
  ak w B e size (some ⟨g,0,none⟩) n cap xs:=⟨hl,.inr ⟨g,cap,cur,rfl,hB,hg,hn,hm,hc,ht⟩⟩
end
theorem bS{P:Program}(w:World){ops:Array Oper}{rest:List Oper}{o:Oper}{act:Act}{Q:Exit→Act→World→Prop}(hgd:o.guard=none)(s x:Operand)(t:TypeId)
  (ho:o.op= .call {callee:= .builtin .append,args:= #[s,x],argTypes:= #[t,t]})
  (B:Nat)(e:TypeId)(z:Value)(size bytes:Nat)(ht:P.underlying t=some (.slice e))(hinf:(P.info? e).map (fun i=>(i.zero,i.size,i.bytes))=some (some z,size,bytes))(hzs:z.cells.size=size)(hsz:0 < size)
  (a:Option Addr)(n cap:Nat)(xs:List Value)(hs:act.eval s= .slice a n cap)(hown:ak w B e size a n cap xs)
  (news:List Value)(hl:news.length=size)(h1:∀u∈news,u.oneCell'=true)(hx:act.eval x= .slice (some ⟨w.heap.size,0,none⟩) 1 1)
  (h63:n+1≤maxLen)(hbytes:(n+1) * bytes≤140737488355328)(hbase:B≤w.heap.size)
  (h:∀a' cap' w',ak w' B e size a' (n+1) cap' (xs++news)→w.grownBy w' (blk a)→(∀x,a'=some x→a=some x∨w.heap.size < x.block)→w.heap.size < w'.heap.size→
   (∃g,a'=some ⟨g,0,none⟩)→wpList P ops Q rest (act.put o.dst (.slice a' (n+1) cap')) w'):
  wpList P ops Q (o::rest) act (w.alloc (.cells news.toArray e)):=by
 obtain⟨i,hi,hz,hsize,hby⟩:=info_parts hinf;have hlen:news.length=1 * size:=by rw[hl,Nat.one_mul]
 have hnews:∀j u,news[j]? =some u→(w.alloc (.cells news.toArray e)).cell? ((⟨w.heap.size,0,none⟩:Addr).add j)=some u:=by
  intro j u hj;have hadd:(⟨w.heap.size,0,none⟩:Addr).add j=⟨w.heap.size,j,none⟩:=by unfold Addr.add;split <;> simp_all
  rw[hadd,cell_of_row _ _ _ _ _ _ (heap_alloc_new w _)];simpa using hj
 refine wpList_append_own_at (w.alloc (.cells news.toArray e)) hgd s x t ho B e i z size bytes ht hi hz hsize hby hzs hsz (.slice a n cap) n xs hs (hown.alloc _) ⟨w.heap.size,0,none⟩ 1 1 news hx hlen hnews h1 h63 hbytes (by simp;omega) ?_;intro v' w' hown' hgrow hnil hloc;have hsz':w.heap.size < w'.heap.size:=by have:=hgrow.size;simp at this;omega
 have hex:∃g cap',v'= .slice (some ⟨g,0,none⟩) (n+1) cap':=by
  rcases hown'.2 with⟨_,h2⟩|⟨g,cap',cur,h2,_⟩
  ·omega
  ·exact⟨g,cap',h2⟩
 obtain⟨g,cap',hv⟩:=hex;rw[hv]at hown' hloc⊢;refine h (some ⟨g,0,none⟩) cap' w' hown' ?_ ?_ hsz' ⟨g,rfl⟩
 ·rw[bF]at hgrow;exact(World.grownBy_alloc w _ _).trans hgrow
 ·intro y hy;cases hy;rcases hloc with hloc|hloc
  ·left;rw[bF,bF]at hloc;cases ha:a with
   |none=>rw[ha]at hloc;simp[blk]at hloc
   |some y=>
    rw[ha]at hloc;subst ha;have hr:=ak.row hown;simp[blk]at hloc;rw[hr.1,← hloc]
  ·right;rw[bF]at hloc;simp[blk]at hloc;simp[hloc]
def cO(L:List Int):List Value:=L.map (Value.int .i64)
theorem fF(L:List Int):(cO L).length=L.length:=by simp[cO]
theorem sD(L:List Int)(i:Nat)(h:i < (cO L).length):(cO L)[i]= .int .i64 (L.getD i 0):=by
 have h':i < L.length:=by simpa[cO]using h
 simp[cO,List.getD_eq_getElem?_getD,Y1 h']
theorem BT(L:List Int)(i:Nat)(x:Int):(cO L).set i (.int .i64 x)=cO (L.set i x):=by simp[cO,List.map_set]
theorem ae.int{w:World}{g off:Nat}{e:TypeId}{L:List Int}(h:ae w g off e (cO L))(i:Nat)(hi:i < L.length):w.cell? ⟨g,off+i,none⟩=some (.int .i64 (L.getD i 0)):=by
 rw[h.cell i (by simpa[cO]using hi),sD]
theorem ae.Kz{w:World}{g:Nat}{e:TypeId}{L:List Int}(h:ae w g 0 e (cO L))(i:Nat)(hi:i < L.length):w.cell? ⟨g,i,none⟩=some (.int .i64 (L.getD i 0)):=by
 have:=h.int i hi;rwa[Nat.zero_add]at this
theorem ak.int{w:World}{B g:Nat}{e:TypeId}{n cap:Nat}{L:List Int}(h:ak w B e 1 (some ⟨g,0,none⟩) n cap (cO L))(i:Nat)(hi:i < L.length):w.cell? ⟨g,i,none⟩=some (.int .i64 (L.getD i 0)):=h.row.2.2.2.2.Kz i hi
def iH(w:World)(a:Option Addr)(L:List Int):Prop:=L=[]∨∃g off,a=some ⟨g,off,none⟩∧∀i,i < L.length→w.cell? ⟨g,off+i,none⟩=some (.int .i64 (L.getD i 0))
theorem ae.tY{w:World}{g off:Nat}{e:TypeId}{L:List Int}(h:ae w g off e (cO L)):iH w (some ⟨g,off,none⟩) L:=
 .inr ⟨g,off,rfl,fun i hi=>h.int i hi⟩
theorem ak.tY{w:World}{B:Nat}{e:TypeId}{a:Option Addr}{n cap:Nat}{L:List Int}(h:ak w B e 1 a n cap (cO L)):iH w a L:=by
 cases a with
 |none=>
  have:=h.aS.2.2;left;cases L with
  |nil=>rfl
  |cons x L=>simp[cO]at this
 |some x=>
  have hr:=h.row;rw[hr.1];exact hr.2.2.2.2.tY
theorem iH.pos{w:World}{a:Option Addr}{L:List Int}(h:iH w a L)(hp:0 < L.length):∃g off,a=some ⟨g,off,none⟩∧∀i,i < L.length→w.cell? ⟨g,off+i,none⟩=some (.int .i64 (L.getD i 0)):=by
 rcases h with h|h
 ·subst h;simp at hp
 ·exact h
theorem dS(w:World)(r:Option Nat):w.grownBy w r:=⟨rfl,rfl,rfl,Z5 _,fun _ _ _=>rfl⟩
theorem jX{w w':World}{g:Nat}(h:w.grownBy w' (some g)){p:Addr}(hp:p.block=g)(u:Value):w.grownBy (w'.setCell p u) (some g):=
 ⟨h.os,h.tape,h.output,by simpa using h.size,fun k hk hne=>(Below.heap_setCell w' p u k (fun e=>hne (by rw[e,hp]))).trans (h.block k hk hne)⟩
theorem fY{w w':World}{r:Option Nat}(h:w.grownBy w' r):w.grownBy w'.drew r:=⟨h.os,h.tape,h.output,h.size,h.block⟩
theorem vx{w w':World}{r:Option Nat}(h:w.grownBy w' r)(o:Obj):w.grownBy (w'.alloc o) r:=h.trans (World.grownBy_alloc w' o r)
theorem eJ{B B':Nat}{w w1 w2:World}{e:TypeId}{size:Nat}{a:Option Addr}{n cap:Nat}{xs:List Value}(h:Below B w w1)(ho:ak w1 B' e size a n cap xs)(hB:B≤B')(hz:B≤w1.heap.size)(hg:w1.grownBy w2 (blk a)):Below B w w2:=
 h.grown hg hz fun k hk=>by
  cases a with
  |none=>simp[blk]at hk
  |some y=>have:=ho.lt;simp[blk]at hk;omega
theorem ae.iI(w:World)(g:Nat)(hg:g=w.heap.size)(e:TypeId)(cs:Array Value):ae (w.alloc (.cells cs e)) g 0 e cs.toList:=by subst hg;exact ae.new w e cs
theorem ak.gY{w:World}{B:Nat}{e:TypeId}{size:Nat}{a:Option Addr}{n cap:Nat}{xs:List Value}(h:ak w B e size a n cap xs):∀x,a=some x→x.block < w.heap.size:=fun x hx=>by subst hx;exact h.lt.2
theorem pI(n:Nat)(hn:n < 256)(w:World):Calls Tryz.prog 111 #[.int .u8 (n:Nat)] w fun e w'=>e= .returned (.bool (Lex.letter n))∧w=w':=by
 obtain⟨b,hb⟩:∃b,b=Lex.letter n:=⟨_,rfl⟩;rw[← hb];have HB:=hid hb;clear hb
 by_cases k1:97≤n
 ·have d1:decide ((97:Int)≤(n:Int))=true:=by rw[decide_eq_true_eq];omega
  by_cases k2:n≤122
  ·have d2:decide ((n:Int)≤122)=true:=by rw[decide_eq_true_eq];omega
   have hr:b=true:=by rw[HB.out];simp[Lex.letter];omega
   subst hr;go_enter Tryz.func111,Tryz.ntmps111;go_wp2_with fail;go_ret;exact⟨rfl,rfl⟩
  ·have d2:decide ((n:Int)≤122)=false:=by rw[decide_eq_false_iff_not];omega
   have d3:decide ((65:Int)≤(n:Int))=true:=by rw[decide_eq_true_eq];omega
   have d4:decide ((n:Int)≤90)=false:=by rw[decide_eq_false_iff_not];omega
   have d5:((n:Int)==95)=false:=by rw[Z8];omega
   have hr:b=false:=by rw[HB.out];simp[Lex.letter];omega
   subst hr;go_enter Tryz.func111,Tryz.ntmps111;go_wp2_with fail;go_ret;exact⟨rfl,rfl⟩
 ·have d1:decide ((97:Int)≤(n:Int))=false:=by rw[decide_eq_false_iff_not];omega
  by_cases k3:65≤n
  ·have d3:decide ((65:Int)≤(n:Int))=true:=by rw[decide_eq_true_eq];omega
   by_cases k4:n≤90
   ·have d4:decide ((n:Int)≤90)=true:=by rw[decide_eq_true_eq];omega
    have hr:b=true:=by rw[HB.out];simp[Lex.letter];omega
    subst hr;go_enter Tryz.func111,Tryz.ntmps111;go_wp2_with fail;go_ret;exact⟨rfl,rfl⟩
   ·have d4:decide ((n:Int)≤90)=false:=by rw[decide_eq_false_iff_not];omega
    by_cases k5:n=95
    ·have d5:((n:Int)==95)=true:=by rw[beq_iff_eq];omega
     have hr:b=true:=by rw[HB.out];simp[Lex.letter];omega
     subst hr;have K5:=hid k5;clear k5;go_enter Tryz.func111,Tryz.ntmps111;go_wp2_with fail;go_ret;exact⟨rfl,rfl⟩
    ·have d5:((n:Int)==95)=false:=by rw[Z8];omega
     have hr:b=false:=by rw[HB.out];simp[Lex.letter];omega
     subst hr;go_enter Tryz.func111,Tryz.ntmps111;go_wp2_with fail;go_ret;exact⟨rfl,rfl⟩
  ·have d3:decide ((65:Int)≤(n:Int))=false:=by rw[decide_eq_false_iff_not];omega
   have d5:((n:Int)==95)=false:=by rw[Z8];omega
   have hr:b=false:=by rw[HB.out];simp[Lex.letter];omega
   subst hr;go_enter Tryz.func111,Tryz.ntmps111;go_wp2_with fail;go_ret;exact⟨rfl,rfl⟩
theorem BU(n:Nat)(hn:n < 256)(w:World):Calls Tryz.prog 136 #[.int .u8 (n:Nat)] w fun e w'=>e= .returned (.bool (Lex.digit n))∧w=w':=by
 obtain⟨b,hb⟩:∃b,b=Lex.digit n:=⟨_,rfl⟩;rw[← hb];have HB:=hid hb;clear hb
 by_cases k1:48≤n
 ·have d1:decide ((48:Int)≤(n:Int))=true:=by rw[decide_eq_true_eq];omega
  by_cases k2:n≤57
  ·have d2:decide ((n:Int)≤57)=true:=by rw[decide_eq_true_eq];omega
   have hr:b=true:=by rw[HB.out];simp[Lex.digit];omega
   subst hr;go_enter Tryz.func136,Tryz.ntmps136;go_wp2_with fail;go_ret;exact⟨rfl,rfl⟩
  ·have d2:decide ((n:Int)≤57)=false:=by rw[decide_eq_false_iff_not];omega
   have hr:b=false:=by rw[HB.out];simp[Lex.digit];omega
   subst hr;go_enter Tryz.func136,Tryz.ntmps136;go_wp2_with fail;go_ret;exact⟨rfl,rfl⟩
 ·have d1:decide ((48:Int)≤(n:Int))=false:=by rw[decide_eq_false_iff_not];omega
  have hr:b=false:=by rw[HB.out];simp[Lex.digit];omega
  subst hr;go_enter Tryz.func136,Tryz.ntmps136;go_wp2_with fail;go_ret;exact⟨rfl,rfl⟩
theorem jY(l:List UInt8)(i j:Nat):(aa l).extract i j=aa ((l.drop i).take (j - i)):=by
 apply ByteArray.ext;apply Array.ext';rw[ByteArray.data_extract,Array.toList_extract];rfl
theorem vy(l:List UInt8)(i:Nat)(h:i < (aa l).size):(aa l)[i]'h=l.getD i 0:=by
 have h':i < l.length:=by rw[aq]at h;exact h
 rw[List.getD_eq_getElem?_getD,Y1 h'];rfl
theorem vz(m l:List UInt8)(h:m.length≤l.length):m.isPrefixOf l=(l.take m.length==m):=by
 rw[Bool.eq_iff_iff,List.isPrefixOf_iff_prefix,beq_iff_eq,List.prefix_iff_eq_take];exact⟨fun h=>h.symm,fun h=>h.symm⟩
theorem BV(m l:List UInt8)(h:¬m.length≤l.length):m.isPrefixOf l=false:=by
 rw[Bool.eq_false_iff];intro hh;exact h (List.IsPrefix.length_le (List.isPrefixOf_iff_prefix.1 hh))
theorem pJ(l m:List UInt8)(hl:l.length≤100000)(hm:m.length≤100000)(w:World):Calls Tryz.prog 148 #[.string (aa l),.string (aa m)] w fun e w'=>e= .returned (.bool (m.isPrefixOf l))∧w=w':=by
 by_cases h:m.length≤l.length
 ·have hp:=vz m l h;have hx:(aa l).extract 0 m.length=aa (l.take m.length):=by rw[jY];simp
  have d1:decide ((m.length:Int)≤(l.length:Int))=true:=by rw[decide_eq_true_eq];omega
  have d2:decide (m.length≤l.length)=true:=Z9 h;have hI:(m.length:Int)≤(l.length:Int):=by omega
  have HP:=hid hp;clear hp;go_enter Tryz.func148,Tryz.ntmps148;go_wp2_with fail;go_ret;exact⟨jo HP.out.symm,rfl⟩
 ·have hp:=BV m l h;have d1:decide ((m.length:Int)≤(l.length:Int))=false:=by rw[decide_eq_false_iff_not];omega
  have d2:decide (m.length≤l.length)=false:=Y9 h;have HP:=hid hp;clear hp;go_enter Tryz.func148,Tryz.ntmps148;go_wp2_with fail;go_ret;exact⟨jo HP.out.symm,rfl⟩
theorem rQ(l m:List UInt8)(hl:l.length≤100000)(hm:m.length≤100000)(w:World):Calls Tryz.prog 130 #[.string (aa l),.string (aa m)] w fun e w'=>e= .returned (.bool (m.isPrefixOf l))∧w=w':=by
 have h:=pJ l m hl hm w;generalize m.isPrefixOf l=b at *
 have H:=hid h;clear h;go_enter Tryz.func130,Tryz.ntmps130;go_wp2_with fail;refine H.out.mono ?_;rintro e w1 ⟨rfl,rfl⟩;go_wp2_with fail;go_ret;exact⟨rfl,rfl⟩
def ej(w:World):Prop:=∀j,j < 18→w.cell? ⟨1,j,none⟩=some (.string (aa (Lex.marks.getD j [])))
theorem ej.below{w w':World}{B:Nat}(h:ej w)(hb:Below B w w')(hB:w.heap.size≤B):ej w':=by
 intro j hj;have hc:=h j hj;have hlt:=World.block_lt_of_cell? w _ hc;exact(hb.cell (p:=⟨1,j,none⟩) (Nat.lt_of_lt_of_le hlt hB)).trans hc
def tZ:Array Value:= #[.string (aa [61,61]),.string (aa [33,61]),.string (aa [123]),.string (aa [125]),.string (aa [91]),.string (aa [93]),.string (aa [40]),.string (aa [41]),.string (aa [59]),.string (aa [44]),.string (aa [61]),.string (aa [43]),.string (aa [45]),.string (aa [42]),.string (aa [38]),.string (aa [124]),.string (aa [60]),.string (aa [62])]
theorem vA(k:Nat)(h:k < 18)(w:World):(Instr.index 225 (.agg tZ) (.int .i64 k)).run Tryz.prog w= .ok (.string (aa (Lex.marks.getD k []))) w:=by
 rcases(by omega:k=0∨k=1∨k=2∨k=3∨k=4∨k=5∨k=6∨k=7∨k=8∨k=9∨k=10∨k=11∨k=12∨k=13∨k=14∨k=15∨k=16∨k=17)with rfl|rfl|rfl|rfl|rfl|rfl|rfl|rfl|rfl|rfl|rfl|rfl|rfl|rfl|rfl|rfl|rfl|rfl <;> kernel_rfl
namespace Lex
theorem yE(l:List UInt8)(k:Nat)(h:k < (l.takeWhile word).length):word (l.getD k 0)=true:=by
 have h1:=gX word l ((l.takeWhile word)[k]) (List.getElem_mem h);have h2:l.getD k 0=(l.takeWhile word)[k]:=by
  have hp:=List.takeWhile_prefix word (l:=l);have:=hp.getElem (by exact h);rw[this,List.getD_eq_getElem?_getD,Y1];rfl
 rw[h2];exact h1
theorem ub:∀(l:List UInt8),(l.takeWhile word).length < l.length→word (l.getD (l.takeWhile word).length 0)=false:=by
 intro l
 induction l with
 |nil=>intro h;simp at h
 |cons c l ih=>
  intro h;rw[List.takeWhile_cons]at h⊢
  by_cases hc:word c=true
  ·rw[if_pos hc]at h⊢;simp only[Z6]at h⊢;have:=ih (by omega);simpa using this
  ·rw[if_neg hc];simpa using hc
end Lex
theorem lT{P:Program}(w:World)(g:Nat)(ty:TypeId)(cs:Array Value)(d:TypeDesc)(hc:∀j v,cs.toList[j]? =some v→w.cell? ⟨g,j,none⟩=some v)
  (hu:P.underlying ty=some d)(hd:(match d with| .struct _| .array _ _=>true|_=>false)=true)(hi:(P.info? ty).map (·.size)=some cs.size):
  (loadVar ty ⟨g,0,none⟩).run P w= .ok (.agg cs) w:=by
 have hl:(loadCells ⟨g,0,none⟩ cs.toList.length).run P w= .ok cs.toList.toArray w:=
  run_loadCells_list (P:=P) w ⟨g,0,none⟩ cs.toList (fun j v hv=>by
   have hadd:(⟨g,0,none⟩:Addr).add j=⟨g,j,none⟩:=by unfold Addr.add;split <;> simp_all
   rw[hadd];exact hc j v hv)
 cases hq:P.info? ty with
 |none=>simp[hq]at hi
 |some i=>
  have hs:i.size=cs.size:=by simpa[hq]using hi
  have hagg:(isAgg ty).run P w= .ok true w:=by
   unfold isAgg;rw[Sem.run_bind,run_underlying hu w];cases d <;> simp_all
  simp only[Array.length_toList,Array.toArray_toList]at hl;simp[loadVar,Sem.run_bind,hagg,sizeOf,typeInfo,hq,hs,hl]
theorem gP{P:Program}{ops:Array Oper}{rest:List Oper}{o:Oper}{a:Act}{w:World}{Q:Exit→Act→World→Prop}(hgd:o.guard=none)(ty:TypeId)(x:Operand)(ho:o.op= .load ty x)
  (g:Nat)(hx:a.eval x= .pointer (some ⟨g,0,none⟩))(cs:Array Value)(d:TypeDesc)(hc:∀j v,cs.toList[j]? =some v→w.cell? ⟨g,j,none⟩=some v)
  (hu:P.underlying ty=some d)(hd:(match d with| .struct _| .array _ _=>true|_=>false)=true)(hi:(P.info? ty).map (·.size)=some cs.size)
  (h:wpList P ops Q rest (a.put o.dst (.agg cs)) w):wpList P ops Q (o::rest) a w:=by
 refine wpList_plain hgd fun K hK=> ?_
 unfold Oper.wp execOp;simp only[ho,hx,Instr.loadAt,Instr.sureAddr,Sem.run_bind,Sem.run_pure,Result.andThen_ok,lT w g ty cs d hc hu hd hi];exact hK _ _ h
theorem vB{w:World}(h:ej w):∀j v,tZ.toList[j]? =some v→w.cell? ⟨1,j,none⟩=some v:=by
 intro j v hv;have hj:j < 18:=by
  rcases Nat.lt_or_ge j 18 with h|h
  ·exact h
  ·rw[List.getElem?_eq_none (by exact h)]at hv;cases hv
 rw[h j hj];rcases(by omega:j=0∨j=1∨j=2∨j=3∨j=4∨j=5∨j=6∨j=7∨j=8∨j=9∨j=10∨j=11∨j=12∨j=13∨j=14∨j=15∨j=16∨j=17)with rfl|rfl|rfl|rfl|rfl|rfl|rfl|rfl|rfl|rfl|rfl|rfl|rfl|rfl|rfl|rfl|rfl|rfl <;> exact hv
namespace Lex
def uc(l:List UInt8)(k:Nat):Prop:=∀j,j < k→(marks.getD j []).isPrefixOf l=false
theorem vC(l:List UInt8)(k:Nat)(hk:k < 18)(h:uc l k)(hm:(marks.getD k []).isPrefixOf l=true):eZ l=(marks.getD k []).length:=by
 have hlen:marks.length=18:=rfl;have:(marks.find? fun m=>m.isPrefixOf l)=some (marks.getD k []):=by
  rw[List.find?_eq_some_iff_getElem];refine⟨hm,k,by rw[hlen];exact hk,?_,fun j hj=> ?_⟩
  ·rw[List.getD_eq_getElem?_getD,Y1 (by rw[hlen];exact hk)];rfl
  ·have:=h j hj;rw[List.getD_eq_getElem?_getD,Y1 (by rw[hlen];omega)]at this;simpa using this
 unfold eZ;rw[this]
theorem ud(l:List UInt8)(h:uc l 18):eZ l=0:=by
 have hlen:marks.length=18:=rfl;have:(marks.find? fun m=>m.isPrefixOf l)=none:=by
  rw[List.find?_eq_none];intro m hm;obtain⟨j,hj,rfl⟩:=List.mem_iff_getElem.1 hm;have:=h j (by rw[← hlen];exact hj);rw[List.getD_eq_getElem?_getD,Y1 hj]at this;intro hh;rw[Option.getD_some]at this;rw[this]at hh;cases hh
 unfold eZ;rw[this]
theorem vD(k:Nat):(marks.getD k []).length≤2:=by
 rw[List.getD_eq_getElem?_getD];rcases Nat.lt_or_ge k marks.length with h|h
 ·rw[Y1 h];exact(vw _ (List.getElem_mem h)).2
 ·rw[List.getElem?_eq_none h];decide
end Lex
theorem Eg(l:List UInt8)(w:World)(h0:0 < l.length)(hl:l.length≤100000)(hm:ej w):
  Calls Tryz.prog 110 #[.string (aa l)] w fun e w'=>e= .returned (.int .i64 (Lex.next l:Nat))∧w=w':=by
 have hat:∀k (h:k < (aa l).size),((aa l)[k]'h).toNat=(l.getD k 0).toNat:=fun k h=>by rw[vy]
 have hsz:(aa l).size=l.length:=aq l;obtain⟨c,r,hcr⟩:∃c r,l=c::r:=by cases l with|nil=>simp at h0|cons c r=>exact⟨c,r,rfl⟩
 have hnx:Lex.next l=if Lex.word (l.getD 0 0)then(l.takeWhile Lex.word).length else Lex.eZ l:=by rw[hcr];rfl
 have hwl:=Lex.yE l;have hws:=Lex.ub l;have hwle:(l.takeWhile Lex.word).length≤l.length:=List.Sublist.length_le (List.takeWhile_sublist _);have h0I:(0:Int) < (l.length:Int):=by omega
 have HAT:=hid hat;have HM:=hid hm;have HNX:=hid hnx;have HWL:=hid hwl;have HWS:=hid hws;clear hat hm hnx hwl hws hcr;have hl0:=fun(k:Nat) (h:k < (aa l).size) (w:World)=>pI ((aa l)[k]'h).toNat (UInt8.toNat_lt _) w
 have hd0:=fun(k:Nat) (h:k < (aa l).size) (w:World)=>BU ((aa l)[k]'h).toNat (UInt8.toNat_lt _) w
 have HL0:=hid hl0;have HD0:=hid hd0;clear hl0 hd0;have hb0:0 < (aa l).size:=by rw[hsz];exact h0
 have hw0:Lex.word (l.getD 0 0)=(Lex.letter ((aa l)[0]'hb0).toNat||Lex.digit ((aa l)[0]'hb0).toNat):=by
  rw[HAT.out 0 hb0];rfl
 have HSZ:=hid hsz;clear hsz;have HW0:=hid hw0;clear hw0;obtain⟨wl,hwl⟩:∃wl,wl=(l.takeWhile Lex.word).length:=⟨_,rfl⟩;rw[← hwl]at HNX HWL HWS hwle;clear hwl
 by_cases hw:Lex.word (l.getD 0 0)=true
 ·have hn:=HNX.out;rw[if_pos hw]at hn;rw[hn];have hor:=HW0.out.symm.trans hw;have HOR:=hid hor;clear hn hor hw HW0 HNX;cases q1:Lex.letter ((aa l)[0]'hb0).toNat <;> cases q2:Lex.digit ((aa l)[0]'hb0).toNat
  ·exfalso;have:=HOR.out;rw[q1,q2]at this;cases this
  all_goals
   have Q1:=hid q1;have Q2:=hid q2;clear q1 q2 HOR;go_enter Tryz.func110,Tryz.ntmps110;go_wp2_with (first|(go_at_call 111;refine(HL0.out 0 hb0 _).mono ?_;rintro e w1 ⟨rfl,rfl⟩;rw[Q1.out])|(go_at_call 136;refine(HD0.out 0 hb0 _).mono ?_;rintro e w1 ⟨rfl,rfl⟩;rw[Q2.out]));clear Q1 Q2;go_loop [3] (fun v3=>∃k:Nat,k≤wl∧v3= .int .i64 k) (fun v3=>wl - (intOf v3).toNat)
   case atStart=>exact⟨0,by omega,rfl⟩
   case round=>
    obtain⟨k,hk,rfl⟩:=hrel
    by_cases hlt:k < l.length
    ·have hkI:(k:Int) < (l.length:Int):=by omega
     have hbk:k < (aa l).size:=by rw[HSZ.out];exact hlt
     have hwk:Lex.word (l.getD k 0)=(Lex.letter ((aa l)[k]'hbk).toNat||Lex.digit ((aa l)[k]'hbk).toNat):=by
      rw[HAT.out k hbk];rfl
     by_cases hkw:k < wl
     ·have hor:=hwk.symm.trans (HWL.out k hkw);have HOR:=hid hor;clear hwk hor;cases q1:Lex.letter ((aa l)[k]'hbk).toNat <;> cases q2:Lex.digit ((aa l)[k]'hbk).toNat
      ·exfalso;have:=HOR.out;rw[q1,q2]at this;cases this
      all_goals
       have Q1:=hid q1;have Q2:=hid q2;clear q1 q2 HOR;go_wp2_with (first|(go_at_call 111;refine(HL0.out k hbk _).mono ?_;rintro e w1 ⟨rfl,rfl⟩;rw[Q1.out])|(go_at_call 136;refine(HD0.out k hbk _).mono ?_;rintro e w1 ⟨rfl,rfl⟩;rw[Q2.out]));go_round
       case rel=>exact⟨k+1,by omega,by go_num⟩
       case measure=>simp[intOf];omega
     ·obtain rfl:k=wl:=by omega
      have hor:=hwk.symm.trans (HWS.out hlt);rw[Bool.or_eq_false_iff]at hor;have Q1:=hid hor.1;have Q2:=hid hor.2;clear hwk hor;go_wp2_with (first|(go_at_call 111;refine(HL0.out k hbk _).mono ?_;rintro e w1 ⟨rfl,rfl⟩;rw[Q1.out])|(go_at_call 136;refine(HD0.out k hbk _).mono ?_;rintro e w1 ⟨rfl,rfl⟩;rw[Q2.out]));go_ret;exact⟨rfl,rfl⟩
    ·have hd:decide ((k:Int) < (l.length:Int))=false:=by rw[decide_eq_false_iff_not];omega
     obtain rfl:k=wl:=by omega
     go_wp2_with fail;go_ret;exact⟨rfl,rfl⟩
 ·have hn:=HNX.out;rw[if_neg hw]at hn;rw[hn];have hor:=HW0.out.symm.trans (Bool.eq_false_iff.2 hw);rw[Bool.or_eq_false_iff]at hor;have Q1:=hid hor.1;have Q2:=hid hor.2;clear hn hor hw HW0 HNX;obtain⟨V,hV⟩:∃V,V=tZ:=⟨_,rfl⟩;have hidx:=vA;have hcs:=vB HM.out;have hvs:(Tryz.prog.info? 225).map (·.size)=some V.size:=by rw[hV];kernel_rfl
  rw[← hV]at hidx hcs;clear hV;have HIDX:=hid hidx;have HCS:=hid hcs;have HVS:=hid hvs;clear hidx hcs hvs;go_enter Tryz.func110,Tryz.ntmps110;go_wp2_with (first|(go_at_call 111;refine(HL0.out 0 hb0 _).mono ?_;rintro e w1 ⟨rfl,rfl⟩;rw[Q1.out])|(go_at_call 136;refine(HD0.out 0 hb0 _).mono ?_;rintro e w1 ⟨rfl,rfl⟩;rw[Q2.out])|(with_reducible refine gP rfl 225 _ rfl 1 rfl V _ HCS.out Tryz.underlying225 rfl HVS.out ?_));clear Q1 Q2;go_loop [5,34] (fun _ v34=>∃k:Nat,k≤18∧v34= .int .i64 k∧Hid (Lex.uc l k)) (fun _ v34=>18 - (intOf v34).toNat)
  case atStart=>exact⟨0,by omega,rfl,hid (fun j hj=>by omega)⟩
  case round=>
   obtain⟨k,hk,rfl,HN⟩:=hrel
   by_cases hk18:k < 18
   ·have hkI:decide ((k:Int) < 18)=true:=by rw[decide_eq_true_eq];omega
    have hx:=HIDX.out k hk18;have hhit:=Lex.vC l k hk18 HN.out;have hsm:=Lex.vD k;have hmiss:(Lex.marks.getD k []).isPrefixOf l=false→Lex.uc l (k+1):=by
     intro h j hj;rcases Nat.lt_or_ge j k with h1|h1
     ·exact HN.out j h1
     ·obtain rfl:j=k:=by omega
      exact h
    generalize Lex.marks.getD k []=m at *
    have hp:=fun w=>rQ l m hl (by omega) w
    cases q:m.isPrefixOf l with
    |true=>
     rw[q]at hp;have hln:=hhit q;have HLN:=hid hln;have HP:=hid hp;clear q hhit hmiss hln hp;go_wp2_with fail;refine(HP.out _).mono ?_;rintro e w1 ⟨rfl,rfl⟩;go_wp2_with fail;go_ret;exact⟨jW (by rw[HLN.out]),rfl⟩
    |false=>
     rw[q]at hp;have HMI:=hid (hmiss q);have HP:=hid hp;clear q hhit hmiss hp;go_wp2_with fail;refine(HP.out _).mono ?_;rintro e w1 ⟨rfl,rfl⟩;go_wp2_with fail;go_round
     case rel=>exact⟨k+1,by omega,by go_num,HMI⟩
     case measure=>simp[intOf];omega
   ·obtain rfl:k=18:=by omega
    have hn:=Lex.ud l HN.out;have HNN:=hid hn;clear hn;go_wp2_with fail;go_ret;exact⟨jW (by rw[HNN.out];rfl),rfl⟩
theorem lU{P:Program}(w:World)(W:Nat)(hW:W=w.heap.size){ops:Array Oper}{rest:List Oper}{o:Oper}{act:Act}{Q:Exit→Act→World→Prop}(hgd:o.guard=none)(s x:Operand)(t:TypeId)
  (ho:o.op= .call {callee:= .builtin .append,args:= #[s,x],argTypes:= #[t,t]})
  (B:Nat)(e:TypeId)(z:Value)(size bytes:Nat)(ht:P.underlying t=some (.slice e))(hinf:(P.info? e).map (fun i=>(i.zero,i.size,i.bytes))=some (some z,size,bytes))(hzs:z.cells.size=size)(hsz:0 < size)
  (a:Option Addr)(n cap:Nat)(xs:List Value)(hs:act.eval s= .slice a n cap)(hown:ak w B e size a n cap xs)
  (news:List Value)(hl:news.length=size)(h1:∀u∈news,u.oneCell'=true)(hx:act.eval x= .slice (some ⟨W,0,none⟩) 1 1)
  (h63:n+1≤maxLen)(hbytes:(n+1) * bytes≤140737488355328)(hbase:B≤w.heap.size)
  (h:∀a' cap' w',ak w' B e size a' (n+1) cap' (xs++news)→w.grownBy w' (blk a)→(∀x,a'=some x→a=some x∨w.heap.size < x.block)→w.heap.size < w'.heap.size→
   (∃g,a'=some ⟨g,0,none⟩)→wpList P ops Q rest (act.put o.dst (.slice a' (n+1) cap')) w'):
  wpList P ops Q (o::rest) act (w.alloc (.cells news.toArray e)):=by
 subst hW;exact bS w hgd s x t ho B e z size bytes ht hinf hzs hsz a n cap xs hs hown news hl h1 hx h63 hbytes hbase h
abbrev Tok:=List UInt8×Nat
def fc(t:Tok):List Value:=[.string (aa t.1),.int .i64 (t.2:Nat)]
def cd(T:List Tok):List Value:=T.flatMap fc
theorem rR(T:List Tok)(t:Tok):cd (T++[t])=cd T++fc t:=by simp[cd]
theorem GO:(Tryz.prog.info? 162).map (fun i=>(i.zero,i.size,i.bytes))=some (some (.agg #[.string ByteArray.empty,.int .i64 0]),2,24):=by kernel_rfl
namespace Lex
theorem GP:∀(l:List UInt8) (k:Nat),k < note l→l.getD k 0≠10:=by
 intro l k h;unfold note at h;have h1:=gX (fun c=>c !=10) l ((l.takeWhile fun c=>c !=10)[k]) (List.getElem_mem h);have h2:l.getD k 0=(l.takeWhile fun c=>c !=10)[k]:=by
  have hp:=List.takeWhile_prefix (fun c:UInt8=>c !=10) (l:=l);have:=hp.getElem (by exact h);rw[this,List.getD_eq_getElem?_getD,Y1];rfl
 rw[h2];simpa using h1
theorem BW:∀(l:List UInt8),note l < l.length→l.getD (note l) 0=10:=by
 intro l;unfold note
 induction l with
 |nil=>intro h;simp at h
 |cons c l ih=>
  intro h;rw[List.takeWhile_cons]at h⊢
  by_cases hc:(c !=10)=true
  ·rw[if_pos hc]at h⊢;simp only[Z6]at h⊢;have:=ih (by omega);simpa using this
  ·rw[if_neg hc];simpa using hc
theorem drop_cons(s:List UInt8)(i:Nat)(h:i < s.length):s.drop i=s.getD i 0::s.drop (i+1):=by
 rw[List.drop_eq_getElem_cons h,List.getD_eq_getElem?_getD,Y1 h];rfl
theorem sE(s:List UInt8)(i k:Nat):(s.drop i).getD k 0=s.getD (i+k) 0:=by
 simp only[List.getD_eq_getElem?_getD,List.getElem?_drop]
theorem yF(s:List UInt8)(i:Nat)(h:i < s.length)(hc:s.getD i 0=32∨s.getD i 0=10∨s.getD i 0=9):cZ (s.drop i) i=cZ (s.drop (i+1)) (i+1):=by
 rw[drop_cons s i h,fX _ _ _ hc]
theorem BX(s:List UInt8)(i:Nat)(h:i < s.length)(hc:s.getD i 0=35):cZ (s.drop i) i=cZ (s.drop (i+note (s.drop i))) (i+note (s.drop i))∧0 < note (s.drop i):=by
 have hd:s.drop i=35::s.drop (i+1):=by rw[drop_cons s i h,hc]
 have hn:=nz (s.drop (i+1)) i;rw[← hd,List.drop_drop]at hn;exact⟨hn,by rw[hd];exact jq _⟩
theorem Eh(s:List UInt8)(i:Nat)(h:i < s.length)(h1:¬(s.getD i 0=32∨s.getD i 0=10∨s.getD i 0=9))(h2:s.getD i 0≠35)(h3:next (s.drop i)=0):cZ (s.drop i) i=none:=by
 rw[drop_cons s i h]at h3⊢;exact pF _ _ _ h1 h2 h3
theorem Ei(s:List UInt8)(i:Nat)(h:i < s.length)(h1:¬(s.getD i 0=32∨s.getD i 0=10∨s.getD i 0=9))(h2:s.getD i 0≠35)(h3:next (s.drop i)≠0):
  cZ (s.drop i) i=(cZ (s.drop (i+next (s.drop i))) (i+next (s.drop i))).map fun T=>((s.drop i).take (next (s.drop i)),i)::T:=by
 have hd:=drop_cons s i h;have:=lS (s.getD i 0) (s.drop (i+1)) i h1 h2 (by rw[← hd];exact h3);rw[← hd,List.drop_drop]at this;exact this
def Far(s:List UInt8)(i:Nat)(A:List Tok):Prop:=cZ s 0=(cZ (s.drop i) i).map fun T=>A++T
theorem Far.start(s:List UInt8):Far s 0 []:=by
 unfold Far;rw[List.drop_zero];cases cZ s 0 <;> rfl
theorem Far.same{s:List UInt8}{i j:Nat}{A:List Tok}(h:Far s i A)(he:cZ (s.drop i) i=cZ (s.drop j) j):Far s j A:=by unfold Far at *;rw[h,he]
theorem Far.tok{s:List UInt8}{i j:Nat}{A:List Tok}{t:Tok}(h:Far s i A)(he:cZ (s.drop i) i=(cZ (s.drop j) j).map fun T=>t::T):Far s j (A++[t]):=by
 unfold Far at *
 rw[h,he,Option.map_map]
 congr 1
 funext T
 simp
theorem Far.done{s:List UInt8}{i:Nat}{A:List Tok}(h:Far s i A)(hi:s.length≤i):cZ s 0=some A:=by
 unfold Far at h;rw[List.drop_eq_nil_of_le hi,jr]at h;simpa using h
theorem Far.bad{s:List UInt8}{i:Nat}{A:List Tok}(h:Far s i A)(he:cZ (s.drop i) i=none):cZ s 0=none:=by
 unfold Far at h;rw[he]at h;exact h
end Lex
def Jj(s:List UInt8)(w:World)(e:Ending)(w':World):Prop:=Below w.heap.size w w'∧
 ((∃T a cap,Lex.cZ s 0=some T∧e= .returned (.tuple #[.slice a T.length cap,.nilIface])∧ak w' w.heap.size 162 2 a T.length cap (cd T))∨
  (Lex.cZ s 0=none∧∃g,e= .returned (.tuple #[.slice none 0 0,.iface 120 (.pointer (some ⟨g,0,none⟩))])))
theorem AE(s:List UInt8)(w:World)(hs:s.length≤3000)(hm:ej w):
  Calls Tryz.prog 84 #[.string (aa s)] w (Jj s w):=by
 have hat:∀k (h:k < (aa s).size),((aa s)[k]'h).toNat=(s.getD k 0).toNat:=fun k h=>by rw[vy]
 have hsz:(aa s).size=s.length:=aq s;have HAT:=hid hat;have HM:=hid hm;have HSZ:=hid hsz;clear hat hm hsz;have hbig:decide ((3000:Int) < (s.length:Int))=false:=by rw[decide_eq_false_iff_not];omega
 go_enter Tryz.func84,Tryz.ntmps84;go_wp2_with fail;go_loopw [4,5,6] (fun v4 v5 v6 wr=>∃(i cap:Nat) (a:Option Addr) (A:List Tok),i≤s.length∧v5= .int .i64 i∧v4= .slice a A.length cap∧A.length≤i∧Hid (ak wr w.heap.size 162 2 a A.length cap (cd A))∧Hid (Lex.Far s i A)∧Hid (Below w.heap.size w wr)) (fun _ v5 _ _=>s.length - (intOf v5).toNat)
 case atStart=>exact⟨0,0,none,[],by omega,rfl,rfl,by simp,hid (ak.nil _ _ _ _),hid (Lex.Far.start s),hid (Y4 _ _)⟩
 case round=>
  obtain⟨i,cap,a,A,hi,rfl,rfl,hA,HO,HF,HB⟩:=hrel
  by_cases hlt:i < s.length
  ·have hiI:(i:Int) < (s.length:Int):=by omega
   have hbi:i < (aa s).size:=by rw[HSZ.out];exact hlt
   have hc:=HAT.out i hbi;have hcn:∀n:Nat,n < 256→(s.getD i 0=UInt8.ofNat n↔((aa s)[i]'hbi).toNat=n):=by
    intro n hn;rw[hc];constructor
    ·intro h;rw[h];simp;omega
    ·intro h;rw[← h];simp
   have h32:=hcn 32 (by decide);have h10:=hcn 10 (by decide);have h9:=hcn 9 (by decide);have h35:=hcn 35 (by decide);change s.getD i 0=32↔_ at h32;change s.getD i 0=10↔_ at h10;change s.getD i 0=9↔_ at h9;change s.getD i 0=35↔_ at h35;clear hcn hc
   by_cases hbl:s.getD i 0=32∨s.getD i 0=10∨s.getD i 0=9
   ·have hst:=Lex.yF s i hlt hbl;have HF2:=hid (HF.out.same hst);clear hst;rw[h32,h10,h9]at hbl;clear h32 h10 h9 h35
    by_cases k1:((aa s)[i]'hbi).toNat=32
    ·have e1:((((aa s)[i]'hbi).toNat:Int)==32)=true:=by rw[beq_iff_eq];omega
     have K:=hid k1;clear k1 hbl;go_wp2_with fail;go_roundw
     case rel=>exact⟨i+1,cap,a,A,by omega,by go_num,rfl,by omega,HO,HF2,HB⟩
     case measure=>simp[intOf];omega
    ·have e1:((((aa s)[i]'hbi).toNat:Int)==32)=false:=by rw[Z8];omega
     by_cases k2:((aa s)[i]'hbi).toNat=10
     ·have e2:((((aa s)[i]'hbi).toNat:Int)==10)=true:=by rw[beq_iff_eq];omega
      have K:=hid k2;clear k1 k2 hbl;go_wp2_with fail;go_roundw
      case rel=>exact⟨i+1,cap,a,A,by omega,by go_num,rfl,by omega,HO,HF2,HB⟩
      case measure=>simp[intOf];omega
     ·have e2:((((aa s)[i]'hbi).toNat:Int)==10)=false:=by rw[Z8];omega
      have e3:((((aa s)[i]'hbi).toNat:Int)==9)=true:=by rw[beq_iff_eq];omega
      clear k1 k2 hbl;go_wp2_with fail;go_roundw
      case rel=>exact⟨i+1,cap,a,A,by omega,by go_num,rfl,by omega,HO,HF2,HB⟩
      case measure=>simp[intOf];omega
   ·have hbl2:=hbl;rw[h32,h10,h9]at hbl;have e1:((((aa s)[i]'hbi).toNat:Int)==32)=false:=by rw[Z8];omega
    have e2:((((aa s)[i]'hbi).toNat:Int)==10)=false:=by rw[Z8];omega
    have e3:((((aa s)[i]'hbi).toNat:Int)==9)=false:=by rw[Z8];omega
    by_cases hno:s.getD i 0=35
    ·have e4:((((aa s)[i]'hbi).toNat:Int)==35)=true:=by rw[beq_iff_eq];have:=h35.1 hno;omega
     obtain⟨hst,hpos⟩:=Lex.BX s i hlt hno;have HF2:=hid (HF.out.same hst);have hnl:=Lex.GP (s.drop i);have hns:=Lex.BW (s.drop i);have hnle:=Lex.GN (s.drop i);rw[List.length_drop]at hns hnle;generalize Lex.note (s.drop i)=q at *
     have HNL:=hid hnl;have HNS:=hid hns;clear hst hnl hns hbl hbl2 h32 h10 h9 h35 hno;go_wp2_with fail;go_loop [5] (fun v5=>∃k:Nat,i≤k∧k≤i+q∧v5= .int .i64 k) (fun v5=>i+q - (intOf v5).toNat)
     case atStart=>exact⟨i,by omega,by omega,rfl⟩
     case round=>
      obtain⟨k,hk1,hk2,rfl⟩:=hrel
      by_cases hkl:k < s.length
      ·have hkI:(k:Int) < (s.length:Int):=by omega
       have hbk:k < (aa s).size:=by rw[HSZ.out];exact hkl
       have hck:=HAT.out k hbk
       by_cases hkq:k < i+q
       ·have hne:(((aa s)[k]'hbk).toNat)≠10:=by
         have:=HNL.out (k - i) (by omega);rw[Lex.sE,show i+(k - i)=k from by omega]at this;intro hh;apply this;rw[hck]at hh;exact UInt8.toNat_inj.1 hh
        have f1:((((aa s)[k]'hbk).toNat:Int)!=10)=true:=by rw[bne_iff_ne];omega
        clear hck hne;go_wp2_with fail;go_round
        case rel=>exact⟨k+1,by omega,by omega,by go_num⟩
        case measure=>simp[intOf];omega
       ·obtain rfl:k=i+q:=by omega
        have hne:(((aa s)[i+q]'hbk).toNat)=10:=by
         have:=HNS.out (by omega);rw[Lex.sE]at this;rw[hck,this];rfl
        have f1:((((aa s)[i+q]'hbk).toNat:Int)!=10)=false:=by rw[bne_eq_false_iff_eq];omega
        have K:=hid hne;clear hck hne;go_wp2_with fail;go_roundw
        case rel=>exact⟨i+q,cap,a,A,by omega,rfl,rfl,by omega,HO,HF2,HB⟩
        case measure=>simp[intOf];omega
      ·have f1:decide ((k:Int) < (s.length:Int))=false:=by rw[decide_eq_false_iff_not];omega
       obtain rfl:k=i+q:=by omega
       go_wp2_with fail;go_roundw
       case rel=>exact⟨i+q,cap,a,A,by omega,rfl,rfl,by omega,HO,HF2,HB⟩
       case measure=>simp[intOf];omega
    ·have e4:((((aa s)[i]'hbi).toNat:Int)==35)=false:=by rw[Z8];intro hh;exact hno (h35.2 (by omega))
     have hx:(aa s).extract i s.length=aa (s.drop i):=by rw[jY,List.take_of_length_le (by rw[List.length_drop];exact Z5 _)]
     have hnx:=fun w hm=>Eg (s.drop i) w (by rw[List.length_drop];omega) (by rw[List.length_drop];omega) hm
     have hnb:=Lex.Eh s i hlt hbl2 hno;have hnt:=Lex.Ei s i hlt hbl2 hno;have hnle:=Lex.GM (s.drop i);rw[List.length_drop]at hnle;have hx2:(aa s).extract i (i+Lex.next (s.drop i))=aa ((s.drop i).take (Lex.next (s.drop i))):=by rw[jY,Nat.add_sub_cancel_left]
     generalize Lex.next (s.drop i)=n at *
     have HNB:=hid hnb;have HNT:=hid hnt;have HNX:=hid (hnx wr (HM.out.below HB.out (Z5 _)));clear hnx hnb hnt hbl hbl2 h32 h10 h9 h35 hno
     by_cases hn0:n=0
     ·have f1:((n:Int)==0)=true:=by rw[beq_iff_eq];omega
      have hbad:=HF.out.bad (HNB.out hn0);have HBAD:=hid hbad;have K:=hid hn0;clear hn0 hbad;go_wp2_with fail;refine HNX.out.mono ?_;rintro e w1 ⟨rfl,rfl⟩;go_wp2_with fail;go_ret2;exact⟨HB.out.alloc HB.out.size _,.inr ⟨HBAD.out,_,rfl⟩⟩
     ·have f1:((n:Int)==0)=false:=by rw[Z8];omega
      have hft:=HF.out.tok (HNT.out hn0);have HFT:=hid hft;have K:=hid hn0;have hnpos:0 < n:=by omega
      clear hft hn0;have hbs:=HB.out.size;have ho:=HO.out;have h63:A.length+1≤maxLen:=by unfold maxLen;omega
      go_wp2_with fail;refine HNX.out.mono ?_;rintro e w1 ⟨rfl,rfl⟩;go_wp2_with (with_reducible refine lU wr wr.heap.size rfl rfl _ _ 153 rfl w.heap.size 162 (.agg #[.string ByteArray.empty,.int .i64 0]) 2 24 Tryz.underlying153 GO rfl (by decide) a A.length cap _ rfl ho [.string (aa ((s.drop i).take n)),.int .i64 (i:Nat)] rfl (by simp[Value.oneCell']) rfl h63 (by omega) hbs ?_;intro a' cap' w' hown' hgrow hloc hsz' hex);have hlen:(A++[(((s.drop i).take n,i):Tok)]).length=A.length+1:=by simp
      have HLEN:=hid hlen;clear hlen;go_roundw
      case rel=>exact⟨i+n,cap',a',A++[((s.drop i).take n,i)],by omega,by go_num,by rw[HLEN.out],by rw[HLEN.out];omega,hid (by rw[HLEN.out,rR];exact hown'),HFT,hid (eJ HB.out ho (Z5 _) hbs hgrow)⟩
      case measure=>simp[intOf];omega
  ·obtain rfl:i=s.length:=by omega
   have hd:decide ((s.length:Int) < (s.length:Int))=false:=by simp
   have hfin:=HF.out.done (Z5 _);have HFIN:=hid hfin;clear hfin;go_wp2_with fail;go_ret2;exact⟨HB.out,.inl ⟨A,a,cap,HFIN.out,rfl,HO.out⟩⟩
end
end Go.Proofs.YtlomecfhobehnaaGreatDoor
