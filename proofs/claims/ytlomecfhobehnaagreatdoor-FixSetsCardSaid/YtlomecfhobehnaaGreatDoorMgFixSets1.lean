import Derived.Sort.Grow
import Derived.Test.YtlomecfhobehnaaGreatDoorMgFixSets0
set_option linter.unusedVariables false
set_option linter.unusedSimpArgs false
set_option maxRecDepth 100000
set_option maxHeartbeats 4000000
namespace Go.Proofs.YtlomecfhobehnaaGreatDoor
open Lib (hid)
section
open Go.RowKit
abbrev Tok:=List UInt8×Nat
def eR(t:Tok):List Value:=[.string (aa t.1),.int .i64 (t.2:Nat)]
def bY(T:List Tok):List Value:=T.flatMap eR
theorem qJ(T:List Tok)(t:Tok):bY (T++[t])=bY T++eR t:=by simp[bY]
theorem Ew:(Tryz.prog.info? 162).map (fun i=>(i.zero,i.size,i.bytes))=some (some (.agg #[.string ByteArray.empty,.int .i64 0]),2,24):=by kernel_rfl
namespace Lex
theorem Ey:∀(l:List UInt8) (k:Nat),k < note l→l.getD k 0≠10:=by
 intro l k h;unfold note at h;have h1:=gH (fun c=>c !=10) l ((l.takeWhile fun c=>c !=10)[k]) (List.getElem_mem h);have h2:l.getD k 0=(l.takeWhile fun c=>c !=10)[k]:=by
  have hp:=List.takeWhile_prefix (fun c:UInt8=>c !=10) (l:=l);have:=hp.getElem (by exact h);rw[this,List.getD_eq_getElem?_getD,Y1];rfl
 rw[h2];simpa using h1
theorem Az:∀(l:List UInt8),note l < l.length→l.getD (note l) 0=10:=by
 intro l;unfold note
 induction l with
 |nil=>intro h;simp at h
 |cons c l ih=>
  intro h;rw[List.takeWhile_cons]at h⊢
  by_cases hc:(c !=10)=true
  ·rw[if_pos hc]at h⊢;simp only[Z6]at h⊢;have:=ih (by omega);simpa using this
  ·rw[if_neg hc];simpa using hc
theorem drop_cons(s:List UInt8)(i:Nat)(h:i < s.length):s.drop i=s.getD i 0::s.drop (i+1):=by
 rw[List.drop_eq_getElem_cons h,List.getD_eq_getElem?_getD,Y1 h];rfl
theorem rk(s:List UInt8)(i k:Nat):(s.drop i).getD k 0=s.getD (i+k) 0:=by
 simp only[List.getD_eq_getElem?_getD,List.getElem?_drop]
theorem xg(s:List UInt8)(i:Nat)(h:i < s.length)(hc:s.getD i 0=32∨s.getD i 0=10∨s.getD i 0=9):cZ (s.drop i) i=cZ (s.drop (i+1)) (i+1):=by
 rw[drop_cons s i h,fN _ _ _ hc]
theorem AA(s:List UInt8)(i:Nat)(h:i < s.length)(hc:s.getD i 0=35):cZ (s.drop i) i=cZ (s.drop (i+note (s.drop i))) (i+note (s.drop i))∧0 < note (s.drop i):=by
 have hd:s.drop i=35::s.drop (i+1):=by rw[drop_cons s i h,hc]
 have hn:=my (s.drop (i+1)) i;rw[← hd,List.drop_drop]at hn;exact⟨hn,by rw[hd];exact jb _⟩
theorem Cz(s:List UInt8)(i:Nat)(h:i < s.length)(h1:¬(s.getD i 0=32∨s.getD i 0=10∨s.getD i 0=9))(h2:s.getD i 0≠35)(h3:next (s.drop i)=0):cZ (s.drop i) i=none:=by
 rw[drop_cons s i h]at h3⊢;exact oL _ _ _ h1 h2 h3
theorem CA(s:List UInt8)(i:Nat)(h:i < s.length)(h1:¬(s.getD i 0=32∨s.getD i 0=10∨s.getD i 0=9))(h2:s.getD i 0≠35)(h3:next (s.drop i)≠0):
  cZ (s.drop i) i=(cZ (s.drop (i+next (s.drop i))) (i+next (s.drop i))).map fun T=>((s.drop i).take (next (s.drop i)),i)::T:=by
 have hd:=drop_cons s i h;have:=lu (s.getD i 0) (s.drop (i+1)) i h1 h2 (by rw[← hd];exact h3);rw[← hd,List.drop_drop]at this;exact this
def Far(s:List UInt8)(i:Nat)(A:List Tok):Prop:=cZ s 0=(cZ (s.drop i) i).map fun T=>A++T
theorem Far.start(s:List UInt8):Far s 0 []:=by
 unfold Far;rw[List.drop_zero];cases cZ s 0 <;> rfl
theorem Far.same{s:List UInt8}{i j:Nat}{A:List Tok}(h:Far s i A)(he:cZ (s.drop i) i=cZ (s.drop j) j):Far s j A:=by unfold Far at *;rw[h,he]
theorem Far.tok{s:List UInt8}{i j:Nat}{A:List Tok}{t:Tok}(h:Far s i A)(he:cZ (s.drop i) i=(cZ (s.drop j) j).map fun T=>t::T):Far s j (A++[t]):=by
 unfold Far at *
 rw[h,he,Option.map_map]
 congr 1
 funext T
 simp
theorem Far.done{s:List UInt8}{i:Nat}{A:List Tok}(h:Far s i A)(hi:s.length≤i):cZ s 0=some A:=by
 unfold Far at h;rw[List.drop_eq_nil_of_le hi,jc]at h;simpa using h
theorem Far.bad{s:List UInt8}{i:Nat}{A:List Tok}(h:Far s i A)(he:cZ (s.drop i) i=none):cZ s 0=none:=by
 unfold Far at h;rw[he]at h;exact h
end Lex
def Gb(s:List UInt8)(w:World)(e:Ending)(w':World):Prop:=Below w.heap.size w w'∧
 ((∃T a cap,Lex.cZ s 0=some T∧e= .returned (.tuple #[.slice a T.length cap,.nilIface])∧an w' w.heap.size 162 2 a T.length cap (bY T))∨
  (Lex.cZ s 0=none∧∃g,e= .returned (.tuple #[.slice none 0 0,.iface 120 (.pointer (some ⟨g,0,none⟩))])))
theorem zt(s:List UInt8)(w:World)(hs:s.length≤3000)(hm:ec w):
  Calls Tryz.prog 84 #[.string (aa s)] w (Gb s w):=by
 have hat:∀k (h:k < (aa s).size),((aa s)[k]'h).toNat=(s.getD k 0).toNat:=fun k h=>by rw[uh]
 have hsz:(aa s).size=s.length:=aq s;have HAT:=hid hat;have HM:=hid hm;have HSZ:=hid hsz;clear hat hm hsz;have hbig:decide ((3000:Int) < (s.length:Int))=false:=by rw[decide_eq_false_iff_not];omega
 go_enter Tryz.func84,Tryz.ntmps84;go_wp2_with fail;go_loopw [4,5,6] (fun v4 v5 v6 wr=>∃(i cap:Nat) (a:Option Addr) (A:List Tok),i≤s.length∧v5= .int .i64 i∧v4= .slice a A.length cap∧A.length≤i∧Hid (an wr w.heap.size 162 2 a A.length cap (bY A))∧Hid (Lex.Far s i A)∧Hid (Below w.heap.size w wr)) (fun _ v5 _ _=>s.length - (intOf v5).toNat)
 case atStart=>exact⟨0,0,none,[],by omega,rfl,rfl,by simp,hid (an.nil _ _ _ _),hid (Lex.Far.start s),hid (Y4 _ _)⟩
 case round=>
  obtain⟨i,cap,a,A,hi,rfl,rfl,hA,HO,HF,HB⟩:=hrel
  by_cases hlt:i < s.length
  ·have hiI:(i:Int) < (s.length:Int):=by omega
   have hbi:i < (aa s).size:=by rw[HSZ.out];exact hlt
   have hc:=HAT.out i hbi;have hcn:∀n:Nat,n < 256→(s.getD i 0=UInt8.ofNat n↔((aa s)[i]'hbi).toNat=n):=by
    intro n hn;rw[hc];constructor
    ·intro h;rw[h];simp;omega
    ·intro h;rw[← h];simp
   have h32:=hcn 32 (by decide);have h10:=hcn 10 (by decide);have h9:=hcn 9 (by decide);have h35:=hcn 35 (by decide);change s.getD i 0=32↔_ at h32;change s.getD i 0=10↔_ at h10;change s.getD i 0=9↔_ at h9;change s.getD i 0=35↔_ at h35;clear hcn hc
   by_cases hbl:s.getD i 0=32∨s.getD i 0=10∨s.getD i 0=9
   ·have hst:=Lex.xg s i hlt hbl;have HF2:=hid (HF.out.same hst);clear hst;rw[h32,h10,h9]at hbl;clear h32 h10 h9 h35
    by_cases k1:((aa s)[i]'hbi).toNat=32
    ·have e1:((((aa s)[i]'hbi).toNat:Int)==32)=true:=by rw[beq_iff_eq];omega
     have K:=hid k1;clear k1 hbl;go_wp2_with fail;go_roundw
     case rel=>exact⟨i+1,cap,a,A,by omega,by go_num,rfl,by omega,HO,HF2,HB⟩
     case measure=>simp[intOf];omega
    ·have e1:((((aa s)[i]'hbi).toNat:Int)==32)=false:=by rw[Z8];omega
     by_cases k2:((aa s)[i]'hbi).toNat=10
     ·have e2:((((aa s)[i]'hbi).toNat:Int)==10)=true:=by rw[beq_iff_eq];omega
      have K:=hid k2;clear k1 k2 hbl;go_wp2_with fail;go_roundw
      case rel=>exact⟨i+1,cap,a,A,by omega,by go_num,rfl,by omega,HO,HF2,HB⟩
      case measure=>simp[intOf];omega
     ·have e2:((((aa s)[i]'hbi).toNat:Int)==10)=false:=by rw[Z8];omega
      have e3:((((aa s)[i]'hbi).toNat:Int)==9)=true:=by rw[beq_iff_eq];omega
      clear k1 k2 hbl;go_wp2_with fail;go_roundw
      case rel=>exact⟨i+1,cap,a,A,by omega,by go_num,rfl,by omega,HO,HF2,HB⟩
      case measure=>simp[intOf];omega
   ·have hbl2:=hbl;rw[h32,h10,h9]at hbl;have e1:((((aa s)[i]'hbi).toNat:Int)==32)=false:=by rw[Z8];omega
    have e2:((((aa s)[i]'hbi).toNat:Int)==10)=false:=by rw[Z8];omega
    have e3:((((aa s)[i]'hbi).toNat:Int)==9)=false:=by rw[Z8];omega
    by_cases hno:s.getD i 0=35
    ·have e4:((((aa s)[i]'hbi).toNat:Int)==35)=true:=by rw[beq_iff_eq];have:=h35.1 hno;omega
     obtain⟨hst,hpos⟩:=Lex.AA s i hlt hno;have HF2:=hid (HF.out.same hst);have hnl:=Lex.Ey (s.drop i);have hns:=Lex.Az (s.drop i);have hnle:=Lex.Ev (s.drop i);rw[List.length_drop]at hns hnle;generalize Lex.note (s.drop i)=q at *
     have HNL:=hid hnl;have HNS:=hid hns;clear hst hnl hns hbl hbl2 h32 h10 h9 h35 hno;go_wp2_with fail;go_loop [5] (fun v5=>∃k:Nat,i≤k∧k≤i+q∧v5= .int .i64 k) (fun v5=>i+q - (intOf v5).toNat)
     case atStart=>exact⟨i,by omega,by omega,rfl⟩
     case round=>
      obtain⟨k,hk1,hk2,rfl⟩:=hrel
      by_cases hkl:k < s.length
      ·have hkI:(k:Int) < (s.length:Int):=by omega
       have hbk:k < (aa s).size:=by rw[HSZ.out];exact hkl
       have hck:=HAT.out k hbk
       by_cases hkq:k < i+q
       ·have hne:(((aa s)[k]'hbk).toNat)≠10:=by
         have:=HNL.out (k - i) (by omega);rw[Lex.rk,show i+(k - i)=k from by omega]at this;intro hh;apply this;rw[hck]at hh;exact UInt8.toNat_inj.1 hh
        have f1:((((aa s)[k]'hbk).toNat:Int)!=10)=true:=by rw[bne_iff_ne];omega
        clear hck hne;go_wp2_with fail;go_round
        case rel=>exact⟨k+1,by omega,by omega,by go_num⟩
        case measure=>simp[intOf];omega
       ·obtain rfl:k=i+q:=by omega
        have hne:(((aa s)[i+q]'hbk).toNat)=10:=by
         have:=HNS.out (by omega);rw[Lex.rk]at this;rw[hck,this];rfl
        have f1:((((aa s)[i+q]'hbk).toNat:Int)!=10)=false:=by rw[bne_eq_false_iff_eq];omega
        have K:=hid hne;clear hck hne;go_wp2_with fail;go_roundw
        case rel=>exact⟨i+q,cap,a,A,by omega,rfl,rfl,by omega,HO,HF2,HB⟩
        case measure=>simp[intOf];omega
      ·have f1:decide ((k:Int) < (s.length:Int))=false:=by rw[decide_eq_false_iff_not];omega
       obtain rfl:k=i+q:=by omega
       go_wp2_with fail;go_roundw
       case rel=>exact⟨i+q,cap,a,A,by omega,rfl,rfl,by omega,HO,HF2,HB⟩
       case measure=>simp[intOf];omega
    ·have e4:((((aa s)[i]'hbi).toNat:Int)==35)=false:=by rw[Z8];intro hh;exact hno (h35.2 (by omega))
     have hx:(aa s).extract i s.length=aa (s.drop i):=by rw[jG,List.take_of_length_le (by rw[List.length_drop];exact Z5 _)]
     have hnx:=fun w hm=>Cy (s.drop i) w (by rw[List.length_drop];omega) (by rw[List.length_drop];omega) hm
     have hnb:=Lex.Cz s i hlt hbl2 hno;have hnt:=Lex.CA s i hlt hbl2 hno;have hnle:=Lex.Eu (s.drop i);rw[List.length_drop]at hnle;have hx2:(aa s).extract i (i+Lex.next (s.drop i))=aa ((s.drop i).take (Lex.next (s.drop i))):=by rw[jG,Nat.add_sub_cancel_left]
     generalize Lex.next (s.drop i)=n at *
     have HNB:=hid hnb;have HNT:=hid hnt;have HNX:=hid (hnx wr (HM.out.below HB.out (Z5 _)));clear hnx hnb hnt hbl hbl2 h32 h10 h9 h35 hno
     by_cases hn0:n=0
     ·have f1:((n:Int)==0)=true:=by rw[beq_iff_eq];omega
      have hbad:=HF.out.bad (HNB.out hn0);have HBAD:=hid hbad;have K:=hid hn0;clear hn0 hbad;go_wp2_with fail;refine HNX.out.mono ?_;rintro e w1 ⟨rfl,rfl⟩;go_wp2_with fail;go_ret2;exact⟨HB.out.alloc HB.out.size _,.inr ⟨HBAD.out,_,rfl⟩⟩
     ·have f1:((n:Int)==0)=false:=by rw[Z8];omega
      have hft:=HF.out.tok (HNT.out hn0);have HFT:=hid hft;have K:=hid hn0;have hnpos:0 < n:=by omega
      clear hft hn0;have hbs:=HB.out.size;have ho:=HO.out;have h63:A.length+1≤maxLen:=by unfold maxLen;omega
      go_wp2_with fail;refine HNX.out.mono ?_;rintro e w1 ⟨rfl,rfl⟩;go_wp2_with (with_reducible refine ly wr wr.heap.size rfl rfl _ _ 153 rfl w.heap.size 162 (.agg #[.string ByteArray.empty,.int .i64 0]) 2 24 Tryz.underlying153 Ew rfl (by decide) a A.length cap _ rfl ho [.string (aa ((s.drop i).take n)),.int .i64 (i:Nat)] rfl (by simp[Value.oneCell']) rfl h63 (by omega) hbs ?_;intro a' cap' w' hown' hgrow hloc hsz' hex);have hlen:(A++[(((s.drop i).take n,i):Tok)]).length=A.length+1:=by simp
      have HLEN:=hid hlen;clear hlen;go_roundw
      case rel=>exact⟨i+n,cap',a',A++[((s.drop i).take n,i)],by omega,by go_num,by rw[HLEN.out],by rw[HLEN.out];omega,hid (by rw[HLEN.out,qJ];exact hown'),HFT,hid (eH HB.out ho (Z5 _) hbs hgrow)⟩
      case measure=>simp[intOf];omega
  ·obtain rfl:i=s.length:=by omega
   have hd:decide ((s.length:Int) < (s.length:Int))=false:=by simp
   have hfin:=HF.out.done (Z5 _);have HFIN:=hid hfin;clear hfin;go_wp2_with fail;go_ret2;exact⟨HB.out,.inl ⟨A,a,cap,HFIN.out,rfl,HO.out⟩⟩
end
section
namespace Ex
abbrev Tok:=List UInt8×Nat
inductive X where
 |num (at_ n:Nat)
 |name (at_:Nat) (s:List UInt8)
 |bin (at_:Nat) (op:List UInt8) (l r:X)
def levels:Nat→List (List UInt8)
 |0=>[[61,61],[33,61],[60],[62]]
 |1=>[[43],[45],[124]]
 |2=>[[42],[38]]
 |_=>[]
inductive Out where
 |ok (x:X) (r:List Tok)
 |bad (e p:Nat)
inductive Cat where
 |lev (k:Nat)
 |loop (k:Nat) (x:X)
 |one
abbrev jd:=List UInt8→Nat ⊕ Nat
def dP(E:Nat):List Tok→Nat
 |[]=>E
 |t::_=>t.2
inductive Par(num:jd)(E:Nat):Cat→Nat→List Tok→Out→Prop where
 |top {d T o}:Par num E .one d T o→Par num E (.lev 3) d T o
 |lev {k d T T' x o}:k < 3→Par num E (.lev (k+1)) d T (.ok x T')→Par num E (.loop k x) d T' o→Par num E (.lev k) d T o
 |gJ {k d T e p}:k < 3→Par num E (.lev (k+1)) d T (.bad e p)→Par num E (.lev k) d T (.bad e p)
 |done {k x d T}:(∀t T',T=t::T'→t.1∉levels k)→Par num E (.loop k x) d T (.ok x T)
 |more {k x d t T T' y o}:t.1∈levels k→Par num E (.lev (k+1)) d T (.ok y T')→Par num E (.loop k (.bin t.2 t.1 x y)) d T' o→Par num E (.loop k x) d (t::T) o
 |dJ {k x d t T e p}:t.1∈levels k→Par num E (.lev (k+1)) d T (.bad e p)→Par num E (.loop k x) d (t::T) (.bad e p)
 |paren {d t T u T' x}:t.1=[40]→d < 8→Par num E (.lev 0) (d+1) T (.ok x (u::T'))→u.1=[41]→Par num E .one d (t::T) (.ok x T')
 |bH {d t T T' x}:t.1=[40]→d < 8→Par num E (.lev 0) (d+1) T (.ok x T')→(∀u T'',T'=u::T''→u.1≠[41])→Par num E .one d (t::T) (.bad 3 (dP E T'))
 |cw {d t T e p}:t.1=[40]→d < 8→Par num E (.lev 0) (d+1) T (.bad e p)→Par num E .one d (t::T) (.bad e p)
 |deep {t T}:t.1=[40]→Par num E .one 8 (t::T) (.bad 4 t.2)
 |name {d t T c r}:t.1=c::r→Lex.letter c.toNat=true→t.1.length≤12→Par num E .one d (t::T) (.ok (.name t.2 t.1) T)
 |cy {d t T c r}:t.1=c::r→Lex.letter c.toNat=true→12 < t.1.length→Par num E .one d (t::T) (.bad 4 t.2)
 |none {d}:Par num E .one d [] (.bad 3 E)
 |mark {d t T c r}:t.1=c::r→Lex.letter c.toNat=false→Lex.digit c.toNat=false→t.1≠[40]→Par num E .one d (t::T) (.bad 3 t.2)
 |num {d t T c r n}:t.1=c::r→Lex.digit c.toNat=true→num t.1= .inl n→Par num E .one d (t::T) (.ok (.num t.2 n) T)
 |dU {d t T c r e}:t.1=c::r→Lex.digit c.toNat=true→num t.1= .inr e→Par num E .one d (t::T) (.bad e t.2)
theorem Par.less{num:jd}{E:Nat}{c:Cat}{d:Nat}{T:List Tok}{o:Out}(h:Par num E c d T o):∀x T',o= .ok x T'→T' <:+ T∧((∀k y,c≠.loop k y)→T'.length < T.length):=by
 induction h with
 |top _ ih=>intro x T' e;exact⟨(ih x T' e).1,fun _=>(ih x T' e).2 (by simp)⟩
 |lev _ _ _ ih1 ih2=>
  intro x T' e;have h1:=ih1 _ _ rfl;have h2:=ih2 x T' e;have h3:=h2.1.length_le;have h4:=h1.2 (by simp);exact⟨h2.1.trans h1.1,fun _=>by omega⟩
 |gJ=>intro x T' e;cases e
 |done _=>intro x T' e;cases e;exact⟨List.suffix_refl _,fun h=>absurd rfl (h _ _)⟩
 |more _ _ _ ih1 ih2=>
  intro x T' e;have h1:=ih1 _ _ rfl;have h2:=ih2 x T' e;exact⟨(h2.1.trans h1.1).trans (List.suffix_cons _ _),fun h=>absurd rfl (h _ _)⟩
 |dJ=>intro x T' e;cases e
 |paren _ _ _ _ ih=>
  intro x T' e;cases e;have:=(ih _ _ rfl).1;have h2:=(List.suffix_cons _ _).trans this;have h3:=this.length_le;simp only[Z6]at *
  exact⟨h2.trans (List.suffix_cons _ _),fun _=>by omega⟩
 |bH=>intro x T' e;cases e
 |cw=>intro x T' e;cases e
 |deep=>intro x T' e;cases e
 |name=>intro x T' e;cases e;exact⟨List.suffix_cons _ _,fun _=>by simp⟩
 |cy=>intro x T' e;cases e
 |none=>intro x T' e;cases e
 |mark=>intro x T' e;cases e
 |num=>intro x T' e;cases e;exact⟨List.suffix_cons _ _,fun _=>by simp⟩
 |dU=>intro x T' e;cases e
theorem oQ{num:jd}{E:Nat}{k d:Nat}(n:Nat)(hl:∀T:List Tok,T.length < n→(∀t∈T,t.1≠[])→∃o,Par num E (.lev (k+1)) d T o):∀(m:Nat) (T:List Tok) (x:X),T.length≤m→T.length≤n→(∀t∈T,t.1≠[])→∃o,Par num E (.loop k x) d T o
 |0,T,x,h,_,_=>by
  obtain rfl:=List.eq_nil_of_length_eq_zero (Nat.le_zero.1 h);exact⟨_,.done (by intro t T' e;cases e)⟩
 |m+1,T,x,h,hn,hne=>by
  cases T with
  |nil=>exact⟨_,.done (by intro t T' e;cases e)⟩
  |cons t T=>
   rw[Z6]at h hn
   by_cases ht:t.1∈levels k
   ·obtain⟨o,ho⟩:=hl T (by omega) (fun u hu=>hne u (by simp[hu]));cases o with
    |bad e p=>exact⟨_,.dJ ht ho⟩
    |ok y T'=>
     have hs:=(ho.less _ _ rfl).1;have:=hs.length_le;obtain⟨o2,h2⟩:=oQ n hl m T' (.bin t.2 t.1 x y) (by omega) (by omega) (fun u hu=>hne u (List.mem_cons_of_mem _ (hs.subset hu)));exact⟨o2,.more ht ho h2⟩
   ·exact⟨_,.done (by intro u T' e;cases e;exact ht)⟩
theorem total{num:jd}{E:Nat}:∀(n:Nat) (T:List Tok) (d:Nat),T.length≤n→(∀t∈T,t.1≠[])→d≤8→∀k,k≤3→∃o,Par num E (.lev k) d T o
 |n,T,d,h,hne,hd=>by
  have hone:∃o,Par num E .one d T o:=by
   cases T with
   |nil=>exact⟨_,.none⟩
   |cons t T=>
    rw[Z6]at h;obtain⟨c,r,hc⟩:∃c r,t.1=c::r:=by
     cases ht:t.1 with
     |nil=>exact absurd ht (hne t (by simp))
     |cons c r=>exact⟨c,r,rfl⟩
    by_cases h1:t.1=[40]
    ·by_cases h2:d < 8
     ·cases n with
      |zero=>omega
      |succ n=>
       obtain⟨o,ho⟩:=total n T (d+1) (by omega) (fun u hu=>hne u (by simp[hu])) (by omega) 0 (by omega);cases o with
       |bad e p=>exact⟨_,.cw h1 h2 ho⟩
       |ok x T'=>
        cases T' with
        |nil=>exact⟨_,.bH h1 h2 ho (by intro u T'' e;cases e)⟩
        |cons u T'=>
         by_cases h3:u.1=[41]
         ·exact⟨_,.paren h1 h2 ho h3⟩
         ·exact⟨_,.bH h1 h2 ho (by intro u T'' e;cases e;exact h3)⟩
     ·obtain rfl:d=8:=by omega
      exact⟨_,.deep h1⟩
    ·by_cases h2:Lex.letter c.toNat=true
     ·by_cases h3:t.1.length≤12
      ·exact⟨_,.name hc h2 h3⟩
      ·exact⟨_,.cy hc h2 (by omega)⟩
     ·by_cases h3:Lex.digit c.toNat=true
      ·cases hn:num t.1 with
       |inl m=>exact⟨_,.num hc h3 hn⟩
       |inr e=>exact⟨_,.dU hc h3 hn⟩
      ·exact⟨_,.mark hc (by simpa using h2) (by simpa using h3) h1⟩
  intro k hk;obtain⟨j,hj⟩:∃j,j=3 - k:=⟨_,rfl⟩
  induction j generalizing k with
  |zero=>
   obtain rfl:k=3:=by omega
   obtain⟨o,ho⟩:=hone;exact⟨o,.top ho⟩
  |succ j ih=>
   obtain⟨o,ho⟩:=ih (k+1) (by omega) (by omega);cases o with
   |bad e p=>exact⟨_,.gJ (by omega) ho⟩
   |ok x T'=>
    have hlt:=(ho.less _ _ rfl).2 (by simp);have hsuf:=(ho.less _ _ rfl).1;have hsub:∀T'':List Tok,T''.length < T.length→(∀t∈T'',t.1≠[])→∃o,Par num E (.lev (k+1)) d T'' o:=by
     intro T'' h1 h2;cases n with
     |zero=>omega
     |succ n=>exact total n T'' d (by omega) h2 hd (k+1) (by omega)
    obtain⟨o2,h2⟩:=oQ T.length hsub T'.length T' x (Z5 _) (by omega) (fun u hu=>hne u (hsuf.subset hu));exact⟨o2,.lev (by omega) ho h2⟩
def aD(op:List UInt8):Nat:=if op∈levels 0 then 0 else if op∈levels 1 then 1 else if op∈levels 2 then 2 else 3
def hold:X→Nat
 | .bin _ op _ _=>aD op
 |_=>3
abbrev Dec:=Nat→List UInt8
def pr(dec:Dec):X→List UInt8
 | .num _ n=>dec n
 | .name _ s=>s
 | .bin _ op l r=>(if hold l < aD op then 40::(pr dec l++[41])else pr dec l)++32::(op++32::(if hold r < aD op+1 then 40::(pr dec r++[41])else pr dec r))
def pt(dec:Dec):X→List (List UInt8)
 | .num _ n=>[dec n]
 | .name _ s=>[s]
 | .bin _ op l r=>(if hold l < aD op then [40]::(pt dec l++[[41]])else pt dec l)++op::(if hold r < aD op+1 then [40]::(pt dec r++[[41]])else pt dec r)
def kc(num:jd)(dec:Dec):X→Prop
 | .num _ n=>dec n≠[]∧(∀c∈dec n,Lex.digit c.toNat=true)∧num (dec n)= .inl n
 | .name _ s=>s≠[]∧s.length≤12∧(∀c∈s,Lex.word c=true)∧∃c r,s=c::r∧Lex.letter c.toNat=true
 | .bin _ op l r=>aD op < 3∧kc num dec l∧kc num dec r
def aX(dec:Dec):X→Nat
 | .bin _ op l r=>max (if hold l < aD op then aX dec l+1 else aX dec l) (if hold r < aD op+1 then aX dec r+1 else aX dec r)
 |_=>0
inductive gh:X→X→Prop where
 |num (a b n:Nat):gh (.num a n) (.num b n)
 |name (a b:Nat) (s:List UInt8):gh (.name a s) (.name b s)
 |bin (a b:Nat) (op:List UInt8) {l l' r r':X}:gh l l'→gh r r'→gh (.bin a op l r) (.bin b op l' r')
theorem gh.pr{dec:Dec}{x y:X}(h:gh x y):hold x=hold y∧Ex.pr dec x=Ex.pr dec y:=by
 induction h with
 |num=>exact⟨rfl,rfl⟩
 |name=>exact⟨rfl,rfl⟩
 |bin a b op _ _ ih1 ih2=>exact⟨rfl,by unfold Ex.pr;rw[ih1.1,ih1.2,ih2.1,ih2.2]⟩
def Sep(r:List UInt8):Prop:=r=[]∨∃c t,r=c::t∧(c=32∨c=41)
def texts(l:List UInt8)(i:Nat):Option (List (List UInt8)):=(Lex.cZ l i).map (·.map Prod.fst)
theorem xh:∀(f:Nat) (l:List UInt8) (i j:Nat),(Lex.iZ f l i).map (·.map Prod.fst)=(Lex.iZ f l j).map (·.map Prod.fst):=by
 intro f
 induction f with
 |zero=>intro l i j;rfl
 |succ f ih=>
  intro l i j;cases l with
  |nil=>rfl
  |cons c l=>
   unfold Lex.iZ;split
   ·exact ih _ _ _
   ·split
    ·exact ih _ _ _
    ·split
     ·rfl
     ·have:=ih ((c::l).drop (Lex.next (c::l))) (i+Lex.next (c::l)) (j+Lex.next (c::l));rw[Option.map_map,Option.map_map];have e:∀k:Nat,((fun x:List Tok=>x.map Prod.fst)∘fun T=>((c::l).take (Lex.next (c::l)),k)::T)=(fun x=>(c::l).take (Lex.next (c::l))::x)∘(fun x:List Tok=>x.map Prod.fst):=fun k=>rfl
      rw[e,e,← Option.map_map,← Option.map_map,this]
theorem eo(l:List UInt8)(i j:Nat):texts l i=texts l j:=xh _ l i j
theorem bQ(l:List UInt8)(i:Nat):texts (32::l) i=texts l 0:=by
 unfold texts;rw[Lex.fN 32 l i (.inl rfl)];exact eo l _ _
theorem rm(x r:List UInt8)(i:Nat)(c:UInt8)(y:List UInt8)(hx:x=c::y)(h1:¬(c=32∨c=10∨c=9))(h2:c≠35)(h3:Lex.next (x++r)=x.length):texts (x++r) i=(texts r 0).map (x:: ·):=by
 subst hx;unfold texts;rw[List.cons_append]at h3⊢;rw[Lex.lu c (y++r) i h1 h2 (by rw[h3];simp),h3];rw[← List.cons_append,List.take_left,List.drop_left,Option.map_map];have:=eo r (i+(c::y).length) 0;unfold texts at this;rw[← this,Option.map_map];rfl
theorem xi(x r:List UInt8)(i:Nat)(hx:x≠[])(hw:∀c∈x,Lex.word c=true)(hr:Sep r∨∃c t,r=c::t∧Lex.word c=false):texts (x++r) i=(texts r 0).map (x:: ·):=by
 obtain⟨c,y,rfl⟩:∃c y,x=c::y:=by cases x with|nil=>exact absurd rfl hx|cons c y=>exact⟨c,y,rfl⟩
 have hc:=hw c (by simp);have hne:¬(c=32∨c=10∨c=9)∧c≠35:=by
  constructor
  ·rintro(rfl|rfl|rfl) <;> exact absurd hc (by decide)
  ·rintro rfl;exact absurd hc (by decide)
 refine rm (c::y) r i c y rfl hne.1 hne.2 ?_;rw[List.cons_append,Lex.mx,if_pos hc];have hr2:r=[]∨∃c t,r=c::t∧Lex.word c=false:=by
  rcases hr with(h|⟨c,t,h,h2⟩)|h
  ·exact .inl h
  ·exact .inr ⟨c,t,h,by rcases h2 with rfl|rfl <;> decide⟩
  ·exact .inr h
 rcases hr2 with rfl|⟨d,t,rfl,hd⟩
 ·rw[List.append_nil];have ht:∀l:List UInt8,(∀c∈l,Lex.word c=true)→l.takeWhile Lex.word=l:=by
   intro l
   induction l with
   |nil=>intro _;rfl
   |cons a l ih=>intro h;rw[List.takeWhile_cons,if_pos (h a (by simp)),ih (fun c hc=>h c (by simp[hc]))]
  rw[ht _ hw]
 ·rw[← List.cons_append,Lex.oM Lex.word d t hd (c::y) hw]
theorem fy(m:List UInt8)(c:UInt8)(y r:List UInt8)(i:Nat)(hm:m=c::y)(hc:Lex.word c=false)(h1:¬(c=32∨c=10∨c=9))(h2:c≠35)(hf:(Lex.marks.find? fun k=>k.isPrefixOf (m++r))=some m):texts (m++r) i=(texts r 0).map (m:: ·):=by
 refine rm m r i c y hm h1 h2 ?_;subst hm;rw[List.cons_append,Lex.mx,if_neg (by rw[hc];decide)];unfold Lex.eQ;rw[← List.cons_append,hf]
theorem xj(r:List UInt8)(i:Nat):texts (40::r) i=(texts r 0).map ([40]:: ·):=fy [40] 40 [] r i rfl (by decide) (by decide) (by decide) rfl
theorem xl(r:List UInt8)(i:Nat):texts (41::r) i=(texts r 0).map ([41]:: ·):=fy [41] 41 [] r i rfl (by decide) (by decide) (by decide) rfl
theorem cG(k:Nat):∀m∈levels k,m∈Lex.marks∧aD m=k∧k < 3:=by
 intro m hm
 match k,hm with
 |0,hm=>exact(by decide:∀m∈levels 0,m∈Lex.marks∧aD m=0∧0 < 3) m hm
 |1,hm=>exact(by decide:∀m∈levels 1,m∈Lex.marks∧aD m=1∧1 < 3) m hm
 |2,hm=>exact(by decide:∀m∈levels 2,m∈Lex.marks∧aD m=2∧2 < 3) m hm
 |n+3,hm=>exact absurd hm (by simp[levels])
theorem lz(op:List UInt8)(h:aD op < 3):op∈levels (aD op):=by
 unfold aD at *
 by_cases h0:op∈levels 0
 ·rw[if_pos h0];exact h0
 ·rw[if_neg h0]at h⊢
  by_cases h1:op∈levels 1
  ·rw[if_pos h1];exact h1
  ·rw[if_neg h1]at h⊢
   by_cases h2:op∈levels 2
   ·rw[if_pos h2];exact h2
   ·rw[if_neg h2]at h;omega
theorem CB(op r:List UInt8)(i:Nat)(h:aD op < 3):texts (op++32::r) i=(texts r 0).map (op:: ·):=by
 have hm:=(cG _ op (lz op h)).1;obtain⟨c,l,h1,h2,h3,h4⟩:=Lex.rj op hm;rw[fy op c l (32::r) i h1 h2 h3 h4 (Lex.oN op hm 32 r (.inl rfl)),bQ]
theorem xo(c:UInt8)(h:Lex.digit c.toNat=true):Lex.word c=true:=by unfold Lex.word;rw[h,Bool.or_true]
end Ex
end
section
open Go.RowKit
namespace Rd
abbrev Tok:=List UInt8×Nat
def zu(w:World)(rb:Nat)(a:Option Addr)(R:List Tok):Prop:=R=[]∨∃g off,a=some ⟨g,off,none⟩∧g < rb∧∀j,j < R.length→w.cell? ⟨g,off+j * 2,none⟩=some (.string (aa (R.getD j ([],0)).1))∧w.cell? ⟨g,off+j * 2+1,none⟩=some (.int .i64 ((R.getD j ([],0)).2:Nat))
def Rdr(w:World)(rb:Nat)(R:List Tok)(E:Nat):Prop:=∃a c,ad w rb 0 157 [.slice a R.length c,.int .i64 (E:Nat)]∧R.length≤c∧zu w rb a R
def ak:List Tok→List UInt8
 |[]=>[]
 |t::_=>t.1
theorem ah{a b c:World}{r:Option Nat}(h:a.grownBy b r)(k:b.grownBy c r):a.grownBy c r:=
 ⟨k.os.trans h.os,k.tape.trans h.tape,k.output.trans h.output,Nat.le_trans h.size k.size,fun i hi hne=>(k.block i (Nat.lt_of_lt_of_le hi h.size) hne).trans (h.block i hi hne)⟩
theorem Rdr.lt{w:World}{rb:Nat}{R:List Tok}{E:Nat}(h:Rdr w rb R E):rb < w.heap.size:=by
 obtain⟨a,c,h,_⟩:=h;exact h.lt
theorem Rdr.below{w w':World}{rb:Nat}{R:List Tok}{E:Nat}(h:Rdr w rb R E)(hb:Below w.heap.size w w'):Rdr w' rb R E:=by
 have hlt:=h.lt;obtain⟨a,c,h1,h2,h3⟩:=h;refine⟨a,c,h1.below hb hlt,h2,?_⟩;rcases h3 with h|⟨g,off,e1,e2,e3⟩
 ·exact .inl h
 ·refine .inr ⟨g,off,e1,e2,fun j hj=> ?_⟩;exact⟨(hb.cell (p:=⟨g,off+j * 2,none⟩) (Nat.lt_trans e2 hlt)).trans (e3 j hj).1,(hb.cell (p:=⟨g,off+j * 2+1,none⟩) (Nat.lt_trans e2 hlt)).trans (e3 j hj).2⟩
theorem ar{w w':World}(h:Below w.heap.size w w')(r:Option Nat):w.grownBy w' r:=⟨h.os,h.tape,h.output,h.size,fun k hk _=>h.block k hk⟩
end Rd
open Rd
theorem bS(rb:Nat)(R:List Tok)(E:Nat)(w:World)(h:Rdr w rb R E):
  Calls Tryz.prog 52 #[.pointer (some ⟨rb,0,none⟩)] w fun e w'=>e= .returned (.int .i64 (Ex.dP E R:Nat))∧w'=w:=by
 obtain⟨a,c,h1,h2,h3⟩:=h;have c0:=h1.cell0 0 (by simp);have c1:=h1.cell0 1 (by simp);simp only[Z0,Z1]at c0 c1;cases R with
 |nil=>
  rw[Y3]at c0;go_enter Tryz.func52,Tryz.ntmps52;go_wp2_with fail;go_ret;exact⟨rfl,rfl⟩
 |cons t R=>
  rcases h3 with h|⟨g,off,rfl,e2,e3⟩
  ·cases h
  have ct:=(e3 0 (by simp)).2;simp only[List.getD_cons_zero,Nat.zero_mul,Y2]at ct;have hl:(((t::R).length:Int)==0)=false:=by rw[Z8,Z6];omega
  have hln:((t::R).length==0)=false:=by rw[Z8,Z6];omega
  have hpos:(0:Int) < ((t::R).length:Int):=by rw[Z6];omega
  have hposn:0 < (t::R).length:=by rw[Z6];omega
  obtain⟨n,hn⟩:∃n,n=(t::R).length:=⟨_,rfl⟩;rw[← hn]at c0 hl hln hpos hposn;clear hn h1 h2 e3;go_enter Tryz.func52,Tryz.ntmps52;go_wp2_with fail;go_ret;exact⟨rfl,rfl⟩
theorem bG(rb:Nat)(R:List Tok)(E:Nat)(w:World)(h:Rdr w rb R E):
  Calls Tryz.prog 50 #[.pointer (some ⟨rb,0,none⟩)] w fun e w'=>e= .returned (.string (aa (ak R)))∧w'=w:=by
 obtain⟨a,c,h1,h2,h3⟩:=h;have c0:=h1.cell0 0 (by simp);simp only[Z0]at c0;cases R with
 |nil=>
  rw[Y3]at c0;go_enter Tryz.func50,Tryz.ntmps50;go_wp2_with fail;go_ret;exact⟨rfl,rfl⟩
 |cons t R=>
  rcases h3 with h|⟨g,off,rfl,e2,e3⟩
  ·cases h
  have ct:=(e3 0 (by simp)).1;simp only[List.getD_cons_zero,Nat.zero_mul,Y2]at ct;have hl:(((t::R).length:Int)==0)=false:=by rw[Z8,Z6];omega
  have hln:((t::R).length==0)=false:=by rw[Z8,Z6];omega
  have hpos:(0:Int) < ((t::R).length:Int):=by rw[Z6];omega
  have hposn:0 < (t::R).length:=by rw[Z6];omega
  obtain⟨n,hn⟩:∃n,n=(t::R).length:=⟨_,rfl⟩;rw[← hn]at c0 hl hln hpos hposn;clear hn h1 h2 e3;go_enter Tryz.func50,Tryz.ntmps50;go_wp2_with fail;go_ret;exact⟨rfl,rfl⟩
def aC(g:Nat):Ending:= .panicked [{v:= .iface 159 (.agg #[.iface 120 (.pointer (some ⟨g,0,none⟩))]),recovered:=false}]
theorem dw(rb:Nat)(e p:Nat)(w:World):
  Calls Tryz.prog 51 #[.pointer (some ⟨rb,0,none⟩),.int .i64 (e:Nat),.int .i64 (p:Nat)] w fun en w'=>en=aC w.heap.size∧ad w' w.heap.size 0 122 [.int .i64 (e:Nat),.int .i64 (p:Nat)]∧Below w.heap.size w w':=by
 have hrow:=ad.new w 122 #[.int .i64 (e:Nat),.int .i64 (p:Nat)];have hb:=(Y4 w.heap.size w).alloc (Z5 _) (.cells #[.int .i64 (e:Nat),.int .i64 (p:Nat)] 122);go_enter Tryz.func51,Tryz.ntmps51;go_wp2_with fail;exact⟨rfl,rfl,hrow,hb⟩
theorem Rd.Rdr.next{w:World}{rb:Nat}{t:Tok}{R:List Tok}{E:Nat}(h:Rdr w rb (t::R) E):∃g off c,w.cell? ⟨rb,0,none⟩=some (.slice (some ⟨g,off,none⟩) (R.length+1) c)∧w.frozen? ⟨rb,0,none⟩=false∧R.length+1≤c∧
  (∀a',(R.length+1 < c∨R=[]→a'=some ⟨g,off+2,none⟩∨R=[])→(c=R.length+1→R=[]∨a'=some ⟨g,off+2,none⟩)→Rdr (w.setCell ⟨rb,0,none⟩ (.slice a' R.length (c - 1))) rb R E∧w.grownBy (w.setCell ⟨rb,0,none⟩ (.slice a' R.length (c - 1))) (some rb)):=by
 have hrb:=h.lt;obtain⟨a,c,h1,h2,h3⟩:=h;rw[Z6]at h1 h2;rcases h3 with h|⟨g,off,rfl,e2,e3⟩
 ·cases h
 have c0:=h1.cell0 0 (by simp);simp only[Z0]at c0;refine⟨g,off,c,c0,h1.frozen 0 (by simp),h2,fun a' ha hc=> ?_⟩;have hg:=mz (kG w (some rb)) (p:=⟨rb,0,none⟩) rfl (.slice a' R.length (c - 1));refine⟨⟨a',c - 1,?_,by omega,?_⟩,hg⟩
 ·have:=h1.aw 0 (by simp) (.slice a' R.length (c - 1));exact this
 ·by_cases hR:R=[]
  ·exact .inl hR
  ·have ha2:a'=some ⟨g,off+2,none⟩:=by
    rcases Nat.lt_or_ge (R.length+1) c with hlt|hge
    ·rcases ha (.inl hlt)with h|h
     ·exact h
     ·exact absurd h hR
    ·rcases hc (by omega)with h|h
     ·exact absurd h hR
     ·exact h
   refine .inr ⟨g,off+2,ha2,e2,fun j hj=> ?_⟩;have hb:(w.setCell ⟨rb,0,none⟩ (.slice a' R.length (c - 1))).heap[g]? =w.heap[g]? :=hg.block g (by omega) (fun e=>by injection e with e;omega);have h9:=e3 (j+1) (by rw[Z6];omega);rw[List.getD_cons_succ]at h9;have e1:off+(j+1) * 2=off+2+j * 2:=by omega
   rw[e1]at h9;exact⟨(World.cell?_of_block (a:=⟨g,off+2+j * 2,none⟩) hb).trans h9.1,(World.cell?_of_block (a:=⟨g,off+2+j * 2+1,none⟩) hb).trans h9.2⟩
theorem ez(rb:Nat)(t:Tok)(R:List Tok)(E:Nat)(w:World)(h:Rdr w rb (t::R) E)(ht:t.1≠[]):
  Calls Tryz.prog 85 #[.pointer (some ⟨rb,0,none⟩),.string (aa t.1)] w fun e w'=>e= .returned (.bool true)∧Rdr w' rb R E∧w.grownBy w' (some rb):=by
 have HT:=hid (bG rb (t::R) E w h);have hemp:(t.1==[])=false:=by rw[Z8];exact ht
 have hemp2:t.1.isEmpty=false:=by cases h9:t.1 with|nil=>exact absurd h9 ht|cons a b=>rfl
 have hto:ak (t::R)=t.1:=rfl;rw[hto]at HT;obtain⟨g,off,c,c0,hf,hc,hK⟩:=h.next;have HK:=hid hK;generalize t.1=s at *
 obtain⟨n,hn⟩:∃n,n=R.length:=⟨_,rfl⟩;rw[← hn]at HK c0 hc;have HN:=hid hn;have h1c:(1:Int)≤(n:Int)+1:=by omega
 have h1n:1≤n+1:=by omega
 have hnc:(n:Int)+1≤(c:Int):=by omega
 clear hK h ht hn hto
 by_cases hcap:c=1
 ·subst hcap;have hR:R=[]:=List.eq_nil_of_length_eq_zero (by have:=HN.out;omega);have hn0:n=0:=by omega
  have hK1:=HK.out (some ⟨g,off,none⟩) (fun _=> .inr hR) (fun _=> .inl hR);rw[hn0]at hK1;clear hR hn0;go_enter Tryz.func85,Tryz.ntmps85;go_wp2_with fail;refine HT.out.mono ?_;rintro e w1 ⟨rfl,rfl⟩;go_wp2_with fail;go_ret;exact⟨rfl,hK1⟩
 ·have hcap2:¬1=c:=fun e=>hcap e.symm
  have HK1:=hid (HK.out (some ⟨g,off+2,none⟩) (fun _=> .inl rfl) (fun _=> .inr rfl));go_enter Tryz.func85,Tryz.ntmps85;go_wp2_with fail;refine HT.out.mono ?_;rintro e w1 ⟨rfl,rfl⟩;go_wp2_with fail;go_ret;exact⟨rfl,HK1.out⟩
theorem dn(rb:Nat)(R:List Tok)(E:Nat)(s:List UInt8)(w:World)(h:Rdr w rb R E)(hs:s≠[])(hno:ak R≠s):
  Calls Tryz.prog 85 #[.pointer (some ⟨rb,0,none⟩),.string (aa s)] w fun e w'=>e= .returned (.bool false)∧w'=w:=by
 have HT:=hid (bG rb R E w h);generalize ak R=x at *
 have hne:(x==s)=false:=by rw[Z8];exact hno
 have hne2:(x !=s)=true:=by rw[bne_iff_ne];exact hno
 clear hno h;go_enter Tryz.func85,Tryz.ntmps85;go_wp2_with fail;refine HT.out.mono ?_;rintro e w1 ⟨rfl,rfl⟩;go_wp2_with fail;go_ret;exact⟨rfl,rfl⟩
theorem dX(rb:Nat)(t:Tok)(R:List Tok)(E:Nat)(w:World)(h:Rdr w rb (t::R) E)(ht:t.1≠[]):
  Calls Tryz.prog 88 #[.pointer (some ⟨rb,0,none⟩)] w fun e w'=>e= .returned (.string (aa t.1))∧Rdr w' rb R E∧w.grownBy w' (some rb):=by
 have HT:=hid (bG rb (t::R) E w h);have hemp:(t.1==[])=false:=by rw[Z8];exact ht
 have hemp2:t.1.isEmpty=false:=by cases h9:t.1 with|nil=>exact absurd h9 ht|cons a b=>rfl
 have hto:ak (t::R)=t.1:=rfl;rw[hto]at HT;obtain⟨g,off,c,c0,hf,hc,hK⟩:=h.next;have HK:=hid hK;generalize t.1=s at *
 obtain⟨n,hn⟩:∃n,n=R.length:=⟨_,rfl⟩;rw[← hn]at HK c0 hc;have HN:=hid hn;have h1c:(1:Int)≤(n:Int)+1:=by omega
 have h1n:1≤n+1:=by omega
 have hnc:(n:Int)+1≤(c:Int):=by omega
 clear hK h ht hn hto
 by_cases hcap:c=1
 ·subst hcap;have hR:R=[]:=List.eq_nil_of_length_eq_zero (by have:=HN.out;omega);have hn0:n=0:=by omega
  have hK1:=HK.out (some ⟨g,off,none⟩) (fun _=> .inr hR) (fun _=> .inl hR);rw[hn0]at hK1;clear hR hn0;go_enter Tryz.func88,Tryz.ntmps88;go_wp2_with fail;refine HT.out.mono ?_;rintro e w1 ⟨rfl,rfl⟩;go_wp2_with fail;go_ret;exact⟨rfl,hK1⟩
 ·have hcap2:¬1=c:=fun e=>hcap e.symm
  have HK1:=hid (HK.out (some ⟨g,off+2,none⟩) (fun _=> .inl rfl) (fun _=> .inr rfl));go_enter Tryz.func88,Tryz.ntmps88;go_wp2_with fail;refine HT.out.mono ?_;rintro e w1 ⟨rfl,rfl⟩;go_wp2_with fail;go_ret;exact⟨rfl,HK1.out⟩
theorem oR(rb:Nat)(t:Tok)(R:List Tok)(E:Nat)(w:World)(h:Rdr w rb (t::R) E)(ht:t.1≠[]):
  Calls Tryz.prog 53 #[.pointer (some ⟨rb,0,none⟩),.string (aa t.1)] w fun e w'=>e= .returned (.tuple #[])∧Rdr w' rb R E∧w.grownBy w' (some rb):=by
 have HT:=hid (ez rb t R E w h ht);generalize t.1=s at *
 clear h;go_enter Tryz.func53,Tryz.ntmps53;go_wp2_with fail;refine HT.out.mono ?_;rintro e w1 ⟨rfl,h1,h2⟩;go_wp2_with fail
 go_end0
 exact⟨rfl,h1,h2⟩
theorem zv(rb:Nat)(R:List Tok)(E:Nat)(s:List UInt8)(w:World)(h:Rdr w rb R E)(hs:s≠[])(hno:ak R≠s):
  Calls Tryz.prog 53 #[.pointer (some ⟨rb,0,none⟩),.string (aa s)] w fun en w'=>en=aC w.heap.size∧ad w' w.heap.size 0 122 [.int .i64 3,.int .i64 (Ex.dP E R:Nat)]∧Below w.heap.size w w':=by
 have HT:=hid (dn rb R E s w h hs hno);have HA:=hid (bS rb R E w h);generalize Ex.dP E R=p at *
 have hf:=dw rb 3 p w;unfold aC at hf⊢;have HF:=hid hf;clear h hno hf;go_enter Tryz.func53,Tryz.ntmps53;go_wp2_with fail;refine HT.out.mono ?_;rintro e w1 ⟨rfl,rfl⟩;go_wp2_with fail;refine HA.out.mono ?_;rintro e w2 ⟨rfl,rfl⟩;go_wp2_with fail;refine HF.out.mono ?_;rintro e w3 ⟨rfl,h1,h2⟩;go_wp2_with fail;exact⟨rfl,rfl,h1,h2⟩
end
section
open Go.RowKit
theorem oS(l:List UInt8)(i:Nat)(b:UInt8):(cT l).set i (.int .u8 ((b.toNat:Nat):Int))=cT (l.set i b):=Av l i b
def zw{α:Type}(xs:List α)(d:α)(i j:Nat):List α:=(xs.set i (xs.getD j d)).set j (xs.getD i d)
def gR{α:Type}(xs:List α)(k:Nat):List α:=(xs.drop (xs.length - k)).reverse++(xs.drop k).take (xs.length - 2 * k)++(xs.take k).reverse
theorem fA{α:Type}(xs:List α)(k:Nat)(h:2 * k≤xs.length):(gR xs k).length=xs.length:=by simp[gR];omega
theorem xp{α:Type}(xs:List α):gR xs 0=xs:=by simp[gR]
theorem gS{α:Type}(xs:List α)(k:Nat)(h:2 * k≤xs.length)(q:Nat)(hq:q < xs.length):
  (gR xs k)[q]? =if q < k∨xs.length - k≤q then xs[xs.length - 1 - q]? else xs[q]? :=by
 unfold gR;rw[List.append_assoc]
 by_cases h1:q < k
 ·rw[if_pos (.inl h1),List.getElem?_append_left (by simp;omega),List.getElem?_reverse (by simp;omega),List.getElem?_drop,List.length_drop]
  congr 1;omega
 ·rw[List.getElem?_append_right (by simp;omega)];have hl1:(xs.drop (xs.length - k)).reverse.length=k:=by simp;omega
  rw[hl1]
  by_cases h2:xs.length - k≤q
  ·rw[if_pos (.inr h2),List.getElem?_append_right (by simp;omega)];have hl2:((xs.drop k).take (xs.length - 2 * k)).length=xs.length - 2 * k:=by simp;omega
   rw[hl2,List.getElem?_reverse (by simp;omega),List.getElem?_take,List.length_take];rw[if_pos (by omega)]
   congr 1;omega
  ·rw[if_neg (by omega),List.getElem?_append_left (by simp;omega),List.getElem?_take,if_pos (by omega),List.getElem?_drop]
   congr 1;omega
theorem xq{α:Type}(xs:List α)(d:α)(k:Nat)(h:2 * k+1 < xs.length):zw (gR xs k) d k (xs.length - 1 - k)=gR xs (k+1):=by
 apply List.ext_getElem?;intro q;have hl:=fA xs k (by omega);have hl':=fA xs (k+1) (by omega)
 by_cases hq:q < xs.length
 ·rw[gS xs (k+1) (by omega) q hq];unfold zw;have g1:=gS xs k (by omega) k (by omega);have g2:=gS xs k (by omega) (xs.length - 1 - k) (by omega);rw[if_neg (by omega)]at g1 g2;have e1:(gR xs k).getD k d=xs.getD k d:=by rw[List.getD_eq_getElem?_getD,g1,List.getD_eq_getElem?_getD]
  have e2:(gR xs k).getD (xs.length - 1 - k) d=xs.getD (xs.length - 1 - k) d:=by rw[List.getD_eq_getElem?_getD,g2,List.getD_eq_getElem?_getD]
  rw[e1,e2,List.getElem?_set,List.length_set,hl]
  by_cases h1:xs.length - 1 - k=q
  ·rw[if_pos h1,if_pos (by omega),if_pos (.inr (by omega)),List.getD_eq_getElem?_getD,Y1 (show k < xs.length by omega)];rw[show xs.length - 1 - q=k from by omega,Y1 (show k < xs.length by omega)];rfl
  ·rw[if_neg h1,List.getElem?_set,hl]
   by_cases h2:k=q
   ·subst h2;rw[if_pos rfl,if_pos (by omega),if_pos (.inl (by omega)),List.getD_eq_getElem?_getD,Y1 (show xs.length - 1 - k < xs.length by omega)];rfl
   ·rw[if_neg h2,gS xs k (by omega) q hq]
    by_cases h3:q < k∨xs.length - k≤q
    ·rw[if_pos h3,if_pos (by omega)]
    ·rw[if_neg h3,if_neg (by omega)]
 ·rw[List.getElem?_eq_none (by simp[zw,hl];omega),List.getElem?_eq_none (by omega)]
theorem xr{α:Type}(xs:List α)(k:Nat)(h:2 * k≤xs.length)(h2:xs.length≤2 * k+1):gR xs k=xs.reverse:=by
 apply List.ext_getElem?;intro q
 by_cases hq:q < xs.length
 ·rw[gS xs k h q hq,List.getElem?_reverse (by simpa using hq)]
  by_cases h3:q < k∨xs.length - k≤q
  ·rw[if_pos h3]
  ·rw[if_neg h3];congr 1;omega
 ·rw[List.getElem?_eq_none (by rw[fA _ _ h];omega),List.getElem?_eq_none (by simp;omega)]
theorem qK(g n cap:Nat)(e:TypeId)(L:List UInt8)(w:World)(hn:L.length=n)(hn2:n≤4611686018427387904)(h:ad w g 0 e (cT L)):
  Calls Tryz.prog 150 #[.slice (some ⟨g,0,none⟩) n cap] w fun e' w'=>e'= .returned (.tuple #[])∧ad w' g 0 e (cT L.reverse)∧w.grownBy w' (some g):=by
 have HN:=hid hn;clear hn;go_enter Tryz.func150,Tryz.ntmps150;go_wp2_with fail;go_loopw [2,3] (fun i j wr=>∃k:Nat,2 * k≤n∧i= .int .i64 k∧j= .int .i64 ((n:Int) - 1 - (k:Int))∧ad wr g 0 e (cT (gR L k))∧w.grownBy wr (some g)) (fun i _ _=>n - (intOf i).toNat)
 case atStart=>exact⟨0,by omega,rfl,by go_num,by rw[xp];exact h,⟨rfl,rfl,rfl,Z5 _,fun _ _ _=>rfl⟩⟩
 case round=>
  obtain⟨k,hk,rfl,rfl,hrow,hg⟩:=hrel
  by_cases hlt:2 * k+1 < n
  ·have hst:=xq L 0 k (by rw[HN.out];exact hlt);have hrl:=fA L k (by rw[HN.out];exact hk);rw[HN.out]at hst hrl;obtain⟨m,hm⟩:∃m,m=n - 1 - k:=⟨_,rfl⟩;have hj:(n:Int) - 1 - (k:Int)=(m:Int):=by omega
   rw[← hm]at hst;rw[hj];have hkm:k < m:=by omega
   have hmn:m < n:=by omega
   have hkn:k < n:=by omega
   have hkmI:(k:Int) < (m:Int):=by omega
   have hmnI:(m:Int) < (n:Int):=by omega
   have hknI:(k:Int) < (n:Int):=by omega
   have hk2:m+k+1=n:=by omega
   have HK2:=hid hk2;clear hk2;clear hm hj hlt;generalize hM:gR L k=M at *
   have hc1:=hrow.F4 k (by omega);have hc2:=hrow.F4 m (by omega);have hf1:=hrow.frozen0 k (by rw[fx];omega);have hf2:=hrow.frozen0 m (by rw[fx];omega);have HRL:=hid hrl;clear hrl;have HM:=hid hM;clear hM;unfold zw at hst;generalize hx:M.getD k 0=x at *
   generalize hy:M.getD m 0=y at *
   have HST:=hid hst;clear hst;have HX:=hid hx;clear hx;have HY:=hid hy;clear hy;have hne:(k=m)=False:=by simp;omega
   have hne2:(m=k)=False:=by simp;omega
   go_wp2_with fail
   go_region
   all_goals go_wp2_with fail
   go_roundw
   case rel=>
    have h1:=hrow.aw k (by rw[fx,HRL.out];exact hkn) (.int .u8 ((y.toNat:Nat):Int));rw[oS]at h1;have h2:=h1.aw m (by rw[fx,List.length_set,HRL.out];exact hmn) (.int .u8 ((x.toNat:Nat):Int));rw[oS,HST.out]at h2;exact⟨k+1,by have:=HK2.out;omega,by go_num,by have:=HK2.out;go_num,h2.drew,xe (mz (mz hg rfl _) rfl _)⟩
   case measure=>simp[intOf];omega
  ·have hd:decide ((k:Int) < (n:Int) - 1 - (k:Int))=false:=by rw[decide_eq_false_iff_not];omega
   go_wp2_with fail
   go_end0
   refine⟨rfl,?_,hg⟩;rw[xr L k (by rw[HN.out];exact hk) (by rw[HN.out];omega)]at hrow;exact hrow
end
section
theorem sN:(Tryz.prog.info? 5).map (fun i=>(i.zero,i.size,i.bytes))=some (some (.int .u8 0),1,1):=by kernel_rfl
namespace Digits
def dg(b n i:Nat):Nat:=n / b ^ i % b
theorem CC(b n i:Nat)(hb:2≤b):dg b n i < b:=Nat.mod_lt _ (by omega)
def fig(d:Nat):Nat:=if d < 10 then 48+d else 87+d
def sO(b n m j:Nat):Prop:=m≤j∧n < b ^ j∧∀k,m≤k→n < b ^ k→j≤k
theorem sO.unique{b n m j k:Nat}(h:sO b n m j)(g:sO b n m k):j=k:=by
 have:=h.2.2 k g.1 g.2.1;have:=g.2.2 j h.1 h.2.1;omega
theorem iy(b n j:Nat)(hb:2≤b):n / b ^ j=0↔n < b ^ j:=by
 have:0 < b ^ j:=Nat.pow_pos (by omega);rw[Nat.div_eq_zero_iff];omega
theorem sO.of(b n m j:Nat)(hb:2≤b)(h1:m≤j)(h2:n / b ^ j=0)(h3:∀k,k < j→¬(m≤k∧n / b ^ k=0)):sO b n m j:=by
 refine⟨h1,(iy b n j hb).mp h2,fun k hk hn=> ?_⟩
 by_cases hkj:k < j
 ·exact absurd ⟨hk,(iy b n k hb).mpr hn⟩ (h3 k hkj)
 ·omega
def ds(b n j:Nat):List UInt8:=((List.range j).map fun i=>UInt8.ofNat (fig (dg b n i))).reverse
theorem jH(b n j:Nat):(ds b n j).length=j:=by simp[ds]
theorem Gc(d:Nat)(h:d < 16):fig d < 103∧48≤fig d:=by unfold fig;split <;> omega
theorem AB(d:Nat)(h:d < 16):(UInt8.ofNat (fig d)).toNat=fig d:=by
 have:=Gc d h;rw[UInt8.toNat_ofNat'];omega
end Digits
end
end Go.Proofs.YtlomecfhobehnaaGreatDoor
