import Derived.Test.YtlomecfhobehnaaGreatDoorMgFixSets1
set_option linter.unusedVariables false
set_option linter.unusedSimpArgs false
set_option maxRecDepth 100000
set_option maxHeartbeats 1000000
namespace Go.Proofs.YtlomecfhobehnaaGreatDoor
open Lib (hid)
section
open Go.RowKit
namespace Keys
def dig(c:Nat):Int:=if 48≤c∧c≤57 then(c:Int) - 48 else if 97≤c∧c≤102 then(c:Int) - 97+10 else if 65≤c∧c≤70 then(c:Int) - 65+10 else -1
end Keys
theorem AD(c:Nat)(w:World)(h:c < 256):
  Calls Tryz.prog 158 #[.int .u8 (c:Int)] w fun e w'=>e= .returned (.int .i64 (Keys.dig c))∧w=w':=by
 unfold Keys.dig
 by_cases h1:48≤c∧c≤57
 ·have a1:48≤c:=h1.1;have a2:c≤57:=h1.2;rw[if_pos h1];clear h1;go_enter Tryz.func158,Tryz.ntmps158;go_wp2_with fail;go_ret;exact⟨rfl,rfl⟩
 ·rw[if_neg h1];have b1:(decide ((48:Int)≤(c:Int))&&decide ((c:Int)≤57))=false:=by
   rw[Bool.and_eq_false_iff,decide_eq_false_iff_not,decide_eq_false_iff_not];omega
  by_cases h2:97≤c∧c≤102
  ·have a1:97≤c:=h2.1;have a2:c≤102:=h2.2;rw[if_pos h2];clear h1 h2;go_enter Tryz.func158,Tryz.ntmps158;go_wp2_with fail;go_ret;exact⟨rfl,rfl⟩
  ·rw[if_neg h2]
   by_cases h3:65≤c∧c≤70
   ·have a1:65≤c:=h3.1;have a2:c≤70:=h3.2;rw[if_pos h3];clear h1 h2 h3;go_enter Tryz.func158,Tryz.ntmps158;go_wp2_with fail;go_ret;exact⟨rfl,rfl⟩
   ·rw[if_neg h3];go_enter Tryz.func158,Tryz.ntmps158;go_wp2_with fail
    all_goals first|(go_ret;first|done|exact⟨rfl,rfl⟩)|(exfalso;omega)
def lenOf:Value→Nat
 | .slice _ n _=>n
 |_=>0
namespace Digits
def le(b n j:Nat):List UInt8:=(List.range j).map fun i=>UInt8.ofNat (fig (dg b n i))
theorem AE(b n j:Nat):(le b n j).length=j:=by simp[le]
theorem le_succ(b n j:Nat):le b n (j+1)=le b n j++[UInt8.ofNat (fig (dg b n j))]:=by simp[le,List.range_succ]
theorem Gd(b n j:Nat):(le b n j).reverse=ds b n j:=rfl
theorem Ge(d:Nat)(h:d < 16):∀w:World,(Instr.index 9 (.string ⟨#[48,49,50,51,52,53,54,55,56,57,97,98,99,100,101,102]⟩) (.int .u64 (d:Nat))).run Tryz.prog w= .ok (.int .u8 (fig d:Nat)) w:=by
 match d,h with
 |0,_=>exact fun _=>by kernel_rfl
 |1,_=>exact fun _=>by kernel_rfl
 |2,_=>exact fun _=>by kernel_rfl
 |3,_=>exact fun _=>by kernel_rfl
 |4,_=>exact fun _=>by kernel_rfl
 |5,_=>exact fun _=>by kernel_rfl
 |6,_=>exact fun _=>by kernel_rfl
 |7,_=>exact fun _=>by kernel_rfl
 |8,_=>exact fun _=>by kernel_rfl
 |9,_=>exact fun _=>by kernel_rfl
 |10,_=>exact fun _=>by kernel_rfl
 |11,_=>exact fun _=>by kernel_rfl
 |12,_=>exact fun _=>by kernel_rfl
 |13,_=>exact fun _=>by kernel_rfl
 |14,_=>exact fun _=>by kernel_rfl
 |15,_=>exact fun _=>by kernel_rfl
 |k+16,h=>omega
end Digits
theorem AF(n b wd:Nat)(w:World)(hn:n < 18446744073709551616)(hb:2≤b)(hb2:b≤16)(hw:wd≤64):
  Calls Tryz.prog 133 #[.int .u64 (n:Nat),.int .i64 (b:Nat),.int .i64 (wd:Nat)] w fun e w'=>(∃J,Digits.sO b n (max wd 1) J∧e= .returned (.tuple #[.string (aa (Digits.ds b n J)),.nilIface]))∧Below w.heap.size w w':=by
 have hbw:IntKind.u64.wrap (b:Int)=(b:Int):=by rw[IntKind.wrap_u64];omega
 have hb0:(b:Int)≠0:=by omega
 obtain⟨B,hB⟩:∃B,B=w.heap.size:=⟨_,rfl⟩;rw[← hB];have HB:=hid hB;clear hB;have hd1:decide ((b:Int) < 2)=false:=by rw[decide_eq_false_iff_not];omega
 have hd2:decide ((16:Int) < (b:Int))=false:=by rw[decide_eq_false_iff_not];omega
 have hd3:decide ((wd:Int) < 0)=false:=by rw[decide_eq_false_iff_not];omega
 have hd4:decide ((64:Int) < (wd:Int))=false:=by rw[decide_eq_false_iff_not];omega
 go_enter Tryz.func133,Tryz.ntmps133;go_wp2_with fail;go_loopw [0,8] (fun v0 v8 wr=>∃(j cap:Nat) (a:Option Addr),j≤64∧v0= .int .u64 ((n / b ^ j:Nat):Int)∧v8= .slice a j cap∧Hid (an wr B 5 1 a j cap (cT (Digits.le b n j)))∧Hid (∀k,k < j→¬(max wd 1≤k∧n / b ^ k=0))∧Below B w wr) (fun _ v8 _=>65 - lenOf v8)
 case atStart=>exact⟨0,0,none,by omega,by rw[Nat.pow_zero,Nat.div_one],rfl,hid (an.nil _ _ _ _),hid (fun k h=>by omega),Y4 _ _⟩
 case round=>
  obtain⟨j,cap,a,hj,rfl,rfl,HO,HN,hbe⟩:=hrel
  by_cases hstop:max wd 1≤j∧n / b ^ j=0
  ·have hwide:=Digits.sO.of b n (max wd 1) j hb hstop.1 hstop.2 HN.out;have HW:=hid hwide;clear hwide;rw[hstop.2];have e1:decide (j < wd)=false:=by rw[decide_eq_false_iff_not];omega
   have e2:((j:Int)==0)=false:=by rw[Z8];omega
   have hj1:1≤j:=by omega
   clear hstop;cases a with
   |none=>have:=HO.out.aO;omega
   |some x=>
    obtain⟨h1,h2,h3,h4,h5⟩:=HO.out.row;rw[h1];generalize x.block=g at *
    have hrev:=qK g j cap 5 (Digits.le b n j) wr (Digits.AE _ _ _) (by omega) h5;have HR:=hid hrev;clear hrev;go_wp2_with fail;refine HR.out.mono ?_;rintro e w1 ⟨rfl,hrow,hg⟩;rw[Digits.Gd]at hrow;have hstr:=qH 147 5 9 Tryz.underlying147 Tryz.underlying5 Tryz.underlying9 hrow j cap (Digits.jH _ _ _).symm;go_wp2_with fail;go_ret2;exact⟨⟨j,HW.out,rfl⟩,hbe.grown hg (by rw[HB.out];exact hbe.size) (fun k e=>by cases e;exact h2)⟩
  ·have hj64:j < 64:=by
    rcases Nat.lt_or_ge j 64 with h|h
    ·exact h
    ·exfalso;obtain rfl:j=64:=by omega
     exact hstop ⟨by omega,(Digits.iy b n 64 hb).mpr (Nat.lt_of_lt_of_le hn (Nat.pow_le_pow_left hb 64))⟩
   have hN2:∀k,k < j+1→¬(max wd 1≤k∧n / b ^ k=0):=fun k hk=>by
    by_cases h:k=j
    ·rw[h];exact hstop
    ·exact HN.out k (by omega)
   have HN2:=hid hN2;clear hN2;have hdiv:(n / b ^ j) / b=n / b ^ (j+1):=by rw[Nat.pow_succ,← Nat.div_div_eq_div_mul]
   have hfig:=Digits.Ge (n / b ^ j % b) (Nat.lt_of_lt_of_le (Nat.mod_lt _ (by omega)) hb2);have hft:((Digits.fig (n / b ^ j % b):Nat):Int)=(((UInt8.ofNat (Digits.fig (Digits.dg b n j))).toNat:Nat):Int):=by
    rw[Digits.AB (Digits.dg b n j) (Nat.lt_of_lt_of_le (Digits.CC b n j hb) hb2)];rfl
   rw[hft,show((n / b ^ j % b:Nat):Int)=((n / b ^ j:Nat):Int) % (b:Int)from by simp]at hfig;have hle:=Digits.le_succ b n j;generalize UInt8.ofNat (Digits.fig (Digits.dg b n j))=fg at *
   generalize Digits.le b n j=L0 at *
   have hNlt:n / b ^ j < 18446744073709551616:=Nat.lt_of_le_of_lt (Nat.div_le_self _ _) hn;generalize n / b ^ j=N0 at *
   obtain⟨q1,hq1⟩:∃q:Bool,decide (0 < N0)=q:=⟨_,rfl⟩;obtain⟨q2,hq2⟩:∃q:Bool,decide (j < wd)=q:=⟨_,rfl⟩;obtain⟨q3,hq3⟩:∃q:Bool,((j:Int)==0)=q:=⟨_,rfl⟩;have hany:q1=true∨q1=false∧q2=true∨q1=false∧q2=false∧q3=true:=by
    cases q1 with
    |true=>exact .inl rfl
    |false=>
     cases q2 with
     |true=>exact .inr (.inl ⟨rfl,rfl⟩)
     |false=>
      cases q3 with
      |true=>exact .inr (.inr ⟨rfl,rfl,rfl⟩)
      |false=>
       exfalso;rw[decide_eq_false_iff_not]at hq1 hq2;rw[Z8]at hq3;exact hstop ⟨by omega,by omega⟩
   have HS:=hid hstop;clear hstop;have HD:=hid hdiv;clear hdiv;have HL:=hid hle;clear hle;clear hft;have hbB:B≤wr.heap.size:=by have:=hbe.size;have:=HB.out;omega
   rcases hany with rfl|⟨rfl,rfl⟩|⟨rfl,rfl,rfl⟩
   ·go_wp2_with (with_reducible refine bP _ rfl _ _ 147 rfl B 5 (.int .u8 0) 1 1 Tryz.underlying147 sN rfl (by decide) a j cap _ rfl HO.out [.int .u8 (fg.toNat:Int)] rfl (by simp[Value.oneCell']) rfl (by unfold maxLen;omega) (by omega) hbB ?_;intro a' cap' w' hown' hgrow hloc hsz' hex);go_roundw
    case rel=>
     refine⟨j+1,cap',a',by omega,oq (by have:=Nat.div_le_self N0 b;rw[IntKind.wrap_u64,← Int.natCast_ediv,← HD.out];generalize N0 / b=q at *;omega),rfl,?_,HN2,eH hbe HO.out (Z5 _) hbB hgrow⟩;have he:cT L0++[Value.int .u8 (fg.toNat:Int)]=cT (Digits.le b n (j+1)):=by rw[HL.out];simp[cT,At]
     rw[← he];exact hid hown'
    case measure=>simp[lenOf];omega
   ·go_wp2_with (with_reducible refine bP _ rfl _ _ 147 rfl B 5 (.int .u8 0) 1 1 Tryz.underlying147 sN rfl (by decide) a j cap _ rfl HO.out [.int .u8 (fg.toNat:Int)] rfl (by simp[Value.oneCell']) rfl (by unfold maxLen;omega) (by omega) hbB ?_;intro a' cap' w' hown' hgrow hloc hsz' hex);go_roundw
    case rel=>
     refine⟨j+1,cap',a',by omega,oq (by have:=Nat.div_le_self N0 b;rw[IntKind.wrap_u64,← Int.natCast_ediv,← HD.out];generalize N0 / b=q at *;omega),rfl,?_,HN2,eH hbe HO.out (Z5 _) hbB hgrow⟩;have he:cT L0++[Value.int .u8 (fg.toNat:Int)]=cT (Digits.le b n (j+1)):=by rw[HL.out];simp[cT,At]
     rw[← he];exact hid hown'
    case measure=>simp[lenOf];omega
   ·go_wp2_with (with_reducible refine bP _ rfl _ _ 147 rfl B 5 (.int .u8 0) 1 1 Tryz.underlying147 sN rfl (by decide) a j cap _ rfl HO.out [.int .u8 (fg.toNat:Int)] rfl (by simp[Value.oneCell']) rfl (by unfold maxLen;omega) (by omega) hbB ?_;intro a' cap' w' hown' hgrow hloc hsz' hex);go_roundw
    case rel=>
     refine⟨j+1,cap',a',by omega,oq (by have:=Nat.div_le_self N0 b;rw[IntKind.wrap_u64,← Int.natCast_ediv,← HD.out];generalize N0 / b=q at *;omega),rfl,?_,HN2,eH hbe HO.out (Z5 _) hbB hgrow⟩;have he:cT L0++[Value.int .u8 (fg.toNat:Int)]=cT (Digits.le b n (j+1)):=by rw[HL.out];simp[cT,At]
     rw[← he];exact hid hown'
    case measure=>simp[lenOf];omega
end
section
namespace Num
open Digits
def val(b:Nat)(l:List UInt8):Nat:=l.foldl (fun acc c=>acc * b+(Keys.dig c.toNat).toNat) 0
theorem CD(b:Nat)(l:List UInt8)(c:UInt8):val b (l++[c])=val b l * b+(Keys.dig c.toNat).toNat:=by simp[val]
theorem uq(b:Nat)(l:List UInt8)(i:Nat)(h:i < l.length):val b (l.take (i+1))=val b (l.take i) * b+(Keys.dig (l.getD i 0).toNat).toNat:=by
 rw[List.take_succ_eq_append_getElem h,CD,List.getD_eq_getElem?_getD,Y1 h];rfl
theorem ur(b:Nat)(l:List UInt8)(hb:1≤b):∀k i,i+k=l.length→val b (l.take i)≤val b l
 |0,i,h=>by rw[List.take_of_length_le (by omega)];exact Z5 _
 |k+1,i,h=>by
  have h1:=ur b l hb k (i+1) (by omega);rw[uq b l i (by omega)]at h1;have:val b (l.take i)≤val b (l.take i) * b:=Nat.le_mul_of_pos_right _ hb;omega
theorem CE(b:Nat)(l:List UInt8):∀a,l.foldl (fun v c=>v * b+(Keys.dig c.toNat).toNat) a=a * b ^ l.length+l.foldl (fun v c=>v * b+(Keys.dig c.toNat).toNat) 0:=by
 induction l with
 |nil=>intro a;simp
 |cons c l ih=>
  intro a;rw[List.foldl_cons,List.foldl_cons,ih,ih (0 * b+_),Z6,Nat.pow_succ,Nat.zero_mul,Nat.zero_add,Nat.add_mul,Nat.add_assoc]
  congr 1
  rw[Nat.mul_assoc,Nat.mul_comm b]
theorem CF(b:Nat)(c:UInt8)(l:List UInt8):val b (c::l)=(Keys.dig c.toNat).toNat * b ^ l.length+val b l:=by
 have h:=CE b l (0 * b+(Keys.dig c.toNat).toNat);rw[Nat.zero_mul,Nat.zero_add]at h;unfold val;rw[List.foldl_cons,Nat.zero_mul,Nat.zero_add,h]
theorem CG(b n j:Nat):ds b n (j+1)=UInt8.ofNat (fig (dg b n j))::ds b n j:=by simp[ds,List.range_succ]
theorem CH:∀d:Fin 16,Keys.dig (UInt8.ofNat (fig d)).toNat=((d:Nat):Int):=by decide
theorem Gf(b n:Nat)(hb:2≤b)(hb2:b≤16):∀j,val b (ds b n j)=n % b ^ j:=by
 intro j
 induction j with
 |zero=>simp[ds,val,Nat.mod_one]
 |succ j ih=>
  have hd:=CH ⟨dg b n j,Nat.lt_of_lt_of_le (CC b n j hb) hb2⟩;simp only at hd;rw[CG,CF,ih,jH,Nat.pow_succ,Nat.mod_mul,hd];simp only[Int.toNat_natCast,dg];rw[Nat.mul_comm (n / b ^ j % b),Nat.add_comm]
def iT(b:Nat)(c:UInt8):Bool:=decide (0≤Keys.dig c.toNat)&&decide (Keys.dig c.toNat < (b:Int))
def dQ(b:Nat)(t:List UInt8):Nat ⊕ Nat:=
 if t=[]then .inr 3 else if t.all (iT b)=true then(if val b t < 18446744073709551616 then .inl (val b t)else .inr 2)else .inr 3
def cm:List UInt8→Nat
 |48::120::_=>16
 |48::98::_=>2
 |_=>10
def cK:List UInt8→List UInt8
 |48::120::r=>r
 |48::98::r=>r
 |s=>s
def numOf(s:List UInt8):Nat ⊕ Nat:=match dQ (cm s) (cK s)with
 | .inr e=> .inr e
 | .inl n=>if n < 9223372036854775808 then .inl n else .inr 2
theorem oT{s:List UInt8}{n:Nat}(h:numOf s= .inl n):n < 9223372036854775808:=by
 unfold numOf at h;split at h
 ·cases h
 ·split at h
  ·cases h;assumption
  ·cases h
def wdt(n:Nat):Nat:=((List.range 25).find? fun j=>decide (1≤j)&&decide (n < 10 ^ j)).getD 0
theorem oU(n:Nat)(hn:n < 18446744073709551616):sO 10 n 1 (wdt n):=by
 unfold wdt;cases h:(List.range 25).find? (fun j=>decide (1≤j)&&decide (n < 10 ^ j))with
 |none=>
  rw[List.find?_eq_none]at h;have:=h 20 (by simp);simp at this;omega
 |some j=>
  rw[List.find?_eq_some_iff_getElem]at h;obtain⟨h1,i,hi,he,h2⟩:=h;simp only[List.length_range]at hi;rw[List.getElem_range]at he;subst he;simp only[Bool.and_eq_true,decide_eq_true_eq]at h1;refine⟨h1.1,h1.2,fun k hk hn=>Nat.le_of_not_lt fun hlt=> ?_⟩;have:=h2 k hlt;rw[List.getElem_range]at this;simp[hk,hn]at this
def dec(n:Nat):List UInt8:=ds 10 n (wdt n)
theorem kH(n:Nat):∀c∈dec n,iT 10 c=true∧48≤c.toNat∧c.toNat≤57:=by
 intro c hc;unfold dec ds at hc;rw[List.mem_reverse,List.mem_map]at hc;obtain⟨i,_,rfl⟩:=hc;have hd:=CC 10 n i (by decide);exact(by decide:∀d:Fin 10,iT 10 (UInt8.ofNat (fig d))=true∧48≤(UInt8.ofNat (fig d)).toNat∧(UInt8.ofNat (fig d)).toNat≤57) ⟨_,hd⟩
theorem Ez(n:Nat)(hn:n < 18446744073709551616):val 10 (dec n)=n:=by
 unfold dec;rw[Gf 10 n (by decide) (by decide),Nat.mod_eq_of_lt (oU n hn).2.1]
theorem CI(n:Nat)(hn:n < 18446744073709551616):dec n≠[]:=by
 intro e;have:=congrArg List.length e;rw[dec,jH,Y3]at this;have:=(oU n hn).1;omega
theorem AG(n:Nat)(hn:n < 18446744073709551616):cm (dec n)=10∧cK (dec n)=dec n:=by
 have hd:=kH n;have key:∀(l:List UInt8),(∀c∈l,48≤c.toNat∧c.toNat≤57)→cm l=10∧cK l=l:=by
  intro l hl;unfold cm cK;split
  ·have:=(hl 120 (by simp)).2;exact absurd this (by decide)
  ·have:=(hl 98 (by simp)).2;exact absurd this (by decide)
  ·exact⟨rfl,rfl⟩
 exact key _ fun c hc=>(hd c hc).2
theorem rn(n:Nat)(hn:n < 9223372036854775808):numOf (dec n)= .inl n:=by
 obtain⟨h1,h2⟩:=AG n (by omega);unfold numOf dQ;rw[h1,h2,if_neg (CI n (by omega)),if_pos (List.all_eq_true.2 fun c hc=>(kH n c hc).1),Ez n (by omega),if_pos (by omega)];simp[hn]
end Num
end
section
open Go.RowKit
theorem oV(l:List UInt8)(k:Nat)(h:k < (aa l).size):(aa l)[k]'h=l.getD k 0:=by
 have hk:k < l.length:=by rwa[aq]at h
 rw[List.getD_eq_getElem?_getD,Y1 hk];rfl
namespace Num
def kI(r:Nat ⊕ Nat):Array Value:=match r with
 | .inl n=> #[.int .u64 (n:Nat),.nilIface]
 | .inr e=> #[.int .u64 0,.iface 48 (.int .i64 (e:Nat))]
theorem ot(z:Int):∃q:Nat,IntKind.u64.wrap z=(q:Int)∧q < 18446744073709551616:=by
 refine⟨(IntKind.u64.wrap z).toNat,?_,?_⟩ <;> rw[IntKind.wrap_u64] <;> omega
theorem CJ{b:Nat}{l:List UInt8}(h:∀j,j < l.length→iT b (l.getD j 0)=true):l.all (iT b)=true:=by
 rw[List.all_eq_true];intro x hx;obtain⟨j,hj,rfl⟩:=List.getElem_of_mem hx;have:=h j hj;rwa[List.getD_eq_getElem?_getD,Y1 hj]at this
theorem EA{b:Nat}{l:List UInt8}{i:Nat}(hi:i < l.length)(h:iT b (l.getD i 0)=false):l.all (iT b)=false:=by
 rw[List.all_eq_false];rw[List.getD_eq_getElem?_getD,Y1 hi]at h;exact⟨_,List.getElem_mem hi,by simpa using h⟩
end Num
open Num
theorem kJ(l:List UInt8)(b:Nat)(w:World)(hb:2≤b)(hb2:b≤16)(hl:l.length≤100000):
  Calls Tryz.prog 157 #[.string (aa l),.int .i64 (b:Nat)] w fun e w'=>e= .returned (.tuple (kI (dQ b l)))∧w=w':=by
 have hd1:decide ((b:Int) < 2)=false:=by rw[decide_eq_false_iff_not];omega
 have hd2:decide ((16:Int) < (b:Int))=false:=by rw[decide_eq_false_iff_not];omega
 have hbw:IntKind.u64.wrap (b:Int)=(b:Int):=by rw[IntKind.wrap_u64];omega
 have hb0:(b:Int)≠0:=by omega
 by_cases hne:l=[]
 ·subst hne;go_enter Tryz.func157,Tryz.ntmps157;go_wp2_with fail;go_ret2;exact⟨rfl,rfl⟩
 have hemp:l.isEmpty=false:=by cases l with
  |nil=>exact absurd rfl hne
  |cons _ _=>rfl
 obtain⟨R,hR⟩:∃R,R=dQ b l:=⟨_,rfl⟩;have HR:Hid (R=dQ b l):=hid hR;rw[← hR];have HNE:=hid hne;clear hne hR;go_enter Tryz.func157,Tryz.ntmps157;go_wp2_with fail;go_loop [6,7,22] (fun v6 v7 v22=>∃(i m:Nat) (ov:Bool),i≤l.length∧v22= .int .i64 i∧v7= .bool ov∧v6= .int .u64 (m:Nat)∧m < 18446744073709551616∧Hid (∀j,j < i→iT b (l.getD j 0)=true)∧Hid (ov=decide (18446744073709551616≤val b (l.take i)))∧Hid (ov=false→m=val b (l.take i))) (fun _ _ v22=>l.length - (intOf v22).toNat)
 case atStart=>exact⟨0,0,false,by omega,rfl,rfl,rfl,by omega,hid (by intro j hj;omega),hid (by simp[val]),hid (by simp[val])⟩
 case round=>
  obtain⟨i,m,ov,hi,rfl,rfl,rfl,hm,HG,HO,HM⟩:=hrel
  by_cases hlt:i < l.length
  ·have hst:=uq b l i hlt;have hmo:=ur b l (by omega) (l.length - (i+1)) (i+1) (by omega);have hcx:∀h:i < (aa l).size,((aa l)[i]'h).toNat=(l.getD i 0).toNat:=fun h=>by rw[oV]
   have hx8:(l.getD i 0).toNat < 256:=UInt8.toNat_lt _;have hok:iT b (l.getD i 0)=(decide (0≤Keys.dig (l.getD i 0).toNat)&&decide (Keys.dig (l.getD i 0).toNat < (b:Int))):=rfl;have HOK:=hid hok;have HST:=hid hst;have HMO:=hid hmo;clear hok hst hmo;have hki:(i:Int) < (l.length:Int):=by omega
   have hkn:decide (i < l.length)=true:=Z9 hlt;have hkd:decide ((i:Int) < (l.length:Int))=true:=Z9 hki;obtain⟨x,hx⟩:∃x,x=(l.getD i 0).toNat:=⟨_,rfl⟩;rw[← hx]at hcx hx8 HOK HST;have HDX:=hid (fun w=>AD x w hx8);have HX:=hid hx;clear hx
   by_cases h1:0≤Keys.dig x∧Keys.dig x < (b:Int)
   ·have hgood:iT b (l.getD i 0)=true:=by rw[HOK.out,Z9 h1.1,Z9 h1.2];rfl
    have HGD:=hid hgood;clear hgood;obtain⟨d,hdd⟩:=Int.eq_ofNat_of_zero_le h1.1;have h2:=h1.2;rw[hdd]at HDX h2 HST;have hst2:=HST.out;rw[Int.toNat_natCast]at hst2;have HST2:=hid hst2;clear hdd h1 HST HOK hst2;have hg2:∀j,j < i+1→iT b (l.getD j 0)=true:=by
     intro j hj
     by_cases e:j=i
     ·subst e;exact HGD.out
     ·exact HG.out j (by omega)
    have HG2:=hid hg2;clear hg2;have d1:decide ((d:Int) < 0)=false:=by rw[decide_eq_false_iff_not];omega
    have d2:decide ((b:Int)≤(d:Int))=false:=by rw[decide_eq_false_iff_not];omega
    have hdw:IntKind.u64.wrap (d:Int)=(d:Int):=by rw[IntKind.wrap_u64];omega
    cases ov with
    |true=>
     have hbig:18446744073709551616≤val b (l.take i):=by
      have:=HO.out;exact of_decide_eq_true this.symm
     have hbig2:(true:Bool)=decide (18446744073709551616≤val b (l.take (i+1))):=by
      rw[HST2.out];have:val b (l.take i)≤val b (l.take i) * b:=Nat.le_mul_of_pos_right _ (by omega);exact(Z9 (by omega)).symm
     have HB:=hid hbig2;clear hbig hbig2;obtain⟨q,hq,hq2⟩:=ot ((m:Int) * (b:Int));obtain⟨r,hr,hr2⟩:=ot ((q:Int)+(d:Int));go_wp2_with fail;refine(HDX.out _).mono ?_;rintro e w1 ⟨rfl,rfl⟩;go_wp2_with fail;go_round
     case rel=>exact⟨i+1,r,true,by omega,by go_num,rfl,rfl,hr2,HG2,HB,hid (by intro h;cases h)⟩
     case measure=>simp[intOf];omega
    |false=>
     have hmv:=HM.out rfl;have hsub:IntKind.u64.wrap (18446744073709551615 - (d:Int))=18446744073709551615 - (d:Int):=by rw[IntKind.wrap_u64];omega
     obtain⟨q,hq,hq2⟩:=ot ((m:Int) * (b:Int));obtain⟨r,hr,hr2⟩:=ot ((q:Int)+(d:Int));have hquo:((18446744073709551615 - (d:Int)) / (b:Int) < (m:Int))↔18446744073709551616≤m * b+d:=by
      have e:((m * b:Nat):Int)=(m:Int) * (b:Int):=by simp
      have e2:(m:Int)≤(18446744073709551615 - (d:Int)) / (b:Int)↔(m:Int) * (b:Int)≤18446744073709551615 - (d:Int):=Int.le_ediv_iff_mul_le (by omega);constructor
      ·intro h;have:=mt e2.2 (by omega);omega
      ·intro h;have:=mt e2.1 (by omega);omega
     have hval:val b (l.take (i+1))=m * b+d:=by rw[HST2.out,hmv]
     have HV:=hid hval;have hrm:¬18446744073709551616≤m * b+d→r=m * b+d:=by
      intro h;have e:((m * b:Nat):Int)=(m:Int) * (b:Int):=by simp
      have:IntKind.u64.wrap ((m:Int) * (b:Int))=(m:Int) * (b:Int):=by rw[IntKind.wrap_u64,← e];omega
      rw[hq]at this;rw[IntKind.wrap_u64]at hr;omega
     have HRM:=hid hrm;clear hmv hval hrm;obtain⟨ov2,hov2⟩:∃ov2,ov2=decide ((18446744073709551615 - (d:Int)) / (b:Int) < (m:Int)):=⟨_,rfl⟩;have hov3:ov2=decide (18446744073709551616≤m * b+d):=by rw[hov2,decide_eq_decide];exact hquo
     have HV3:=hid hov3;have hov4:=hov2.symm;clear hquo hov3 hov2;go_wp2_with fail;refine(HDX.out _).mono ?_;rintro e w1 ⟨rfl,rfl⟩;go_wp2_with fail;go_round
     case rel=>
      refine⟨i+1,r,ov2,by omega,by go_num,?_,rfl,hr2,HG2,hid (by rw[HV.out];exact HV3.out),hid (fun h=> ?_)⟩
      ·first|rfl|(congr 1)
      ·rw[HV.out];exact HRM.out (of_decide_eq_false (by rw[← HV3.out];exact h))
     case measure=>simp[intOf];omega
   ·have hbad:iT b (l.getD i 0)=false:=by
     rw[HOK.out,Bool.and_eq_false_iff,decide_eq_false_iff_not,decide_eq_false_iff_not];omega
    have hall:=EA hlt hbad;have hRR:R= .inr 3:=by
     rw[HR.out];unfold dQ;rw[if_neg HNE.out,if_neg (by rw[hall];decide)]
    have HRR:=hid hRR;clear hall hbad hRR;obtain⟨dd,hdd⟩:∃dd,dd=Keys.dig x:=⟨_,rfl⟩;rw[← hdd]at HDX h1;clear hdd
    by_cases h2:dd < 0
    ·have d1:decide (dd < 0)=true:=Z9 h2;go_wp2_with fail;refine(HDX.out _).mono ?_;rintro e w1 ⟨rfl,rfl⟩;go_wp2_with fail;go_ret2;rw[HRR.out];exact⟨rfl,rfl⟩
    ·have d1:decide (dd < 0)=false:=Y9 h2;have d2:decide ((b:Int)≤dd)=true:=by rw[decide_eq_true_eq];omega
     clear h1 h2;go_wp2_with fail;refine(HDX.out _).mono ?_;rintro e w1 ⟨rfl,rfl⟩;go_wp2_with fail;go_ret2;rw[HRR.out];exact⟨rfl,rfl⟩
  ·obtain rfl:i=l.length:=by omega
   have hd:decide ((l.length:Int) < (l.length:Int))=false:=by simp
   have hall:=CJ HG.out;have hO:=HO.out;have hM:=HM.out;rw[List.take_length]at hO hM;have hRR:R=if val b l < 18446744073709551616 then .inl (val b l)else .inr 2:=by
    rw[HR.out];unfold dQ;rw[if_neg HNE.out,if_pos hall]
   cases ov with
   |true=>
    have h9:=of_decide_eq_true hO.symm;rw[if_neg (by omega)]at hRR;have HRR:=hid hRR;clear hO hM hRR hall h9;go_wp2_with fail;go_ret2;rw[HRR.out];exact⟨rfl,rfl⟩
   |false=>
    have h9:=of_decide_eq_false hO.symm;rw[if_pos (by omega),← hM rfl]at hRR;have HRR:=hid hRR;clear hO hM hRR hall h9;go_wp2_with fail;go_ret2;rw[HRR.out];exact⟨rfl,rfl⟩
end
section
open Go.RowKit
open Num
namespace Num
def oW(r:Nat ⊕ Nat):Array Value:=match r with
 | .inl n=> #[.int .i64 (n:Nat),.nilIface]
 | .inr e=> #[.int .i64 0,.iface 48 (.int .i64 (e:Nat))]
theorem CK(s:List UInt8):numOf s=match dQ (cm s) (cK s)with
 | .inr e=> .inr e
 | .inl n=>if n < 9223372036854775808 then .inl n else .inr 2:=rfl
theorem Hl(s:List UInt8):(aa s).extract 2 s.length=aa (s.drop 2):=by
 apply ByteArray.ext;apply Array.ext';rw[ByteArray.data_extract,Array.toList_extract];show List.extract s 2 s.length=s.drop 2;rw[List.extract_eq_take_drop];exact List.take_of_length_le (by rw[List.length_drop];exact Z5 _)
theorem dp(s:List UInt8)(h:s.length≤1∨(s.getD 0 0).toNat≠48∨((s.getD 1 0).toNat≠120∧(s.getD 1 0).toNat≠98)):cm s=10∧cK s=s:=by
 unfold cm cK;split
 ·rcases h with h|h|h
  ·simp at h
  ·exact absurd rfl h
  ·exact absurd rfl h.1
 ·rcases h with h|h|h
  ·simp at h
  ·exact absurd rfl h
  ·exact absurd rfl h.2
 ·exact⟨rfl,rfl⟩
theorem xu(s:List UInt8)(h:1 < s.length)(h0:(s.getD 0 0).toNat=48)(h1:(s.getD 1 0).toNat=120):cm s=16∧cK s=s.drop 2:=by
 obtain⟨a,b,r,rfl⟩:∃a b r,s=a::b::r:=by
  match s,h with
  |a::b::r,_=>exact⟨a,b,r,rfl⟩
 have e0:a=48:=UInt8.toNat_inj.1 h0;have e1:b=120:=UInt8.toNat_inj.1 h1;subst e0 e1;exact⟨rfl,rfl⟩
theorem xw(s:List UInt8)(h:1 < s.length)(h0:(s.getD 0 0).toNat=48)(h1:(s.getD 1 0).toNat=98):cm s=2∧cK s=s.drop 2:=by
 obtain⟨a,b,r,rfl⟩:∃a b r,s=a::b::r:=by
  match s,h with
  |a::b::r,_=>exact⟨a,b,r,rfl⟩
 have e0:a=48:=UInt8.toNat_inj.1 h0;have e1:b=98:=UInt8.toNat_inj.1 h1;subst e0 e1;exact⟨rfl,rfl⟩
end Num
theorem oX(s:List UInt8)(w:World)(hl:s.length≤100000)(h0:s≠[])(hd:(s.getD 0 0).toNat≠45):
  Calls Tryz.prog 156 #[.string (aa s)] w fun e w'=>e= .returned (.tuple (oW (numOf s)))∧Below w.heap.size w w':=by
 have hne:(s==[])=false:=by rw[Z8];exact h0
 have hne2:s.isEmpty=false:=by cases s with|nil=>exact absurd rfl h0|cons a b=>rfl
 have hpos:0 < s.length:=List.length_pos_iff.2 h0;have s0:∀h:0 < (aa s).size,((aa s)[0]'h).toNat=(s.getD 0 0).toNat:=fun h=>by rw[oV]
 have s1:∀h:1 < (aa s).size,((aa s)[1]'h).toNat=(s.getD 1 0).toNat:=fun h=>by rw[oV]
 have hx:=Hl s;have d45:(((s.getD 0 0).toNat:Int)==45)=false:=by rw[Z8];omega
 obtain⟨R,hR⟩:∃R,R=dQ (cm s) (cK s):=⟨_,rfl⟩;have hN:=CK s;rw[← hR]at hN;have HN:=hid hN;have fin:∀R:Nat ⊕ Nat,(∃n,R= .inl n∧n < 9223372036854775808)∨(∃n,R= .inl n∧9223372036854775808≤n∧n < 18446744073709551616)∨(∃e,R= .inr e)∨(∃n,R= .inl n∧18446744073709551616≤n):=by
  intro R;cases R with
  |inl n=>rcases Nat.lt_or_ge n 9223372036854775808 with h|h;exact .inl ⟨n,rfl,h⟩;rcases Nat.lt_or_ge n 18446744073709551616 with h2|h2;exact .inr (.inl ⟨n,rfl,h,h2⟩);exact .inr (.inr (.inr ⟨n,rfl,h2⟩))
  |inr e=>exact .inr (.inr (.inl ⟨e,rfl⟩))
 have hR64:∀n,R= .inl n→n < 18446744073709551616:=by
  intro n e;rw[hR]at e;unfold dQ at e;split at e
  ·cases e
  ·split at e
   ·split at e
    ·cases e;assumption
    ·cases e
   ·cases e
 have hcase:=fin R;rcases hcase with⟨n,hr,hn⟩|⟨n,hr,hn,hn2⟩|⟨en,hr⟩|⟨n,hr,hn⟩
 case inl=>
  have f1:decide ((9223372036854775808:Int)≤(n:Int))=false:=Y9 (by omega);have f2:IntKind.i64.wrap (n:Int)=(n:Int):=by rw[IntKind.wrap_i64];omega
  rw[hr]at hR HN;have HP:Hid (∀w,Calls Tryz.prog 157 #[.string (aa (cK s)),.int .i64 (cm s:Nat)] w fun e w'=>e= .returned (.tuple (kI (dQ (cm s) (cK s))))∧w=w'):=hid fun w=>kJ (cK s) (cm s) w (by unfold cm;split <;> omega) (by unfold cm;split <;> omega) (by
   unfold cK;split
   ·simp only[Z6]at hl;omega
   ·simp only[Z6]at hl;omega
   ·exact hl)
  rw[← hR]at HP;clear hR64 fin hR;simp only[kI]at HP;have HNN:=HN.out;simp only at HNN;have HN2:=hid HNN;clear HNN HN h0 hN hr
  by_cases g1:1 < s.length
  ·have e1:decide ((1:Int) < (s.length:Int))=true:=Z9 (by omega);have e1n:decide (1 < s.length)=true:=Z9 g1;have e1i:(1:Int) < (s.length:Int):=by omega
   have e2i:(2:Int)≤(s.length:Int):=by omega
   by_cases g2:(s.getD 0 0).toNat=48
   ·have e2:(((s.getD 0 0).toNat:Int)==48)=true:=by rw[beq_iff_eq];omega
    by_cases g3:(s.getD 1 0).toNat=120
    ·have e3:(((s.getD 1 0).toNat:Int)==120)=true:=by rw[beq_iff_eq];omega
     obtain⟨b1,b2⟩:=xu s g1 g2 g3;rw[b1,b2]at HP;clear b1 b2 g2 g3;generalize(s.getD 0 0).toNat=x at *
     generalize(s.getD 1 0).toNat=y at *
     go_enter Tryz.func156,Tryz.ntmps156;go_wp2_with fail
     go_region
     all_goals
      go_wp2_with fail;refine(HP.out _).mono ?_;rintro e w1 ⟨rfl,rfl⟩;go_wp2_with fail;go_ret2;rw[HN2.out]
      first|exact⟨rfl,(Y4 _ _).drew⟩|(refine⟨?_,(Y4 _ _).drew⟩;(first|(rw[if_pos hn];done)|(rw[if_pos hn];rfl)|(rw[if_neg (by omega)];rfl)))
    ·have e3:(((s.getD 1 0).toNat:Int)==120)=false:=by rw[Z8];omega
     by_cases g4:(s.getD 1 0).toNat=98
     ·have e4:(((s.getD 1 0).toNat:Int)==98)=true:=by rw[beq_iff_eq];omega
      obtain⟨b1,b2⟩:=xw s g1 g2 g4;rw[b1,b2]at HP;clear b1 b2 g2 g3 g4;generalize(s.getD 0 0).toNat=x at *
      generalize(s.getD 1 0).toNat=y at *
      go_enter Tryz.func156,Tryz.ntmps156;go_wp2_with fail
      go_region
      all_goals
       go_wp2_with fail;refine(HP.out _).mono ?_;rintro e w1 ⟨rfl,rfl⟩;go_wp2_with fail;go_ret2;rw[HN2.out]
       first|exact⟨rfl,(Y4 _ _).drew⟩|(refine⟨?_,(Y4 _ _).drew⟩;(first|(rw[if_pos hn];done)|(rw[if_pos hn];rfl)|(rw[if_neg (by omega)];rfl)))
     ·have e4:(((s.getD 1 0).toNat:Int)==98)=false:=by rw[Z8];omega
      obtain⟨b1,b2⟩:=dp s (.inr (.inr ⟨g3,g4⟩));rw[b1,b2]at HP;clear b1 b2 g2 g3 g4;generalize(s.getD 0 0).toNat=x at *
      generalize(s.getD 1 0).toNat=y at *
      go_enter Tryz.func156,Tryz.ntmps156;go_wp2_with fail;refine(HP.out _).mono ?_;rintro e w1 ⟨rfl,rfl⟩;go_wp2_with fail;go_ret2;rw[HN2.out]
      first|exact⟨rfl,(Y4 _ _)⟩|(refine⟨?_,(Y4 _ _)⟩;(first|(rw[if_pos hn];done)|(rw[if_pos hn];rfl)|(rw[if_neg (by omega)];rfl)))
   ·have e2:(((s.getD 0 0).toNat:Int)==48)=false:=by rw[Z8];omega
    obtain⟨b1,b2⟩:=dp s (.inr (.inl g2));rw[b1,b2]at HP;clear b1 b2 g2;generalize(s.getD 0 0).toNat=x at *
    generalize(s.getD 1 0).toNat=y at *
    go_enter Tryz.func156,Tryz.ntmps156;go_wp2_with fail;refine(HP.out _).mono ?_;rintro e w1 ⟨rfl,rfl⟩;go_wp2_with fail;go_ret2;rw[HN2.out]
    first|exact⟨rfl,(Y4 _ _)⟩|(refine⟨?_,(Y4 _ _)⟩;(first|(rw[if_pos hn];done)|(rw[if_pos hn];rfl)|(rw[if_neg (by omega)];rfl)))
  ·have e1:decide ((1:Int) < (s.length:Int))=false:=Y9 (by omega);have e1n:decide (1 < s.length)=false:=Y9 g1;obtain⟨b1,b2⟩:=dp s (.inl (by omega));rw[b1,b2]at HP;clear b1 b2;generalize(s.getD 0 0).toNat=x at *
   generalize(s.getD 1 0).toNat=y at *
   go_enter Tryz.func156,Tryz.ntmps156;go_wp2_with fail;refine(HP.out _).mono ?_;rintro e w1 ⟨rfl,rfl⟩;go_wp2_with fail;go_ret2;rw[HN2.out]
   first|exact⟨rfl,(Y4 _ _)⟩|(refine⟨?_,(Y4 _ _)⟩;(first|(rw[if_pos hn];done)|(rw[if_pos hn];rfl)|(rw[if_neg (by omega)];rfl)))
 case inr.inl=>
  have f1:decide ((9223372036854775808:Int)≤(n:Int))=true:=Z9 (by omega);rw[hr]at hR HN;have HP:Hid (∀w,Calls Tryz.prog 157 #[.string (aa (cK s)),.int .i64 (cm s:Nat)] w fun e w'=>e= .returned (.tuple (kI (dQ (cm s) (cK s))))∧w=w'):=hid fun w=>kJ (cK s) (cm s) w (by unfold cm;split <;> omega) (by unfold cm;split <;> omega) (by
   unfold cK;split
   ·simp only[Z6]at hl;omega
   ·simp only[Z6]at hl;omega
   ·exact hl)
  rw[← hR]at HP;clear hR64 fin hR;simp only[kI]at HP;have HNN:=HN.out;simp only at HNN;have HN2:=hid HNN;clear HNN HN h0 hN hr
  by_cases g1:1 < s.length
  ·have e1:decide ((1:Int) < (s.length:Int))=true:=Z9 (by omega);have e1n:decide (1 < s.length)=true:=Z9 g1;have e1i:(1:Int) < (s.length:Int):=by omega
   have e2i:(2:Int)≤(s.length:Int):=by omega
   by_cases g2:(s.getD 0 0).toNat=48
   ·have e2:(((s.getD 0 0).toNat:Int)==48)=true:=by rw[beq_iff_eq];omega
    by_cases g3:(s.getD 1 0).toNat=120
    ·have e3:(((s.getD 1 0).toNat:Int)==120)=true:=by rw[beq_iff_eq];omega
     obtain⟨b1,b2⟩:=xu s g1 g2 g3;rw[b1,b2]at HP;clear b1 b2 g2 g3;generalize(s.getD 0 0).toNat=x at *
     generalize(s.getD 1 0).toNat=y at *
     go_enter Tryz.func156,Tryz.ntmps156;go_wp2_with fail
     go_region
     all_goals
      go_wp2_with fail;refine(HP.out _).mono ?_;rintro e w1 ⟨rfl,rfl⟩;go_wp2_with fail;go_ret2;rw[HN2.out]
      first|exact⟨rfl,(Y4 _ _).drew⟩|(refine⟨?_,(Y4 _ _).drew⟩;(first|(rw[if_pos hn];done)|(rw[if_pos hn];rfl)|(rw[if_neg (by omega)];rfl)))
    ·have e3:(((s.getD 1 0).toNat:Int)==120)=false:=by rw[Z8];omega
     by_cases g4:(s.getD 1 0).toNat=98
     ·have e4:(((s.getD 1 0).toNat:Int)==98)=true:=by rw[beq_iff_eq];omega
      obtain⟨b1,b2⟩:=xw s g1 g2 g4;rw[b1,b2]at HP;clear b1 b2 g2 g3 g4;generalize(s.getD 0 0).toNat=x at *
      generalize(s.getD 1 0).toNat=y at *
      go_enter Tryz.func156,Tryz.ntmps156;go_wp2_with fail
      go_region
      all_goals
       go_wp2_with fail;refine(HP.out _).mono ?_;rintro e w1 ⟨rfl,rfl⟩;go_wp2_with fail;go_ret2;rw[HN2.out]
       first|exact⟨rfl,(Y4 _ _).drew⟩|(refine⟨?_,(Y4 _ _).drew⟩;(first|(rw[if_pos hn];done)|(rw[if_pos hn];rfl)|(rw[if_neg (by omega)];rfl)))
     ·have e4:(((s.getD 1 0).toNat:Int)==98)=false:=by rw[Z8];omega
      obtain⟨b1,b2⟩:=dp s (.inr (.inr ⟨g3,g4⟩));rw[b1,b2]at HP;clear b1 b2 g2 g3 g4;generalize(s.getD 0 0).toNat=x at *
      generalize(s.getD 1 0).toNat=y at *
      go_enter Tryz.func156,Tryz.ntmps156;go_wp2_with fail;refine(HP.out _).mono ?_;rintro e w1 ⟨rfl,rfl⟩;go_wp2_with fail;go_ret2;rw[HN2.out]
      first|exact⟨rfl,(Y4 _ _)⟩|(refine⟨?_,(Y4 _ _)⟩;(first|(rw[if_pos hn];done)|(rw[if_pos hn];rfl)|(rw[if_neg (by omega)];rfl)))
   ·have e2:(((s.getD 0 0).toNat:Int)==48)=false:=by rw[Z8];omega
    obtain⟨b1,b2⟩:=dp s (.inr (.inl g2));rw[b1,b2]at HP;clear b1 b2 g2;generalize(s.getD 0 0).toNat=x at *
    generalize(s.getD 1 0).toNat=y at *
    go_enter Tryz.func156,Tryz.ntmps156;go_wp2_with fail;refine(HP.out _).mono ?_;rintro e w1 ⟨rfl,rfl⟩;go_wp2_with fail;go_ret2;rw[HN2.out]
    first|exact⟨rfl,(Y4 _ _)⟩|(refine⟨?_,(Y4 _ _)⟩;(first|(rw[if_pos hn];done)|(rw[if_pos hn];rfl)|(rw[if_neg (by omega)];rfl)))
  ·have e1:decide ((1:Int) < (s.length:Int))=false:=Y9 (by omega);have e1n:decide (1 < s.length)=false:=Y9 g1;obtain⟨b1,b2⟩:=dp s (.inl (by omega));rw[b1,b2]at HP;clear b1 b2;generalize(s.getD 0 0).toNat=x at *
   generalize(s.getD 1 0).toNat=y at *
   go_enter Tryz.func156,Tryz.ntmps156;go_wp2_with fail;refine(HP.out _).mono ?_;rintro e w1 ⟨rfl,rfl⟩;go_wp2_with fail;go_ret2;rw[HN2.out]
   first|exact⟨rfl,(Y4 _ _)⟩|(refine⟨?_,(Y4 _ _)⟩;(first|(rw[if_pos hn];done)|(rw[if_pos hn];rfl)|(rw[if_neg (by omega)];rfl)))
 case inr.inr.inl=>
  rw[hr]at hR HN;have HP:Hid (∀w,Calls Tryz.prog 157 #[.string (aa (cK s)),.int .i64 (cm s:Nat)] w fun e w'=>e= .returned (.tuple (kI (dQ (cm s) (cK s))))∧w=w'):=hid fun w=>kJ (cK s) (cm s) w (by unfold cm;split <;> omega) (by unfold cm;split <;> omega) (by
   unfold cK;split
   ·simp only[Z6]at hl;omega
   ·simp only[Z6]at hl;omega
   ·exact hl)
  rw[← hR]at HP;clear hR64 fin hR;simp only[kI]at HP;have HNN:=HN.out;simp only at HNN;have HN2:=hid HNN;clear HNN HN h0 hN hr
  by_cases g1:1 < s.length
  ·have e1:decide ((1:Int) < (s.length:Int))=true:=Z9 (by omega);have e1n:decide (1 < s.length)=true:=Z9 g1;have e1i:(1:Int) < (s.length:Int):=by omega
   have e2i:(2:Int)≤(s.length:Int):=by omega
   by_cases g2:(s.getD 0 0).toNat=48
   ·have e2:(((s.getD 0 0).toNat:Int)==48)=true:=by rw[beq_iff_eq];omega
    by_cases g3:(s.getD 1 0).toNat=120
    ·have e3:(((s.getD 1 0).toNat:Int)==120)=true:=by rw[beq_iff_eq];omega
     obtain⟨b1,b2⟩:=xu s g1 g2 g3;rw[b1,b2]at HP;clear b1 b2 g2 g3;generalize(s.getD 0 0).toNat=x at *
     generalize(s.getD 1 0).toNat=y at *
     go_enter Tryz.func156,Tryz.ntmps156;go_wp2_with fail
     go_region
     all_goals
      go_wp2_with fail;refine(HP.out _).mono ?_;rintro e w1 ⟨rfl,rfl⟩;go_wp2_with fail;go_ret2;rw[HN2.out]
      first|exact⟨rfl,(Y4 _ _).drew⟩|(refine⟨?_,(Y4 _ _).drew⟩;(first|(rw[if_pos hn];done)|(rw[if_pos hn];rfl)|(rw[if_neg (by omega)];rfl)))
    ·have e3:(((s.getD 1 0).toNat:Int)==120)=false:=by rw[Z8];omega
     by_cases g4:(s.getD 1 0).toNat=98
     ·have e4:(((s.getD 1 0).toNat:Int)==98)=true:=by rw[beq_iff_eq];omega
      obtain⟨b1,b2⟩:=xw s g1 g2 g4;rw[b1,b2]at HP;clear b1 b2 g2 g3 g4;generalize(s.getD 0 0).toNat=x at *
      generalize(s.getD 1 0).toNat=y at *
      go_enter Tryz.func156,Tryz.ntmps156;go_wp2_with fail
      go_region
      all_goals
       go_wp2_with fail;refine(HP.out _).mono ?_;rintro e w1 ⟨rfl,rfl⟩;go_wp2_with fail;go_ret2;rw[HN2.out]
       first|exact⟨rfl,(Y4 _ _).drew⟩|(refine⟨?_,(Y4 _ _).drew⟩;(first|(rw[if_pos hn];done)|(rw[if_pos hn];rfl)|(rw[if_neg (by omega)];rfl)))
     ·have e4:(((s.getD 1 0).toNat:Int)==98)=false:=by rw[Z8];omega
      obtain⟨b1,b2⟩:=dp s (.inr (.inr ⟨g3,g4⟩));rw[b1,b2]at HP;clear b1 b2 g2 g3 g4;generalize(s.getD 0 0).toNat=x at *
      generalize(s.getD 1 0).toNat=y at *
      go_enter Tryz.func156,Tryz.ntmps156;go_wp2_with fail;refine(HP.out _).mono ?_;rintro e w1 ⟨rfl,rfl⟩;go_wp2_with fail;go_ret2;rw[HN2.out]
      first|exact⟨rfl,(Y4 _ _)⟩|(refine⟨?_,(Y4 _ _)⟩;(first|(rw[if_pos hn];done)|(rw[if_pos hn];rfl)|(rw[if_neg (by omega)];rfl)))
   ·have e2:(((s.getD 0 0).toNat:Int)==48)=false:=by rw[Z8];omega
    obtain⟨b1,b2⟩:=dp s (.inr (.inl g2));rw[b1,b2]at HP;clear b1 b2 g2;generalize(s.getD 0 0).toNat=x at *
    generalize(s.getD 1 0).toNat=y at *
    go_enter Tryz.func156,Tryz.ntmps156;go_wp2_with fail;refine(HP.out _).mono ?_;rintro e w1 ⟨rfl,rfl⟩;go_wp2_with fail;go_ret2;rw[HN2.out]
    first|exact⟨rfl,(Y4 _ _)⟩|(refine⟨?_,(Y4 _ _)⟩;(first|(rw[if_pos hn];done)|(rw[if_pos hn];rfl)|(rw[if_neg (by omega)];rfl)))
  ·have e1:decide ((1:Int) < (s.length:Int))=false:=Y9 (by omega);have e1n:decide (1 < s.length)=false:=Y9 g1;obtain⟨b1,b2⟩:=dp s (.inl (by omega));rw[b1,b2]at HP;clear b1 b2;generalize(s.getD 0 0).toNat=x at *
   generalize(s.getD 1 0).toNat=y at *
   go_enter Tryz.func156,Tryz.ntmps156;go_wp2_with fail;refine(HP.out _).mono ?_;rintro e w1 ⟨rfl,rfl⟩;go_wp2_with fail;go_ret2;rw[HN2.out]
   first|exact⟨rfl,(Y4 _ _)⟩|(refine⟨?_,(Y4 _ _)⟩;(first|(rw[if_pos hn];done)|(rw[if_pos hn];rfl)|(rw[if_neg (by omega)];rfl)))
 case inr.inr.inr=>have:=hR64 n hr;omega
end
end Go.Proofs.YtlomecfhobehnaaGreatDoor
