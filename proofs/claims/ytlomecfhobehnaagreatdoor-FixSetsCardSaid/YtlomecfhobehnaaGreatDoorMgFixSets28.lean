import Derived.Test.YtlomecfhobehnaaGreatDoorMgFixSets27
set_option linter.unusedVariables false
set_option linter.unusedSimpArgs false
set_option maxRecDepth 100000
set_option maxHeartbeats 4000000
namespace Go.Proofs.YtlomecfhobehnaaGreatDoor
open Lib (hid)
section
namespace Tm
open Ex
def bV:List Ty:=[
 ⟨[112,97,105,114],0,.cons ⟨0,.scalar [117,56],[110],none,.size [115]⟩ (.cons ⟨0,.bytes,[115],some (.name 0 [110]),.none⟩ .nil)⟩,
 ⟨[98,111,120],0,.cons ⟨0,.scalar [117,49,54,98,101],[107,105,110,100],none,.none⟩ (.cons ⟨0,.scalar [117,56],[109,97,110,121],none,.count [108]⟩ (.cons ⟨0,.struct [112,97,105,114],[108],some (.name 0 [109,97,110,121]),.none⟩
  (.when 0 (.bin 0 [61,61] (.name 0 [107,105,110,100]) (.num 0 1)) (.cons ⟨0,.scalar [105,56],[109,111,114,101],none,.none⟩ .nil) (.cons ⟨0,.scalar [117,51,50,108,101],[115,117,109],none,.check [107,105,110,100] [108]⟩ .nil))))⟩]
theorem tu:chk [] bV=none:=by decide+kernel
theorem He{w:Wd}(h:w≠[]∧(∀c∈w,Lex.word c=true)∧aN w=true):eL w:=⟨⟨h.1,h.2.1⟩,h.2.2⟩
theorem BP:∀w∈([[112,97,105,114],[110],[115],[98,111,120],[107,105,110,100],[109,97,110,121],[108],[109,111,114,101],[115,117,109]]:List Wd),w≠[]∧(∀c∈w,Lex.word c=true)∧aN w=true:=by decide+kernel
theorem kT(s:Wd)(hs:s≠[]∧(∀c∈s,Lex.word c=true)∧s.length≤12∧∃c r,s=c::r∧Lex.letter c.toNat=true):gU (.name 0 s):=by
 obtain⟨h1,h2,h3,c,r,h4,h5⟩:=hs;exact⟨⟨h1,h3,h2,c,r,h4,h5⟩,by unfold aX;omega⟩
theorem nk(w:Wd)(h:w∈([[112,97,105,114],[110],[115],[98,111,120],[107,105,110,100],[109,97,110,121],[108],[109,111,114,101],[115,117,109]]:List Wd)):eL w:=He (BP w h)
theorem Hq:gU (.name 0 [110]):=kT _ ⟨by decide,by decide,by decide,110,[],rfl,by decide⟩
theorem Fe:gU (.name 0 [109,97,110,121]):=kT _ ⟨by decide,by decide,by decide,109,_,rfl,by decide⟩
theorem Ff:gU (.bin 0 [61,61] (.name 0 [107,105,110,100]) (.num 0 1)):=by
 refine⟨⟨by decide,(kT [107,105,110,100] ⟨by decide,by decide,by decide,107,_,rfl,by decide⟩).1,Ex.CX (Num.dec 1) 1 (Num.rn 1 (by decide))⟩,by decide⟩
theorem fk(w:Wd)(h:(kindOf w).isSome=true):zA (.scalar w):=h
theorem ij:∀t∈bV,aZ t:=by
 intro t ht;unfold bV at ht;rcases List.mem_cons.1 ht with rfl|ht
 ·refine⟨nk _ (by simp),⟨fk _ (by decide),nk _ (by simp),fun c hc=>(by cases hc),nk _ (by simp),fun h=>(by cases h),fun _=>⟨_,rfl⟩⟩,⟨trivial,nk _ (by simp),fun c hc=> ?_,trivial,fun _ h=>(by cases h),fun h=>absurd rfl h⟩,trivial⟩;cases hc;exact⟨Hq,rfl⟩
 ·rcases List.mem_cons.1 ht with rfl|ht
  ·refine⟨nk _ (by simp),⟨fk _ (by decide),nk _ (by simp),fun c hc=>(by cases hc),trivial,fun h=>(by cases h),fun h=>absurd rfl h⟩,⟨fk _ (by decide),nk _ (by simp),fun c hc=>(by cases hc),nk _ (by simp),fun h=>(by cases h),fun _=>⟨_,rfl⟩⟩,⟨nk _ (by simp),nk _ (by simp),fun c hc=> ?_,trivial,fun h=>(by cases h),fun h=>absurd rfl h⟩,Ff,⟨⟨fk _ (by decide),nk _ (by simp),fun c hc=>(by cases hc),trivial,fun h=>(by cases h),fun h=>absurd rfl h⟩,trivial⟩,⟨fk _ (by decide),nk _ (by simp),fun c hc=>(by cases hc),⟨nk _ (by simp),nk _ (by simp)⟩,fun h=>(by cases h),fun _=>⟨_,rfl⟩⟩,trivial⟩;cases hc;exact⟨Fe,rfl⟩
  ·cases ht
theorem Fg:∀t∈bV,aZ t∧Fit 1 0 t.items:=by
 intro t ht;refine⟨ij t ht,?_⟩;unfold bV at ht;rcases List.mem_cons.1 ht with rfl|ht
 ·simp[Fit]
 ·rcases List.mem_cons.1 ht with rfl|ht
  ·simp[Fit]
  ·cases ht
theorem mV:cS bV=[115,116,114,117,99,116,32,112,97,105,114,32,123,10,32,32,117,56,32,110,32,61,32,115,105,122,101,32,115,59,10,32,32,98,121,116,101,115,32,115,91,110,93,59,10,125,10,115,116,114,117,99,116,32,98,111,120,32,123,10,32,32,117,49,54,98,101,32,107,105,110,100,59,10,32,32,117,56,32,109,97,110,121,32,61,32,99,111,117,110,116,32,108,59,10,32,32,112,97,105,114,32,108,91,109,97,110,121,93,59,10,32,32,119,104,101,110,32,107,105,110,100,32,61,61,32,49,32,123,10,32,32,32,32,105,56,32,109,111,114,101,59,10,32,32,125,10,32,32,117,51,50,108,101,32,115,117,109,32,61,32,99,104,101,99,107,32,107,105,110,100,32,108,59,10,125,10]:=by decide+kernel
theorem lW:(cS bV).length=177:=by decide+kernel
theorem DC{T:List Tok}(h:Lex.cZ (cS bV) 0=some T)(E:Nat):∃L,bZ bV L∧Tys E 0 T L:=by
 have h1:=kK bV ij;unfold texts at h1;rw[h]at h1;have h2:T.map Prod.fst=C2 bV:=by simpa using h1
 exact Tys.make (by decide) Fg T h2
theorem Fh:∃T,Lex.cZ (cS bV) 0=some T:=by
 have h1:=kK bV ij;unfold texts at h1;cases h:Lex.cZ (cS bV) 0 with
 |none=>rw[h]at h1;cases h1
 |some T=>exact⟨T,rfl⟩
end Tm
end
section
open Go.RowKit
open Rd
structure pQ(w:World)(B:Nat)(s:List UInt8)(tys:List Tm.Ty)(a:Option Addr)(cap:Nat)(vs:List Value):Prop where
 rd:nQ s tys
 own:an w B 97 3 a tys.length cap vs
 enc:Tm.cF w B tys vs
 lv:db w B
 le:B≤w.heap.size
theorem pQ.up{w w':World}{B:Nat}{s:List UInt8}{tys:List Tm.Ty}{a:Option Addr}{cap:Nat}{vs:List Value}(h:pQ w B s tys a cap vs)(hb:Below w.heap.size w w'):pQ w' B s tys a cap vs:=
 ⟨h.rd,h.own.below hb (Z5 _),h.enc.grown (ar hb (some B)),iL h.lv hb h.le,Nat.le_trans h.le hb.size⟩
theorem pQ.ew{w:World}{B:Nat}{s:List UInt8}{tys:List Tm.Ty}{a:Option Addr}{cap:Nat}{vs:List Value}(h:pQ w B s tys a cap vs)(hs:s.length≤3000):(∀t∈tys,Tm.aZ t)∧(∀t∈tys,Tm.aZ t∧Tm.oj t.items∧Tm.Its.sz t.items≤100000)∧(Tm.cS tys).length≤64 * s.length∧tys.length≤8:=by
 obtain⟨T,h1,h2⟩:=h.rd;obtain⟨_,h4,h5⟩:=vw hs h1;have h6:=h2.ew h4;obtain⟨h7,h8⟩:=Tm.Fc h2 h4 (by omega);have h9:=h2.few;exact⟨h6,fun t ht=>⟨h6 t ht,h8 t ht⟩,by omega,by omega⟩
theorem yF{w:World}{B:Nat}{s:List UInt8}{tys:List Tm.Ty}{a:Option Addr}{cap:Nat}{vs:List Value}(h:pQ w B s tys a cap vs)(hs:s.length≤3000)(hB:ke w):
  Calls Tryz.prog 47 #[.slice a tys.length cap] w fun e w'=>e= .returned (.string (aa (Tm.cS tys)))∧Below w.heap.size w w':=by
 obtain⟨h1,_,h3,h4⟩:=h.ew hs;exact BD tys h1 w B cap B a vs h.own h.enc h.lv h.le (by omega) (by omega)
theorem kU{w:World}{B:Nat}{s:List UInt8}{tys:List Tm.Ty}{a:Option Addr}{cap:Nat}{vs:List Value}(h:pQ w B s tys a cap vs)(hs:s.length≤3000):
  Calls Tryz.prog 26 #[.slice a tys.length cap] w (jn w (Tm.chk [] tys)):=by
 obtain⟨_,h2,_,h4⟩:=h.ew hs;exact BO tys w B cap B a vs h.own h.enc h2 (by omega)
theorem kV(s:List UInt8)(w:World)(hs:s.length≤3000)(hB:ke w):Calls Tryz.prog 25 #[.string (aa s)] w fun e w'=>Below w.heap.size w w'∧((∃tys a cap vs,pQ w' w.heap.size s tys a cap vs∧e= .returned (.tuple #[.slice a (List.length tys) cap,.nilIface]))∨((∀tys,¬nQ s tys)∧∃g:Nat,e= .returned (.tuple #[.slice none 0 0,.iface 120 (.pointer (some ⟨g,0,none⟩))]))):=by
 refine(GG s w hs hB).mono ?_;rintro e w' ⟨h1,⟨tys,a,cap,vs,h2,h3,h4,h5⟩|h2⟩
 ·exact⟨h1,.inl ⟨tys,a,cap,vs,⟨h2,h4,h5,iL hB.env.lv h1 (Z5 _),h1.size⟩,h3⟩⟩
 ·exact⟨h1,.inr h2⟩
theorem rX(w:World)(hB:ke w):Calls Tryz.prog 22 #[] w fun e w'=>Below w.heap.size w w'∧∃tys a cap vs,Tm.bZ Tm.bV tys∧pQ w' w.heap.size (Tm.cS Tm.bV) tys a cap vs∧e= .returned (.tuple #[.slice a 2 cap,.bool true]):=by
 have hbl:(Tm.cS Tm.bV).length≤3000:=by rw[Tm.lW];omega
 have hp:=kV (Tm.cS Tm.bV) w hbl hB;obtain⟨T,hT⟩:=Tm.Fh;obtain⟨L,hL1,hL2⟩:=Tm.DC hT (Tm.cS Tm.bV).length;have hrd:nQ (Tm.cS Tm.bV) L:=⟨T,hT,hL2⟩;have hprL:Tm.cS L=Tm.cS Tm.bV:=(Tm.AX hL1).symm;have hchk:Tm.chk [] L=none:=by rw[Tm.pw hL1 Tm.ij];exact Tm.tu
 have hlen:L.length=2:=by
  have:∀{l m:List Tm.Ty},Tm.bZ l m→l.length=m.length:=by
   intro l m h
   induction h with
   |nil=>rfl
   |cons _ _ ih=>simp[ih]
  exact(this hL1).symm
 have HL1:=hid hL1;have HRD:=hid hrd;have HLEN:=hid hlen;have HCHK:=hid hchk;have HBL:=hid hbl;have HPR:=hid hprL;rw[Tm.mV]at hp;have HP:=hid hp;have HB:=hid hB;clear hp hB hL1 hL2 hrd hprL hchk hlen hbl hT;go_enter Tryz.func22,Tryz.ntmps22;go_wp2_with fail;refine HP.out.mono ?_;rintro e w1 ⟨hb1,⟨tys,a,cap,vs,hm,rfl⟩|⟨hno,_⟩⟩
 ·have hrd':=hm.rd;rw[← Tm.mV]at hrd' hm;obtain rfl:=hrd'.det HRD.out;have HM:=hid hm;have HB1:=hid hb1;have HCK:=hid (kU hm HBL.out);have h2:=HLEN.out;clear hm hb1 hrd' HP;generalize hnn:tys.length=nn at *
  subst h2;go_wp2_with fail;refine HCK.out.mono ?_;intro e w2 hck;unfold jn at hck;rw[HCHK.out]at hck;obtain⟨hb2,rfl⟩:=hck;have HM2:=hid (HM.out.up hb2);have HB2:=hid (HB1.out.trans (hb2.mono HB1.out.size));have hpr:=yF HM2.out HBL.out (HB.out.up HB2.out);rw[hnn,HPR.out]at hpr;obtain⟨P,hP⟩:∃P,P=Tm.cS Tm.bV:=⟨_,rfl⟩;rw[← hP]at hpr;have q1:(P==[115,116,114,117,99,116,32,112,97,105,114,32,123,10,32,32,117,56,32,110,32,61,32,115,105,122,101,32,115,59,10,32,32,98,121,116,101,115,32,115,91,110,93,59,10,125,10,115,116,114,117,99,116,32,98,111,120,32,123,10,32,32,117,49,54,98,101,32,107,105,110,100,59,10,32,32,117,56,32,109,97,110,121,32,61,32,99,111,117,110,116,32,108,59,10,32,32,112,97,105,114,32,108,91,109,97,110,121,93,59,10,32,32,119,104,101,110,32,107,105,110,100,32,61,61,32,49,32,123,10,32,32,32,32,105,56,32,109,111,114,101,59,10,32,32,125,10,32,32,117,51,50,108,101,32,115,117,109,32,61,32,99,104,101,99,107,32,107,105,110,100,32,108,59,10,125,10])=true:=by rw[beq_iff_eq,hP,Tm.mV]
  have HPP:=hid hpr;clear hpr hb2 hP HCK;go_wp2_with fail;refine HPP.out.mono ?_;rintro e w3 ⟨rfl,hb3⟩;have HM3:=hid (HM2.out.up hb3);have HB3:=hid (HB2.out.trans (hb3.mono HB2.out.size));clear hb3;go_wp2_with fail;go_ret2;exact⟨HB3.out,tys,a,cap,vs,HL1.out,HM3.out,rfl⟩
 ·rw[← Tm.mV]at hno;exact absurd HRD.out (hno _)
end
section
namespace Ly
open Ex (X Names ev)
open Tm
theorem Fi:∀p∈bk,(p.2.1=1∨p.2.1=2∨p.2.1=4∨p.2.1=8)∧(p.2.2.1=0∨p.2.2.1=1)∧(p.2.2.2=false→p.2.1≤4):=by decide
theorem BQ{w:Wd}(h:(kindOf w).isSome=true):(bj w=1∨bj w=2∨bj w=4∨bj w=8)∧(fR w=0∨fR w=1)∧(eF w=false→bj w≤4):=by
 have h2:=h;unfold kindOf at h;rw[Option.isSome_map]at h;obtain⟨p,hp⟩:=Option.isSome_iff_exists.1 h;have h1:=List.mem_of_find?_eq_some hp;have e:kindOf w=some p.2:=by unfold kindOf;rw[hp];rfl
 unfold bj fR eF;rw[e];exact Fi p h1
theorem gD(l:List UInt8)(wd o:Nat):∀(m k:Nat),k < m→byteOf (fG l 0 wd o m) k=(l.getD (plc k wd o) 0).toNat
 |0,k,h=>by omega
 |m+1,k,h=>by
  have hx:=iG l 0 wd o m;have hb:=(l.getD (0+plc m wd o) 0).toNat_lt;have hp:0 < 256 ^ m:=Nat.pow_pos (by decide);rw[fG]
  by_cases hk:k < m
  ·have ih:=gD l wd o m k hk;have e1:(fG l 0 wd o m+(l.getD (0+plc m wd o) 0).toNat * 256 ^ m) % 256 ^ m=fG l 0 wd o m:=by rw[Nat.add_mul_mod_self_right,Nat.mod_eq_of_lt hx]
   rw[← iH _ m k hk,e1];exact ih
  ·obtain rfl:k=m:=by omega
   unfold byteOf;rw[Nat.add_mul_div_right _ _ hp,Nat.div_eq_of_lt hx,Nat.zero_add,Nat.zero_add,Nat.mod_eq_of_lt (by rw[Nat.zero_add]at hb;omega)]
theorem rF{u:Wd}{wd o:Nat}(h:u.length=wd):lG (fG u 0 wd o wd) wd o=u:=by
 apply List.ext_getElem
 ·rw[nM,h]
 ·intro j h1 h2;have hj:j < wd:=by omega
  have e:=gD u wd o wd (plc j wd o) (mM hj);rw[oz hj,List.getD_eq_getElem?_getD,Y1 h2,Option.getD_some]at e;simp only[lG,List.getElem_map,List.getElem_range,e];exact UInt8.ofNat_toNat
theorem DD{wd:Nat}(h:wd=1∨wd=2∨wd=4∨wd=8)(v:Int):((eZ v % 256 ^ wd:Nat):Int)=v % ((256 ^ wd:Nat):Int):=by
 unfold eZ;rcases h with rfl|rfl|rfl|rfl <;> (simp only[Nat.reducePow];omega)
theorem DE{w u:Wd}(hk:(kindOf w).isSome=true)(hu:u.length=bj w):py w (mO w u)=u∧cz w (mO w u)=true:=by
 obtain⟨h1,h2,h3⟩:=BQ hk;have hg:=iG u 0 (bj w) (fR w) (bj w);have hp:=rF (o:=fR w) hu;unfold py cz mO;generalize fG u 0 (bj w) (fR w) (bj w)=g at *
 generalize fR w=o at *
 generalize bj w=wd at *
 have hc:i' (eZ (if eF w then gZ g wd else((g:Nat):Int))) wd=g:=by
  have hm:=DD h1 (if eF w then gZ g wd else((g:Nat):Int));have hgm:(g:Int) % ((256 ^ wd:Nat):Int)=(g:Int):=Int.emod_eq_of_lt (by omega) (by omega);have he:(if eF w then gZ g wd else((g:Nat):Int)) % ((256 ^ wd:Nat):Int)=(g:Int):=by
   split
   ·unfold gZ i';rw[Nat.mod_eq_of_lt hg];split
    ·exact hgm
    ·rw[Int.sub_emod_right];exact hgm
   ·exact hgm
  rw[he]at hm;unfold i';exact Int.ofNat_inj.1 hm
 refine⟨?_,?_⟩
 ·rw[← Di,show eZ (if eF w=true then gZ g wd else(g:Int)) % 256 ^ wd=g from hc];exact hp
 ·cases hs:eF w with
  |true=>
   rw[hs]at hc;simp only[if_true]at hc⊢;rw[decide_eq_true_eq];unfold gZ;rw[show i' (eZ (if i' g wd < 256 ^ wd / 2 then(i' g wd:Int)else(i' g wd:Int) - ((256 ^ wd:Nat):Int))) wd=g from hc,show i' g wd=g from Nat.mod_eq_of_lt hg]
  |false=>
   rw[hs]at hc;simp only[Bool.false_eq_true,if_false]at hc⊢;have h8:256 ^ wd≤18446744073709551616:=jN (by rcases h1 with rfl|rfl|rfl|rfl <;> omega);have e:eZ (g:Int)=g:=by unfold eZ;omega
   rw[hc,e];simp
def zU(s:Wd)(S:Sub)(W:Wri):Prop:=∀t st ks st',st.at_≤s.length→S t st=some (ks,st')→Step s st st'∧W t ks=some (seg s st.at_ st'.at_)
theorem pR{s:Wd}{st st1:St}(h:nod st=some st1)(ha:st.at_≤s.length):st1.at_=st.at_∧st1.at_≤s.length:=by
 have:=kO h;exact⟨this,by omega⟩
theorem pS{s:Wd}{S:Sub}{W:Wri}(hS:zU s S W){N:Names}{h:Hd}(hf:∀w,h.k= .scalar w→(kindOf w).isSome=true){st st':St}{d:Nd}(ha:st.at_≤s.length)(hr:bI S s N h st=some (d,st')):Step s st st'∧aY W h d=some (seg s st.at_ st'.at_):=by
 unfold bI at hr;rw[Option.bind_eq_some_iff]at hr;obtain⟨st1,h1,h2⟩:=hr;obtain⟨e1,l1⟩:=pR h1 ha;unfold aY;cases hk:h.k with
 |scalar w=>
  rw[hk]at h2;simp only[]at h2;rw[Option.map_eq_some_iff]at h2;obtain⟨⟨u,st2⟩,h3,h4⟩:=h2;cases h4;obtain⟨g1,g2,g3⟩:=te h3 l1;obtain⟨g4,g5⟩:=DE (hf w hk) (u:=u) (by rw[g3];simp);rw[e1]at g2;refine⟨⟨by rw[← e1];exact g1.le,g1.len⟩,?_⟩;simp only[kNo,ne_eq,not_true_eq_false,or_self,if_false];rw[if_pos g5,g4,g2]
 |bytes=>
  rw[hk]at h2;simp only[]at h2;rw[Option.bind_eq_some_iff]at h2;obtain⟨k,_,h2⟩:=h2;rw[Option.map_eq_some_iff]at h2;obtain⟨⟨u,st2⟩,h3,h4⟩:=h2;cases h4;obtain⟨g1,g2,g3⟩:=te h3 l1;rw[e1]at g2;refine⟨⟨by rw[← e1];exact g1.le,g1.len⟩,?_⟩;simp only[kNo,ne_eq,not_true_eq_false,or_self,if_false,g2]
 |struct t=>
  rw[hk]at h2;simp only[]at h2;rw[Option.map_eq_some_iff]at h2;obtain⟨⟨ks,st2⟩,h3,h4⟩:=h2;cases h4;obtain⟨g1,g2⟩:=hS t st1 ks st2 l1 h3;rw[e1]at g2;refine⟨⟨by rw[← e1];exact g1.le,g1.len⟩,?_⟩;simp only[kNo,ne_eq,not_true_eq_false,or_self,if_false,g2]
theorem vx{s:Wd}{f:St→Option (Nd×St)}{g:Nd→Option Wd}(hf:∀st st' d,st.at_≤s.length→f st=some (d,st')→Step s st st'∧g d=some (seg s st.at_ st'.at_)):∀(k:Nat) (st st':St) (ks:Nds),st.at_≤s.length→rep f k st=some (ks,st')→Step s st st'∧cO g ks=some (seg s st.at_ st'.at_)
 |0,st,st',ks,ha,h=>by
  unfold rep at h;cases h;exact⟨⟨Z5 _,ha⟩,by unfold cO;rw[zK]⟩
 |k+1,st,st',ks,ha,h=>by
  unfold rep at h;rw[Option.bind_eq_some_iff]at h;obtain⟨⟨d,st1⟩,h1,h2⟩:=h;rw[Option.map_eq_some_iff]at h2;obtain⟨⟨r,st2⟩,h3,h4⟩:=h2;cases h4;obtain⟨g1,g2⟩:=hf st st1 d ha h1;obtain⟨g3,g4⟩:=vx hf k st1 _ r g1.len h3;refine⟨⟨Nat.le_trans g1.le g3.le,g3.len⟩,?_⟩;unfold Nd.put cO;simp only[]at g4⊢;rw[g2,g4];simp only[Option.bind_some,Option.map_some];rw[td s g1.le g3.le]
theorem Fj{s:Wd}{S:Sub}{W:Wri}(hS:zU s S W){N:Names}{h:Hd}(hf:∀w,h.k= .scalar w→(kindOf w).isSome=true){st st':St}{d:Nd}(ha:st.at_≤s.length)(hr:hdR S s N h st=some (d,st')):Step s st st'∧bc W h d=some (seg s st.at_ st'.at_):=by
 unfold hdR at hr;unfold bc;split at hr
 ·rename_i hm
  rw[if_pos hm];unfold hH at hr;rw[Option.bind_eq_some_iff]at hr;obtain⟨st1,h1,h2⟩:=hr;obtain⟨e1,l1⟩:=pR h1 ha;rw[Option.bind_eq_some_iff]at h2;obtain⟨k,_,h2⟩:=h2;split at h2
  ·cases h2
  ·rw[Option.map_eq_some_iff]at h2;obtain⟨⟨ks,st2⟩,h3,h4⟩:=h2;cases h4;obtain⟨g1,g2⟩:=vx (g:=aY W h) (fun st st' d ha hr=>pS hS hf ha hr) k.toNat st1 st2 ks l1 h3;rw[e1]at g2;refine⟨⟨by rw[← e1];exact g1.le,g1.len⟩,?_⟩;simp only[ne_eq,not_true_eq_false,or_self,if_false,g2]
 ·rename_i hm
  rw[if_neg hm];exact pS hS hf ha hr
theorem jq{s:Wd}{S:Sub}{W:Wri}(hS:zU s S W):∀(l:Its),bB l→∀(N N':Names) (st st':St) (ks:Nds),st.at_≤s.length→bM S s l N st=some (ks,N',st')→Step s st st'∧aH W l ks=some (seg s st.at_ st'.at_)
 | .nil,_,N,N',st,st',ks,ha,h=>by
  unfold bM at h;cases h;exact⟨⟨Z5 _,ha⟩,by unfold aH;rw[zK]⟩
 | .cons h l,hF,N,N',st,st',ks,ha,hr=>by
  unfold bM at hr;rw[Option.bind_eq_some_iff]at hr;obtain⟨⟨d,st1⟩,h1,h2⟩:=hr;rw[Option.map_eq_some_iff]at h2;obtain⟨⟨r,N2,st2⟩,h3,h4⟩:=h2;cases h4;obtain⟨g1,g2⟩:=Fj hS (fun w hw=>by have:=hF.1.1;rw[hw]at this;exact this) ha h1;obtain⟨g3,g4⟩:=jq hS l hF.2 _ _ st1 _ r g1.len h3;refine⟨⟨Nat.le_trans g1.le g3.le,g3.len⟩,?_⟩;unfold Nd.put aH;simp only[]at g4⊢;rw[g2,g4];simp only[Option.bind_some,Option.map_some];rw[td s g1.le g3.le]
 | .when a c b l,hF,N,N',st,st',ks,ha,hr=>by
  unfold bM at hr;rw[Option.bind_eq_some_iff]at hr;obtain⟨st1,h1,hr⟩:=hr;obtain⟨e1,l1⟩:=pR h1 ha;rw[Option.bind_eq_some_iff]at hr;obtain⟨v,_,hr⟩:=hr;rw[Option.bind_eq_some_iff]at hr;obtain⟨⟨kb,N1,st2⟩,h2,h3⟩:=hr;rw[Option.map_eq_some_iff]at h3;obtain⟨⟨r,N2,st3⟩,h4,h5⟩:=h3;cases h5
  by_cases hv:v=0
  ·rw[if_pos hv]at h2;cases h2;obtain⟨g3,g4⟩:=jq hS l hF.2.2 _ _ st1 _ r l1 h4;refine⟨⟨by rw[← e1];exact g3.le,g3.len⟩,?_⟩;unfold aH;rw[e1]at g4;simp only[hv,if_true,ne_eq,not_true_eq_false,or_self,if_false,Option.bind_some,g4,Option.map_some,List.nil_append]
  ·rw[if_neg hv]at h2;obtain⟨g1,g2⟩:=jq hS b hF.2.1 _ _ st1 st2 kb l1 h2;obtain⟨g3,g4⟩:=jq hS l hF.2.2 _ _ st2 _ r g1.len h4;refine⟨⟨by rw[← e1];exact Nat.le_trans g1.le g3.le,g3.len⟩,?_⟩;unfold aH;simp only[hv,if_false,ne_eq,not_true_eq_false,or_self,show ¬((1:Int)=0) by decide,g2,Option.bind_some,g4,Option.map_some];rw[e1,td s (by rw[← e1];exact g1.le) g3.le]
theorem nR(s:Wd):∀(l:List Ty),(∀t∈l,aZ t)→zU s (rdS s l) (wrS l)
 |[],_,t,st,ks,st',_,h=>by cases h
 |t::r,hF,nm,st,ks,st',ha,h=>by
  have ih:=nR s r fun u hu=>hF u (by simp[hu])
  unfold rdS at h;unfold wrS;split at h
  ·rename_i hn
   rw[if_pos hn];rw[Option.map_eq_some_iff]at h;obtain⟨⟨k,N2,st2⟩,h1,h2⟩:=h;cases h2;exact jq ih t.items (hF t (by simp)).2 _ _ st _ _ ha h1
  ·rename_i hn
   rw[if_neg hn];exact ih nm st ks st' ha h
def cf(root:Wd):Hd:=⟨0,.struct root,root,none,.none⟩
theorem pU{s root:Wd}{l:List Ty}(hF:∀t∈l,aZ t){d:Nd}{st:St}(h:bI (rdS s l) s (fun _=>none) (cf root) ⟨0,0⟩=some (d,st))(hend:st.at_=s.length):aY (wrS l) (cf root) d=some s:=by
 obtain⟨_,h2⟩:=pS (nR s l hF) (h:=cf root) (fun w hw=>by cases hw) (Nat.zero_le _) h;rw[h2,hend];unfold seg;simp
end Ly
namespace Ly
open Ex (X Names ev)
open Tm
def kx(ts:List Wd):Its→Prop
 | .nil=>True
 | .cons h l=>(∀t,h.k= .struct t→t∈ts)∧kx ts l
 | .when _ _ b l=>kx ts b∧kx ts l
theorem jS{ts:List Wd}:∀(l:Its) (ns seen ns' seen':List Wd),bC ts l ns seen= .ok ns' seen'→kx ts l
 | .nil,_,_,_,_,_=>trivial
 | .cons h l,ns,seen,ns',seen',e=>by
  unfold bC at e;split at e
  ·cases e
  ·split at e
   ·cases e
   ·rename_i hl
    split at e
    ·refine⟨fun t ht=> ?_,jS l _ _ _ _ e⟩;rw[ht]at hl;have h2:(!ts.contains t)≠true:=hl;simpa using h2
    ·cases e
 | .when a c b l,ns,seen,ns',seen',e=>by
  unfold bC at e;split at e
  ·cases hb:bC ts b ns seen with
   |bad x=>rw[hb]at e;cases e
   |ok n2 s2=>
    rw[hb]at e;simp only[]at e;split at e
    ·cases e
    ·exact⟨jS b _ _ _ _ hb,jS l _ _ _ _ e⟩
  ·cases e
def names(l:List Ty):List Wd:=l.map (·.name)
def fW:List Ty→Prop
 |[]=>True
 |t::r=>t.name∉names r∧kx (names r) t.items∧fW r
theorem rY:∀(l m:List Ty),chk (names m) l=none→fW m→fW (l.reverse++m)
 |[],m,_,h=>h
 |t::l,m,h,hm=>by
  unfold chk at h;split at h
  ·cases h
  ·rename_i hn
   cases hb:bC (names m) t.items [] []with
   |bad x=>rw[hb]at h;cases h
   |ok n2 s2=>
    rw[hb]at h;simp only[]at h;split at h
    ·cases h
    ·rw[List.reverse_cons,List.append_assoc];exact rY l (t::m) h ⟨by simpa using hn,jS _ _ _ _ _ hb,hm⟩
theorem mW{l:List Ty}(h:chk [] l=none):fW l.reverse:=by
 have:=rY l [] h trivial;simpa using this
theorem jr{s:Wd}{t:Ty}{r:List Ty}{nm:Wd}(h:t.name≠nm)(st:St):rdS s (t::r) nm st=rdS s r nm st:=by
 show(if t.name=nm then _ else _)=_;rw[if_neg h]
theorem tv{s:Wd}{t:Ty}{r:List Ty}(st:St):rdS s (t::r) t.name st=(bM (rdS s r) s t.items (fun _=>none) st).map fun p=>(p.1,p.2.2):=by
 show(if t.name=t.name then _ else _)=_;rw[if_pos rfl]
theorem mX(l:List Ty)(w:Wd):w∈names l.reverse↔w∈names l:=by unfold names;simp
end Ly
namespace Ly
open Ex (X Names ev)
open Tm
theorem vy{a b:Option X}(h:uH a b)(N:Names):a.bind (ev N)=b.bind (ev N):=by
 cases a <;> cases b
 ·rfl
 ·exact h.elim
 ·exact h.elim
 ·exact Ex.gh.ev (N:=N) h
theorem vz{a b:Option X}(h:uH a b):a.isSome=b.isSome:=by
 cases a <;> cases b <;> first|rfl|exact h.elim
theorem jT{a b:Hd}(h:iV a b):cI a=cI b:=by
 rw[lE,lE,h.1,vz h.2.2.1]
theorem vA{a b:Hd}(h:iV a b):single a=single b:=by
 rw[eN,eN,h.1,vz h.2.2.1]
theorem vB(S:Sub)(s:Wd)(N:Names){a b:Hd}(h:iV a b)(st:St):bI S s N a st=bI S s N b st:=by
 unfold bI;rw[h.1,h.2.1,vy h.2.2.1 N]
theorem Fk(S:Sub)(s:Wd)(N:Names){a b:Hd}(h:iV a b)(st:St):hdR S s N a st=hdR S s N b st:=by
 unfold hdR hH;rw[jT h,vB S s N h,show bI S s N a=bI S s N b from funext (vB S s N h),h.2.1,vy h.2.2.1 N]
theorem DF(S:Sub)(s:Wd){l m:Its}(h:eA l m):∀(N:Names) (st:St),bM S s l N st=bM S s m N st:=by
 induction h with
 |nil=>intro N st;rfl
 |cons hh _ ih=>
  intro N st;unfold bM;rw[Fk S s N hh st,vA hh,hh.2.1]
  congr 1
  funext p
  rw[ih]
 |when hc _ _ ih1 ih2=>
  intro N st;unfold bM;rw[Ex.gh.ev (N:=N) hc]
  congr 1
  funext st1
  congr 1
  funext v
  rw[ih1]
  congr 1
  funext p
  rw[ih2]
theorem zV(s:Wd){l m:List Ty}(h:bZ l m):rdS s l=rdS s m:=by
 induction h with
 |nil=>rfl
 |@cons a b l m hh _ ih=>
  funext nm st
  show(if a.name=nm then _ else _)=(if b.name=nm then _ else _);rw[hh.1,ih,DF _ _ hh.2]
theorem yG{l m l' m':List Ty}(h:bZ l m)(h':bZ l' m'):bZ (l++l') (m++m'):=by
 induction h with
 |nil=>exact h'
 |cons a _ ih=>exact .cons a ih
theorem kW{l m:List Ty}(h:bZ l m):bZ l.reverse m.reverse:=by
 induction h with
 |nil=>exact .nil
 |cons a _ ih=>
  rw[List.reverse_cons,List.reverse_cons];exact yG ih (.cons a .nil)
def bX:Wd:=[0,1,2,2,104,105,0,7,0,0,0,0]
def dZ:Wd:=[98,111,120]
def ee:Nds:=(.cons [107,105,110,100] 1 0 2 1 [] .nil (.cons [109,97,110,121] 1 2 1 2 [] .nil (.cons [108] 9 3 4 0 [] (.cons [108] 3 3 3 0 [] (.cons [110] 1 3 1 2 [] .nil (.cons [115] 2 4 2 0 [104,105] .nil .nil)) (.cons [108] 3 6 1 0 [] (.cons [110] 1 6 1 0 [] .nil (.cons [115] 2 7 0 0 [] .nil .nil)) .nil)) (.cons [] 4 7 1 1 [] (.cons [109,111,114,101] 1 7 1 7 [] .nil .nil) (.cons [115,117,109] 1 8 4 0 [] .nil .nil)))))
theorem vC:bI (rdS bX bV.reverse) bX (fun _=>none) (cf dZ) ⟨0,0⟩=some (⟨dZ,3,0,12,0,[],ee⟩,⟨12,13⟩):=by
 rfl
end Ly
end
section
open Go Go.RowKit
open Rd
open Ly
namespace Ly
theorem dG{ts:List Tm.Wd}:∀(i:Nat) (l:Tm.Its),kx ts l→kx ts (l.drop i)
 |0,l,h=>by cases l <;> exact h
 |i+1,.nil,h=>h
 |i+1,.cons _ l,h=>dG i l h.2
 |i+1,.when _ _ _ l,h=>dG i l h.2
end Ly
theorem nS(A:List Tm.Ty)(S:Sub)(s:Tm.Wd)(hs:s.length≤1000000)(ts:List Tm.Wd)(hS:∀nm∈ts,Dw A S s nm):∀(n:Nat) (l:Tm.Its),l.sz < n→Tm.bB l→kx ts l→l.sz≤100000→rO A S s l
 |0,l,h,_,_,_=>absurd h (Nat.not_lt_zero _)
 |n+1,l,h,hF,hR,hz=>by
  refine tr A S s hs l hF (Nat.le_trans (Tm.kS l) hz) (fun i a c b r hd=> ?_) (fun i hh r t hd hk=> ?_)
  ·have h1:=Tm.df i l hF;have h2:=dG i l hR;have h3:=Tm.gE i l;rw[hd]at h1 h2 h3;have h4:b.sz+1≤(Tm.Its.when a c b r).sz:=by simp only[Tm.Its.sz];omega
   exact nS A S s hs ts hS n b (by omega) h1.2.1 h2.1 (by omega)
  ·have h2:=dG i l hR;rw[hd]at h2;exact hS t (h2.1 t hk)
theorem vD(A:List Tm.Ty)(s:Tm.Wd)(hs:s.length≤1000000)(hA:∀t∈A,Tm.aZ t∧Tm.Its.sz t.items≤100000):∀(r:List Tm.Ty),(∀t∈r,t∈A)→fW r→∀nm∈names r,Dw A (rdS s r) s nm
 |[],_,_,nm,h=>by cases h
 |t::r,hm,hc,nm,h=>by
  obtain⟨c1,c2,c3⟩:=hc;have ih:=vD A s hs hA r (fun t' ht'=>hm t' (List.mem_cons_of_mem _ ht')) c3;have htA:=hm t (by simp);obtain⟨f1,f2⟩:=hA t htA
  by_cases hn:t.name=nm
  ·refine⟨t,htA,hn,by have:=jR f1.1.2;omega,rdS s r,fun st=>tv st,nS A (rdS s r) s hs (names r) ih _ t.items (Nat.lt_succ_self _) f1.2 c2 f2⟩
  ·have hr:nm∈names r:=by
    rcases List.mem_cons.1 h with h|h
    ·exact absurd h.symm hn
    ·exact h
   obtain⟨t2,g1,g2,g3,S',g4,g5⟩:=ih nm hr;refine⟨t2,g1,g2,g3,S',fun st=> ?_,g5⟩;rw[jr (by rw[g2];exact hn)];exact g4 st
structure FoS(U w wr:World)(rb:Nat)(tys:List Tm.Ty)(i:Nat):Prop where
 bel:Below w.heap.size w wr
 lt:w.heap.size < wr.heap.size
 fm:∃n G,fs Tryz.prog 9 wr w.heap.size n G∧n≤i∧(∀t∈tys.take i,∃ga cap bs,G (.string t.name)=some (.slice ga t.items.len cap)∧an U (rb+1) 70 13 ga t.items.len cap bs∧Tm.bp U rb t.items bs)∧(∀nm:Tm.Wd,(∀t∈tys.take i,t.name≠nm)→G (.string nm)=none)
theorem FoS.start(U w:World)(rb:Nat)(tys:List Tm.Ty):FoS U w (w.alloc (.map #[] 0)) rb tys 0:=
 ⟨(Y4 _ _).alloc (Z5 _) _,by simp,0,_,fs.made w,Z5 _,fun t ht=>by simp at ht,fun nm _=>rfl⟩
theorem FoS.push{U w wr V w5:World}{rb i nm capb:Nat}{tys:List Tm.Ty}{t:Tm.Ty}{G:Lit→Option Value}{ga:Option Addr}{bs:List Value}{o:Obj}(h:FoS U w wr rb tys i)(hnd:(tys.map (·.name)).Nodup)(hV:V=wr.alloc o)(hti:tys.take (i+1)=tys.take i++[t])
  (hit:an U (rb+1) 70 13 ga t.items.len capb bs∧Tm.bp U rb t.items bs)(hM:nm≤i∧(∀t∈tys.take i,∃ga cap bs,G (.string t.name)=some (.slice ga t.items.len cap)∧an U (rb+1) 70 13 ga t.items.len cap bs∧Tm.bp U rb t.items bs)∧(∀nm:Tm.Wd,(∀t∈tys.take i,t.name≠nm)→G (.string nm)=none))
  (hm:fs Tryz.prog 9 w5 w.heap.size (nm+1) (Bi G (.string t.name) (.slice ga t.items.len capb)))(hg:V.grownBy w5 (some w.heap.size))(hs:w5.heap.size=V.heap.size):FoS U w w5 rb tys (i+1):=by
 have hbV:Below w.heap.size w V:=by rw[hV];exact h.bel.alloc h.bel.size _
 have hsz:V.heap.size=wr.heap.size+1:=by rw[hV];simp
 obtain⟨h1,h2,h3⟩:=hM;have hsub:((tys.take i++[t]).map (·.name)).Nodup:=by
  rw[← hti];exact List.Sublist.nodup ((List.take_sublist _ _).map _) hnd
 rw[List.map_append,List.nodup_append]at hsub;have hne:∀t'∈tys.take i,t'.name≠t.name:=fun t' ht'=>hsub.2.2 _ (List.mem_map_of_mem ht') _ (by simp)
 have hlit:∀{a b:Tm.Wd},a≠b→Lit.string a≠Lit.string b:=fun hab e=>by injection e with e;exact hab e
 refine⟨hbV.grown hg (by have:=h.lt;omega) (fun k e=>by injection e with e;omega),by have:=h.lt;omega,nm+1,_,hm,by omega,fun t' ht'=> ?_,fun x hx=> ?_⟩
 ·rw[hti]at ht';rcases List.mem_append.1 ht' with h4|h4
  ·rw[kR _ _ (hlit (hne t' h4))];exact h2 t' h4
  ·have:t'=t:=by simpa using h4
   subst this;rw[rK _ (lL _)];exact⟨ga,capb,bs,rfl,hit.1,hit.2⟩
 ·rw[hti]at hx;rw[kR _ _ (hlit (fun e=>hx t (by simp) e.symm))];exact h3 x (fun t' ht'=>hx t' (List.mem_append_left _ ht'))
theorem kX(tys:List Tm.Ty)(U w:World)(hU:Below U.heap.size U w)(rb cap B:Nat)(a:Option Addr)(vs:List Value)(ho:an U B 97 3 a tys.length cap vs)(he:Tm.cF U rb tys vs)(hF:∀t∈tys,Tm.aZ t)(hn:tys.length≤100)(hnd:(tys.map (·.name)).Nodup):
  Calls Tryz.prog 27 #[.slice a tys.length cap] w fun e w'=>e= .returned (.map (some w.heap.size))∧Below w.heap.size w w'∧bR U w' rb w.heap.size tys:=by
 have hcap:tys.length≤cap:=aT ho;obtain⟨n,hn'⟩:∃n,n=tys.length:=⟨_,rfl⟩;rw[← hn']at hcap hn⊢;have HO:=hid ho;have HE:=hid he;have HF:=hid hF;have HN:=hid hn';have HND:=hid hnd;have hmk:∀V,(Instr.makeMap 59 none).run Tryz.prog V= .ok (.map (some V.heap.size)) (V.alloc (.map #[] 0)):=fun V=>by kernel_rfl
 have S0:=hid (FoS.start U w rb tys);clear ho he hF hn' hnd;go_enter Tryz.func27,Tryz.ntmps27;go_wp2_with fail;go_loopw [9] (fun v9 wr=>∃(i:Nat),v9= .int .i64 (i:Nat)∧i≤n∧Hid (FoS U w wr rb tys i)) (fun v9 _=>n - (intOf v9).toNat)
 case atStart=>exact⟨0,rfl,Nat.zero_le _,S0⟩
 case round=>
  obtain⟨i,rfl,hi,HS⟩:=hrel;clear S0
  by_cases hin:i < n
  ·have q1:decide ((i:Int) < (n:Int))=true:=Z9 (by omega);have q2:decide (i < n)=true:=Z9 hin;have hii:(i:Int) < (n:Int):=by omega
   have HLT:=hid hin;obtain⟨x,rfl⟩:∃x,a=some x:=by
    cases a with
    |none=>have:=HO.out.aO.1;rw[← HN.out]at this;omega
    |some x=>exact⟨x,rfl⟩
   obtain⟨gb,rfl⟩:∃gb,x=⟨gb,0,none⟩:=⟨x.block,HO.out.row.1⟩;obtain⟨t,r,hdr⟩:=Tm.ie tys i (by rw[← HN.out];exact hin);obtain⟨ga,capb,bs,g1,g2,g3,g4⟩:=Tm.cF.ty HO.out HE.out hdr;have hmem:t∈tys:=by
    have:t∈tys.drop i:=by rw[hdr];simp
    exact List.mem_of_mem_drop this
   have hti:tys.take (i+1)=tys.take i++[t]:=by
    rw[List.take_add,hdr];rfl
   have hrow:=(g3.below hU g3.lt).below HS.out.bel (Nat.lt_of_lt_of_le g3.lt hU.size);have c0:=hrow.cell 0 (by simp);have c1:=hrow.cell 1 (by simp);have c2:=hrow.cell 2 (by simp);simp only[Z0,Z1,Y2]at c0 c1 c2;obtain⟨nm,G,m1,m2,m3,m4⟩:=HS.out.fm;obtain⟨V,hV⟩:∃V,V=wr.alloc (.cells #[.string (aa t.name),.int .i64 (t.at_:Nat),.slice ga (Tm.Its.len t.items) capb] 97):=⟨_,rfl⟩;have hMV:fs Tryz.prog 9 V w.heap.size nm G:=by rw[hV];exact m1.al (Below.heap_alloc _ _ _ m1.lt)
   have HMV:=hid hMV;have HIT:=hid (And.intro g1 g2);have HTI:=hid hti;have HM:=hid (And.intro m2 (And.intro m3 m4));have hnl:t.name.length≤100000:=by have:=jR (HF.out t hmem).1.2;omega
   have HNL:=hid hnl;have HV:=hid hV;clear g1 g2 g3 g4 hrow hdr hmem hti m1 m2 m3 m4 hMV hnl hin hi hV;have hbx:ad (wr.alloc (.cells #[.string {data:= #[]},.int .i64 0,.slice none 0 0] 97)) wr.heap.size 0 97 [.string {data:= #[]},.int .i64 0,.slice none 0 0]:=ad.new wr 97 #[.string {data:= #[]},.int .i64 0,.slice none 0 0];have y0:=hbx.cell0 0 (by simp);have z0:=hbx.frozen0 0 (by simp);have y1:=hbx.cell0 1 (by simp);have z1:=hbx.frozen0 1 (by simp);have y2:=hbx.cell0 2 (by simp);have z2:=hbx.frozen0 2 (by simp);simp only[Z0,Z1]at y0 y1 y2;have hby:ad (wr.alloc (.cells #[.string (aa t.name),.int .i64 (t.at_:Nat),.slice ga (Tm.Its.len t.items) capb] 97)) wr.heap.size 0 97 [.string (aa t.name),.int .i64 (t.at_:Nat),.slice ga (Tm.Its.len t.items) capb]:=ad.new wr 97 #[.string (aa t.name),.int .i64 (t.at_:Nat),.slice ga (Tm.Its.len t.items) capb];have v0:=hby.cell0 0 (by simp);have v2:=hby.cell0 2 (by simp);simp only[Z0,Z1]at v0 v2;clear hbx hby;go_wp2_with (rw[← HV.out];refine qS V rfl _ _ _ 59 rfl 9 63 Tryz.underlying59 (Maps.string_keyed Tryz.underlying9) w.heap.size nm G rfl HMV.out (by have:=HM.out.1;show nm < 9223372036854775807;omega) (.string (aa t.name)) (.slice ga (Tm.Its.len t.items) capb) _ (tg Tryz.underlying9 t.name (by have:=HNL.out;omega)) (lL _) rfl rfl ?_;intro w5 hm5 hg5 hs5);go_wp2_with fail;go_roundw
   case rel=>exact⟨i+1,rfl,by have:=HLT.out;omega,hid (HS.out.push HND.out HV.out HTI.out HIT.out HM.out hm5 hg5 hs5)⟩
   case measure=>simp only[intOf];have:=HLT.out;omega
  ·have q1:decide ((i:Int) < (n:Int))=false:=Y9 (by omega);have q2:decide (i < n)=false:=Y9 hin;have HEQ:=hid (show i=n by omega);clear hin hi;go_wp2_with fail;go_ret;obtain⟨nm,G,m1,m2,m3,m4⟩:=HS.out.fm;rw[HEQ.out,HN.out,List.take_length]at m3 m4;exact⟨rfl,HS.out.bel,nm,G,m1,m3,m4⟩
theorem gN(pb:Nat)(x:Value)(t:TypeId)(v:Value)(older:List PanicEntry)(w:World)(hc:w.cell? ⟨pb,0,none⟩=some x)(hz:w.frozen? ⟨pb,0,none⟩=false)(hp:pb < w.heap.size):
  CallsD Tryz.prog 59 #[.pointer (some ⟨pb,0,none⟩)] (.panicking ({v:= .iface 110 (.agg #[.iface t v]),recovered:=false}::older)) w fun e u' w'=>
   e= .returned (.tuple #[])∧u'= .panicking ({v:= .iface 110 (.agg #[.iface t v]),recovered:=true}::older)∧∃o,w'=(w.setCell ⟨pb,0,none⟩ (.iface t v)).alloc o:=by
 refine callsD_of_wpS Tryz.func59 rfl fun c₀ cs hu=> ?_
 simp only[Tryz.ntmps59,List.size_toArray,Z6,Y3,Nat.reduceAdd,Nat.reduceSub,Array.replicate_succ,Array.replicate_zero,List.push_toArray,List.append_toArray,List.nil_append,List.cons_append];apply wpS_seq;apply wpS_region;simp[wpOpsS,go_sem,recoverD,hu,Tryz.ntmps59,Exit.thenS];refine wpS_of_wp ?_;have hta:∀V:World,(Instr.typeAssert (.iface 110 (.agg #[.iface t v])) 20 110 true).run Tryz.prog V= .ok (.tuple #[.agg #[.iface t v],.bool true]) V:=fun V=>by kernel_rfl
 go_wp2_with fail;exact⟨rfl,_,rfl,.tuple #[],results_none rfl _ _ _,rfl,rfl,_,rfl⟩
theorem js(pb:Nat)(w:World):
  CallsD Tryz.prog 59 #[.pointer (some ⟨pb,0,none⟩)] .returning w fun e u' w'=>e= .returned (.tuple #[])∧u'= .returning∧w'=w:=by
 refine callsD_of_wpS Tryz.func59 rfl fun c₀ cs hu=> ?_
 simp only[Tryz.ntmps59,List.size_toArray,Z6,Y3,Nat.reduceAdd,Nat.reduceSub,Array.replicate_succ,Array.replicate_zero,List.push_toArray,List.append_toArray,List.nil_append,List.cons_append];apply wpS_seq;apply wpS_region;simp[wpOpsS,go_sem,recoverD,hu,Tryz.ntmps59,Exit.thenS];refine wpS_of_wp ?_;go_wp2_with fail;cases c₀
 simp_all[bodyPostS,results,Tryz.results59]
def fL(w:World)(R B:World→Prop)(e:Ending)(w':World):Prop:=
 (e= .returned .nilIface∧∃w1,R w1∧w'=w1.setCell ⟨w.heap.size,0,none⟩ .nilIface)∨(∃t v,e= .returned (.iface t v)∧∃w1 o,B w1∧w'=(w1.setCell ⟨w.heap.size,0,none⟩ (.iface t v)).alloc o)
def du(w:World)(R B:World→Prop)(e:Ending)(w1:World):Prop:=w1.heap[w.heap.size]? =(w.alloc (.cells #[.nilIface] 30)).heap[w.heap.size]? ∧((e= .returned (.tuple #[])∧R w1)∨(od e∧B w1))
theorem vF(c0 c1 c2 c3:Value)(w:World)(R B:World→Prop)(hf:Calls Tryz.prog 29 #[c0,c1,c2,c3] (w.alloc (.cells #[.nilIface] 30)) (du w R B)):
  Calls Tryz.prog 28 #[.func (.func 29) #[] #[c0,c1,c2,c3]] w (fL w R B):=by
 have HF:=hid hf;clear hf
 go_enter_defers Tryz.func28,Tryz.ntmps28
 go_wp2_with fail;refine HF.out.mono ?_;unfold du;rintro e w1 ⟨hk,h⟩;have hrow:ad (w.alloc (.cells #[.nilIface] 30)) w.heap.size 0 30 [.nilIface]:=ad.new w 30 #[.nilIface];have hrow1:=hrow.of_heap hk;have hc1:=hrow1.cell0 0 (by simp);have hf1:=hrow1.frozen0 0 (by simp);simp only[Z0]at hc1;have hl1:=hrow1.lt;clear hrow hrow1 hk;rcases h with⟨rfl,hR⟩|⟨⟨t,v,he⟩,hB⟩
 ·have HR:=hid hR;have hc4:(w1.setCell ⟨w.heap.size,0,none⟩ .nilIface).cell? ⟨w.heap.size,0,none⟩=some .nilIface:=World.cell?_setCell_same' _ _ _ (by rw[hc1];rfl);clear hR;go_wp2_with fail;refine leaves_cons (f:=59) (args:= #[.pointer (some ⟨w.heap.size,0,none⟩)]) (by simp) (by simp[go_sem]) ?_;refine(js w.heap.size _).mono ?_;rintro e u' w5 ⟨rfl,rfl,rfl⟩;simp[Leaves,settle,results,Tryz.results28,go_sem,hc4];exact .inl ⟨rfl,_,HR.out,rfl⟩
 ·unfold bA at he;subst he;have HB:=hid hB;clear hB;go_wp2_with fail;refine leaves_cons (f:=59) (args:= #[.pointer (some ⟨w.heap.size,0,none⟩)]) (by simp) (by simp[go_sem]) ?_;refine(gN w.heap.size .nilIface t v [] _ hc1 hf1 hl1).mono ?_;rintro e u' w5 ⟨rfl,rfl,o,rfl⟩;have hc5:(w1.setCell ⟨w.heap.size,0,none⟩ (.iface t v)).cell? ⟨w.heap.size,0,none⟩=some (.iface t v):=World.cell?_setCell_same' _ _ _ (by rw[hc1];rfl);have hb6:=(Y4 (w1.setCell ⟨w.heap.size,0,none⟩ (.iface t v)).heap.size (w1.setCell ⟨w.heap.size,0,none⟩ (.iface t v))).alloc (Z5 _) o;have hc6:((w1.setCell ⟨w.heap.size,0,none⟩ (.iface t v)).alloc o).cell? ⟨w.heap.size,0,none⟩=some (.iface t v):=(hb6.cell (p:=⟨w.heap.size,0,none⟩) (by simpa using hl1)).trans hc5;simp[Leaves,settle,results,Tryz.results28,go_sem,hc6];exact .inr ⟨t,v,rfl,_,o,HB.out,rfl⟩
theorem tw(c0 c1 c2 c3:Value)(w:World)(R B:World→Prop)(hf:Calls Tryz.prog 32 #[c0,c1,c2,c3] (w.alloc (.cells #[.nilIface] 30)) (du w R B)):
  Calls Tryz.prog 28 #[.func (.func 32) #[] #[c0,c1,c2,c3]] w (fL w R B):=by
 have HF:=hid hf;clear hf
 go_enter_defers Tryz.func28,Tryz.ntmps28
 go_wp2_with fail;refine HF.out.mono ?_;unfold du;rintro e w1 ⟨hk,h⟩;have hrow:ad (w.alloc (.cells #[.nilIface] 30)) w.heap.size 0 30 [.nilIface]:=ad.new w 30 #[.nilIface];have hrow1:=hrow.of_heap hk;have hc1:=hrow1.cell0 0 (by simp);have hf1:=hrow1.frozen0 0 (by simp);simp only[Z0]at hc1;have hl1:=hrow1.lt;clear hrow hrow1 hk;rcases h with⟨rfl,hR⟩|⟨⟨t,v,he⟩,hB⟩
 ·have HR:=hid hR;have hc4:(w1.setCell ⟨w.heap.size,0,none⟩ .nilIface).cell? ⟨w.heap.size,0,none⟩=some .nilIface:=World.cell?_setCell_same' _ _ _ (by rw[hc1];rfl);clear hR;go_wp2_with fail;refine leaves_cons (f:=59) (args:= #[.pointer (some ⟨w.heap.size,0,none⟩)]) (by simp) (by simp[go_sem]) ?_;refine(js w.heap.size _).mono ?_;rintro e u' w5 ⟨rfl,rfl,rfl⟩;simp[Leaves,settle,results,Tryz.results28,go_sem,hc4];exact .inl ⟨rfl,_,HR.out,rfl⟩
 ·unfold bA at he;subst he;have HB:=hid hB;clear hB;go_wp2_with fail;refine leaves_cons (f:=59) (args:= #[.pointer (some ⟨w.heap.size,0,none⟩)]) (by simp) (by simp[go_sem]) ?_;refine(gN w.heap.size .nilIface t v [] _ hc1 hf1 hl1).mono ?_;rintro e u' w5 ⟨rfl,rfl,o,rfl⟩;have hc5:(w1.setCell ⟨w.heap.size,0,none⟩ (.iface t v)).cell? ⟨w.heap.size,0,none⟩=some (.iface t v):=World.cell?_setCell_same' _ _ _ (by rw[hc1];rfl);have hb6:=(Y4 (w1.setCell ⟨w.heap.size,0,none⟩ (.iface t v)).heap.size (w1.setCell ⟨w.heap.size,0,none⟩ (.iface t v))).alloc (Z5 _) o;have hc6:((w1.setCell ⟨w.heap.size,0,none⟩ (.iface t v)).alloc o).cell? ⟨w.heap.size,0,none⟩=some (.iface t v):=(hb6.cell (p:=⟨w.heap.size,0,none⟩) (by simpa using hl1)).trans hc5;simp[Leaves,settle,results,Tryz.results28,go_sem,hc6];exact .inr ⟨t,v,rfl,_,o,HB.out,rfl⟩
end
end Go.Proofs.YtlomecfhobehnaaGreatDoor
