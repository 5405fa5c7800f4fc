import Derived.Test.YtlomecfhobehnaaGreatDoorMgFixTwice0
import Derived.Test.YtlomecfhobehnaaGreatDoorMgFixTwice28
import Derived.Test.YtlomecfhobehnaaGreatDoorMgFixTwice8
import Derived.Test.YtlomecfhobehnaaGreatDoorMgFixTwice24
set_option linter.unusedVariables false
set_option linter.unusedSimpArgs false
namespace Go.Proofs.YtlomecfhobehnaaGreatDoor
open Lib (hid)
section
set_option maxRecDepth 100000
set_option maxHeartbeats 1000000
open Go.RowKit
open Rd
theorem qE(s:List UInt8)(w:World)(hs:s.length≤3000)(hm:dV w)(hn:Lex.cS s 0=none):
  Calls Tryz.prog 25 #[.string (aa s)] w fun e w'=>(∃g,e= .returned (.tuple #[.slice none 0 0,.iface 120 (.pointer (some ⟨g,0,none⟩))]))∧Below w.heap.size w w':=by
 have HL:=hid (tY s (w.alloc (.cells #[.nilIface] 30)) hs (hm.below ((Y4 _ w).alloc (Z5 _) _) (Z5 _)) hn)
 clear hs hm hn
 go_enter_defers Tryz.func25,Tryz.ntmps25
 go_wp2_with fail
 refine HL.out.mono ?_
 rintro e w1 ⟨⟨g,rfl⟩,hb⟩
 have hbox:w1.cell? ⟨w.heap.size,0,none⟩=some .nilIface:=(hb.cell (p:=⟨w.heap.size,0,none⟩) (by simp)).trans (by simp)
 have hfz:w1.frozen? ⟨w.heap.size,0,none⟩=false:=(hb.frozen (p:=⟨w.heap.size,0,none⟩) (by simp)).trans (by simp)
 have hbb:Below w.heap.size w w1:=((Y4 _ w).alloc (Z5 _) _).trans (hb.mono (by simp))
 have HB:=hid hbb
 have hc1:(w1.setCell ⟨w.heap.size,0,none⟩ (.iface 120 (.pointer (some ⟨g,0,none⟩)))).cell? ⟨w.heap.size,0,none⟩=some (.iface 120 (.pointer (some ⟨g,0,none⟩))):=World.cell?_setCell_same' _ _ _ (by rw[hbox];rfl)
 have hc2:((w1.setCell ⟨w.heap.size,0,none⟩ (.iface 120 (.pointer (some ⟨g,0,none⟩)))).setCell ⟨w.heap.size,0,none⟩ (.iface 120 (.pointer (some ⟨g,0,none⟩)))).cell? ⟨w.heap.size,0,none⟩=some (.iface 120 (.pointer (some ⟨g,0,none⟩))):=World.cell?_setCell_same' _ _ _ (by rw[hc1];rfl)
 clear hb hbb
 go_wp2_with fail
 go_region
 all_goals
  go_wp2_with fail
  simp[bodyPostD,Leaves,settle,results,Tryz.results25,go_sem,hc2]
  exact((HB.out.setCell (p:=⟨w.heap.size,0,none⟩) (Z5 _) _).setCell (p:=⟨w.heap.size,0,none⟩) (Z5 _) _).drew
theorem u4{s:List UInt8}{T:List Rd.Tok}(hs:s.length≤3000)(h:Lex.cS s 0=some T):fu T∧Tm.cK T∧T.length≤s.length:=by
 have hw:=Ex.words s.length s 0 T (Z5 _) h
 exact⟨fun t ht=>⟨(hw t ht).1,Cf hs h t ht⟩,fun t ht=>hw t ht,(yM s.length s 0 T (Z5 _) h).1⟩
def nw(s:List UInt8)(tys:List Tm.Ty):Prop:=∃T,Lex.cS s 0=some T∧Tm.Tys s.length 0 T tys
def Gj(w:World)(s:List UInt8)(e:Ending)(w':World):Prop:=
 Below w.heap.size w w'∧((∃tys a cap vs,nw s tys∧e= .returned (.tuple #[.slice a (List.length tys) cap,.nilIface])∧an w' w.heap.size 97 3 a (List.length tys) cap vs∧Tm.cz w' w.heap.size tys vs)∨((∀tys,¬nw s tys)∧∃g:Nat,e= .returned (.tuple #[.slice none 0 0,.iface 120 (.pointer (some ⟨g,0,none⟩))])))
theorem FJ(s:List UInt8)(w:World)(hs:s.length≤3000)(hB:jY w):Calls Tryz.prog 25 #[.string (aa s)] w (Gj w s):=by
 cases h:Lex.cS s 0 with
 |none=>
  refine(qE s w hs hB.mks h).mono ?_
  rintro e w' ⟨⟨g,h1⟩,h2⟩
  exact⟨h2,.inr ⟨fun tys ⟨T,h3,_⟩=>(by rw[h]at h3;cases h3),g,h1⟩⟩
 |some T=>
  refine(xR s T w hs hB.mks hB.env h (u4 hs h).1).mono ?_
  rintro e w' ⟨h1,⟨tys,a,cap,vs,h2,h3,h4,h5⟩|⟨h2,g,n,p,h3,h4⟩⟩
  ·exact⟨h1,.inl ⟨tys,a,cap,vs,⟨T,h,h2⟩,h3,h4,h5⟩⟩
  ·exact⟨h1,.inr ⟨fun tys ⟨T',h5,h6⟩=>by rw[h]at h5;cases h5;exact h2 tys h6,g,h3⟩⟩
theorem nw.det{s:List UInt8}{l m:List Tm.Ty}(h:nw s l)(h':nw s m):l=m:=by
 obtain⟨T,h1,h2⟩:=h
 obtain⟨T',h3,h4⟩:=h'
 rw[h1]at h3
 cases h3
 exact h2.det m h4
end
section
namespace Tm
open Ex
def bR:List Ty:=[
 ⟨[112,97,105,114],0,.cons ⟨0,.scalar [117,56],[110],none,.size [115]⟩ (.cons ⟨0,.bytes,[115],some (.name 0 [110]),.none⟩ .nil)⟩,
 ⟨[98,111,120],0,.cons ⟨0,.scalar [117,49,54,98,101],[107,105,110,100],none,.none⟩ (.cons ⟨0,.scalar [117,56],[109,97,110,121],none,.count [108]⟩ (.cons ⟨0,.struct [112,97,105,114],[108],some (.name 0 [109,97,110,121]),.none⟩
  (.when 0 (.bin 0 [61,61] (.name 0 [107,105,110,100]) (.num 0 1)) (.cons ⟨0,.scalar [105,56],[109,111,114,101],none,.none⟩ .nil) (.cons ⟨0,.scalar [117,51,50,108,101],[115,117,109],none,.check [107,105,110,100] [108]⟩ .nil))))⟩]
theorem sX:chk [] bR=none:=by decide+kernel
theorem Gk{w:Wd}(h:w≠[]∧(∀c∈w,Lex.word c=true)∧aO w=true):eD w:=⟨⟨h.1,h.2.1⟩,h.2.2⟩
theorem A3:∀w∈([[112,97,105,114],[110],[115],[98,111,120],[107,105,110,100],[109,97,110,121],[108],[109,111,114,101],[115,117,109]]:List Wd),w≠[]∧(∀c∈w,Lex.word c=true)∧aO w=true:=by decide+kernel
theorem kJ(s:Wd)(hs:s≠[]∧(∀c∈s,Lex.word c=true)∧s.length≤12∧∃c r,s=c::r∧Lex.letter c.toNat=true):gP (.name 0 s):=by
 obtain⟨h1,h2,h3,c,r,h4,h5⟩:=hs
 exact⟨⟨h1,h3,h2,c,r,h4,h5⟩,by unfold aX;omega⟩
theorem nk(w:Wd)(h:w∈([[112,97,105,114],[110],[115],[98,111,120],[107,105,110,100],[109,97,110,121],[108],[109,111,114,101],[115,117,109]]:List Wd)):eD w:=Gk (A3 w h)
theorem Gz:gP (.name 0 [110]):=kJ _ ⟨by decide,by decide,by decide,110,[],rfl,by decide⟩
theorem El:gP (.name 0 [109,97,110,121]):=kJ _ ⟨by decide,by decide,by decide,109,_,rfl,by decide⟩
theorem Em:gP (.bin 0 [61,61] (.name 0 [107,105,110,100]) (.num 0 1)):=by
 refine⟨⟨by decide,(kJ [107,105,110,100] ⟨by decide,by decide,by decide,107,_,rfl,by decide⟩).1,Ex.Cb (Num.dec 1) 1 (Num.qP 1 (by decide))⟩,by decide⟩
theorem fk(w:Wd)(h:(kindOf w).isSome=true):yN (.scalar w):=h
theorem ia:∀t∈bR,bh t:=by
 intro t ht
 unfold bR at ht
 rcases List.mem_cons.1 ht with rfl|ht
 ·refine⟨nk _ (by simp),⟨fk _ (by decide),nk _ (by simp),fun c hc=>(by cases hc),nk _ (by simp),fun h=>(by cases h),fun _=>⟨_,rfl⟩⟩,⟨trivial,nk _ (by simp),fun c hc=> ?_,trivial,fun _ h=>(by cases h),fun h=>absurd rfl h⟩,trivial⟩
  cases hc;exact⟨Gz,rfl⟩
 ·rcases List.mem_cons.1 ht with rfl|ht
  ·refine⟨nk _ (by simp),⟨fk _ (by decide),nk _ (by simp),fun c hc=>(by cases hc),trivial,fun h=>(by cases h),fun h=>absurd rfl h⟩,⟨fk _ (by decide),nk _ (by simp),fun c hc=>(by cases hc),nk _ (by simp),fun h=>(by cases h),fun _=>⟨_,rfl⟩⟩,⟨nk _ (by simp),nk _ (by simp),fun c hc=> ?_,trivial,fun h=>(by cases h),fun h=>absurd rfl h⟩,Em,⟨⟨fk _ (by decide),nk _ (by simp),fun c hc=>(by cases hc),trivial,fun h=>(by cases h),fun h=>absurd rfl h⟩,trivial⟩,⟨fk _ (by decide),nk _ (by simp),fun c hc=>(by cases hc),⟨nk _ (by simp),nk _ (by simp)⟩,fun h=>(by cases h),fun _=>⟨_,rfl⟩⟩,trivial⟩
   cases hc;exact⟨El,rfl⟩
  ·cases ht
theorem En:∀t∈bR,bh t∧Fit 1 0 t.items:=by
 intro t ht
 refine⟨ia t ht,?_⟩
 unfold bR at ht
 rcases List.mem_cons.1 ht with rfl|ht
 ·simp[Fit]
 ·rcases List.mem_cons.1 ht with rfl|ht
  ·simp[Fit]
  ·cases ht
theorem mB:cI bR=[115,116,114,117,99,116,32,112,97,105,114,32,123,10,32,32,117,56,32,110,32,61,32,115,105,122,101,32,115,59,10,32,32,98,121,116,101,115,32,115,91,110,93,59,10,125,10,115,116,114,117,99,116,32,98,111,120,32,123,10,32,32,117,49,54,98,101,32,107,105,110,100,59,10,32,32,117,56,32,109,97,110,121,32,61,32,99,111,117,110,116,32,108,59,10,32,32,112,97,105,114,32,108,91,109,97,110,121,93,59,10,32,32,119,104,101,110,32,107,105,110,100,32,61,61,32,49,32,123,10,32,32,32,32,105,56,32,109,111,114,101,59,10,32,32,125,10,32,32,117,51,50,108,101,32,115,117,109,32,61,32,99,104,101,99,107,32,107,105,110,100,32,108,59,10,125,10]:=by decide+kernel
theorem lJ:(cI bR).length=177:=by decide+kernel
theorem CP{T:List Tok}(h:Lex.cS (cI bR) 0=some T)(E:Nat):∃L,bW bR L∧Tys E 0 T L:=by
 have h1:=kA bR ia
 unfold texts at h1
 rw[h]at h1
 have h2:T.map Prod.fst=Cg bR:=by simpa using h1
 exact Tys.make (by decide) En T h2
theorem Eo:∃T,Lex.cS (cI bR) 0=some T:=by
 have h1:=kA bR ia
 unfold texts at h1
 cases h:Lex.cS (cI bR) 0 with
 |none=>rw[h]at h1;cases h1
 |some T=>exact⟨T,rfl⟩
end Tm
end
section
set_option maxRecDepth 100000
set_option maxHeartbeats 4000000
open Go.RowKit
open Rd
structure pz(w:World)(B:Nat)(s:List UInt8)(tys:List Tm.Ty)(a:Option Addr)(cap:Nat)(vs:List Value):Prop where
 rd:nw s tys
 own:an w B 97 3 a tys.length cap vs
 enc:Tm.cz w B tys vs
 lv:cT w B
 le:B≤w.heap.size
theorem pz.up{w w':World}{B:Nat}{s:List UInt8}{tys:List Tm.Ty}{a:Option Addr}{cap:Nat}{vs:List Value}(h:pz w B s tys a cap vs)(hb:Below w.heap.size w w'):pz w' B s tys a cap vs:=
 ⟨h.rd,h.own.below hb (Z5 _),h.enc.grown (ar hb (some B)),iG h.lv hb h.le,Nat.le_trans h.le hb.size⟩
theorem pz.ep{w:World}{B:Nat}{s:List UInt8}{tys:List Tm.Ty}{a:Option Addr}{cap:Nat}{vs:List Value}(h:pz w B s tys a cap vs)(hs:s.length≤3000):(∀t∈tys,Tm.bh t)∧(∀t∈tys,Tm.bh t∧Tm.nM t.items∧Tm.Its.sz t.items≤100000)∧(Tm.cI tys).length≤64 * s.length∧tys.length≤8:=by
 obtain⟨T,h1,h2⟩:=h.rd
 obtain⟨_,h4,h5⟩:=u4 hs h1
 have h6:=h2.ep h4
 obtain⟨h7,h8⟩:=Tm.Ek h2 h4 (by omega)
 have h9:=h2.few
 exact⟨h6,fun t ht=>⟨h6 t ht,h8 t ht⟩,by omega,by omega⟩
theorem xS{w:World}{B:Nat}{s:List UInt8}{tys:List Tm.Ty}{a:Option Addr}{cap:Nat}{vs:List Value}(h:pz w B s tys a cap vs)(hs:s.length≤3000)(hB:jY w):
  Calls Tryz.prog 47 #[.slice a tys.length cap] w fun e w'=>e= .returned (.string (aa (Tm.cI tys)))∧Below w.heap.size w w':=by
 obtain⟨h1,_,h3,h4⟩:=h.ep hs
 exact AR tys h1 w B cap B a vs h.own h.enc h.lv h.le (by omega) (by omega)
theorem kK{w:World}{B:Nat}{s:List UInt8}{tys:List Tm.Ty}{a:Option Addr}{cap:Nat}{vs:List Value}(h:pz w B s tys a cap vs)(hs:s.length≤3000):
  Calls Tryz.prog 26 #[.slice a tys.length cap] w (ji w (Tm.chk [] tys)):=by
 obtain⟨_,h2,_,h4⟩:=h.ep hs
 exact A2 tys w B cap B a vs h.own h.enc h2 (by omega)
theorem kL(s:List UInt8)(w:World)(hs:s.length≤3000)(hB:jY w):Calls Tryz.prog 25 #[.string (aa s)] w fun e w'=>Below w.heap.size w w'∧((∃tys a cap vs,pz w' w.heap.size s tys a cap vs∧e= .returned (.tuple #[.slice a (List.length tys) cap,.nilIface]))∨((∀tys,¬nw s tys)∧∃g:Nat,e= .returned (.tuple #[.slice none 0 0,.iface 120 (.pointer (some ⟨g,0,none⟩))]))):=by
 refine(FJ s w hs hB).mono ?_
 rintro e w' ⟨h1,⟨tys,a,cap,vs,h2,h3,h4,h5⟩|h2⟩
 ·exact⟨h1,.inl ⟨tys,a,cap,vs,⟨h2,h4,h5,iG hB.env.lv h1 (Z5 _),h1.size⟩,h3⟩⟩
 ·exact⟨h1,.inr h2⟩
theorem rE(w:World)(hB:jY w):Calls Tryz.prog 22 #[] w fun e w'=>Below w.heap.size w w'∧∃tys a cap vs,Tm.bW Tm.bR tys∧pz w' w.heap.size (Tm.cI Tm.bR) tys a cap vs∧e= .returned (.tuple #[.slice a 2 cap,.bool true]):=by
 have hbl:(Tm.cI Tm.bR).length≤3000:=by rw[Tm.lJ];omega
 have hp:=kL (Tm.cI Tm.bR) w hbl hB
 obtain⟨T,hT⟩:=Tm.Eo
 obtain⟨L,hL1,hL2⟩:=Tm.CP hT (Tm.cI Tm.bR).length
 have hrd:nw (Tm.cI Tm.bR) L:=⟨T,hT,hL2⟩
 have hprL:Tm.cI L=Tm.cI Tm.bR:=(Tm.Ah hL1).symm
 have hchk:Tm.chk [] L=none:=by rw[Tm.oT hL1 Tm.ia];exact Tm.sX
 have hlen:L.length=2:=by
  have:∀{l m:List Tm.Ty},Tm.bW l m→l.length=m.length:=by
   intro l m h
   induction h with
   |nil=>rfl
   |cons _ _ ih=>simp[ih]
  exact(this hL1).symm
 have HL1:=hid hL1;have HRD:=hid hrd;have HLEN:=hid hlen;have HCHK:=hid hchk;have HBL:=hid hbl;have HPR:=hid hprL
 rw[Tm.mB]at hp
 have HP:=hid hp
 have HB:=hid hB
 clear hp hB hL1 hL2 hrd hprL hchk hlen hbl hT
 go_enter Tryz.func22,Tryz.ntmps22
 go_wp2_with fail
 refine HP.out.mono ?_
 rintro e w1 ⟨hb1,⟨tys,a,cap,vs,hm,rfl⟩|⟨hno,_⟩⟩
 ·have hrd':=hm.rd
  rw[← Tm.mB]at hrd' hm
  obtain rfl:=hrd'.det HRD.out
  have HM:=hid hm;have HB1:=hid hb1
  have HCK:=hid (kK hm HBL.out)
  have h2:=HLEN.out
  clear hm hb1 hrd' HP
  generalize hnn:tys.length=nn at *
  subst h2
  go_wp2_with fail
  refine HCK.out.mono ?_
  intro e w2 hck
  unfold ji at hck
  rw[HCHK.out]at hck
  obtain⟨hb2,rfl⟩:=hck
  have HM2:=hid (HM.out.up hb2)
  have HB2:=hid (HB1.out.trans (hb2.mono HB1.out.size))
  have hpr:=xS HM2.out HBL.out (HB.out.up HB2.out)
  rw[hnn,HPR.out]at hpr
  obtain⟨P,hP⟩:∃P,P=Tm.cI Tm.bR:=⟨_,rfl⟩
  rw[← hP]at hpr
  have q1:(P==[115,116,114,117,99,116,32,112,97,105,114,32,123,10,32,32,117,56,32,110,32,61,32,115,105,122,101,32,115,59,10,32,32,98,121,116,101,115,32,115,91,110,93,59,10,125,10,115,116,114,117,99,116,32,98,111,120,32,123,10,32,32,117,49,54,98,101,32,107,105,110,100,59,10,32,32,117,56,32,109,97,110,121,32,61,32,99,111,117,110,116,32,108,59,10,32,32,112,97,105,114,32,108,91,109,97,110,121,93,59,10,32,32,119,104,101,110,32,107,105,110,100,32,61,61,32,49,32,123,10,32,32,32,32,105,56,32,109,111,114,101,59,10,32,32,125,10,32,32,117,51,50,108,101,32,115,117,109,32,61,32,99,104,101,99,107,32,107,105,110,100,32,108,59,10,125,10])=true:=by rw[beq_iff_eq,hP,Tm.mB]
  have HPP:=hid hpr
  clear hpr hb2 hP HCK
  go_wp2_with fail
  refine HPP.out.mono ?_
  rintro e w3 ⟨rfl,hb3⟩
  have HM3:=hid (HM2.out.up hb3)
  have HB3:=hid (HB2.out.trans (hb3.mono HB2.out.size))
  clear hb3
  go_wp2_with fail
  go_ret2
  exact⟨HB3.out,tys,a,cap,vs,HL1.out,HM3.out,rfl⟩
 ·rw[← Tm.mB]at hno
  exact absurd HRD.out (hno _)
end
section
namespace Ly
open Ex (X Names ev)
open Tm
theorem Ep:∀p∈bk,(p.2.1=1∨p.2.1=2∨p.2.1=4∨p.2.1=8)∧(p.2.2.1=0∨p.2.2.1=1)∧(p.2.2.2=false→p.2.1≤4):=by decide
theorem A4{w:Wd}(h:(kindOf w).isSome=true):(bj w=1∨bj w=2∨bj w=4∨bj w=8)∧(fK w=0∨fK w=1)∧(eG w=false→bj w≤4):=by
 have h2:=h
 unfold kindOf at h
 rw[Option.isSome_map]at h
 obtain⟨p,hp⟩:=Option.isSome_iff_exists.1 h
 have h1:=List.mem_of_find?_eq_some hp
 have e:kindOf w=some p.2:=by unfold kindOf;rw[hp];rfl
 unfold bj fK eG
 rw[e]
 exact Ep p h1
theorem gA(l:List UInt8)(wd o:Nat):∀(m k:Nat),k < m→byteOf (fA l 0 wd o m) k=(l.getD (plc k wd o) 0).toNat
 |0,k,h=>by omega
 |m+1,k,h=>by
  have hx:=iA l 0 wd o m
  have hb:=(l.getD (0+plc m wd o) 0).toNat_lt
  have hp:0 < 256 ^ m:=Nat.pow_pos (by decide)
  rw[fA]
  by_cases hk:k < m
  ·have ih:=gA l wd o m k hk
   have e1:(fA l 0 wd o m+(l.getD (0+plc m wd o) 0).toNat * 256 ^ m) % 256 ^ m=fA l 0 wd o m:=by rw[Nat.add_mul_mod_self_right,Nat.mod_eq_of_lt hx]
   rw[← iB _ m k hk,e1]
   exact ih
  ·obtain rfl:k=m:=by omega
   unfold byteOf
   rw[Nat.add_mul_div_right _ _ hp,Nat.div_eq_of_lt hx,Nat.zero_add,Nat.zero_add,Nat.mod_eq_of_lt (by rw[Nat.zero_add]at hb;omega)]
theorem qY{u:Wd}{wd o:Nat}(h:u.length=wd):lq (fA u 0 wd o wd) wd o=u:=by
 apply List.ext_getElem
 ·rw[nh,h]
 ·intro j h1 h2
  have hj:j < wd:=by omega
  have e:=gA u wd o wd (plc j wd o) (mm hj)
  rw[nT hj,List.getD_eq_getElem?_getD,Y1 h2,Option.getD_some]at e
  simp only[lq,List.getElem_map,List.getElem_range,e]
  exact UInt8.ofNat_toNat
theorem CQ{wd:Nat}(h:wd=1∨wd=2∨wd=4∨wd=8)(v:Int):((eQ v % 256 ^ wd:Nat):Int)=v % ((256 ^ wd:Nat):Int):=by
 unfold eQ
 rcases h with rfl|rfl|rfl|rfl <;> (simp only[Nat.reducePow];omega)
theorem CR{w u:Wd}(hk:(kindOf w).isSome=true)(hu:u.length=bj w):oU w (mq w u)=u∧dq w (mq w u)=true:=by
 obtain⟨h1,h2,h3⟩:=A4 hk
 have hg:=iA u 0 (bj w) (fK w) (bj w)
 have hp:=qY (o:=fK w) hu
 unfold oU dq mq
 generalize fA u 0 (bj w) (fK w) (bj w)=g at *
 generalize fK w=o at *
 generalize bj w=wd at *
 have hc:iU (eQ (if eG w then gU g wd else((g:Nat):Int))) wd=g:=by
  have hm:=CQ h1 (if eG w then gU g wd else((g:Nat):Int))
  have hgm:(g:Int) % ((256 ^ wd:Nat):Int)=(g:Int):=Int.emod_eq_of_lt (by omega) (by omega)
  have he:(if eG w then gU g wd else((g:Nat):Int)) % ((256 ^ wd:Nat):Int)=(g:Int):=by
   split
   ·unfold gU iU
    rw[Nat.mod_eq_of_lt hg]
    split
    ·exact hgm
    ·rw[Int.sub_emod_right];exact hgm
   ·exact hgm
  rw[he]at hm
  unfold iU
  exact Int.ofNat_inj.1 hm
 refine⟨?_,?_⟩
 ·rw[← Cx,show eQ (if eG w=true then gU g wd else(g:Int)) % 256 ^ wd=g from hc]
  exact hp
 ·cases hs:eG w with
  |true=>
   rw[hs]at hc
   simp only[if_true]at hc⊢
   rw[decide_eq_true_eq]
   unfold gU
   rw[show iU (eQ (if iU g wd < 256 ^ wd / 2 then(iU g wd:Int)else(iU g wd:Int) - ((256 ^ wd:Nat):Int))) wd=g from hc,show iU g wd=g from Nat.mod_eq_of_lt hg]
  |false=>
   rw[hs]at hc
   simp only[Bool.false_eq_true,if_false]at hc⊢
   have h8:256 ^ wd≤18446744073709551616:=jI (by rcases h1 with rfl|rfl|rfl|rfl <;> omega)
   have e:eQ (g:Int)=g:=by unfold eQ;omega
   rw[hc,e]
   simp
def zh(s:Wd)(S:Sub)(W:Wri):Prop:=∀t st ks st',st.at_≤s.length→S t st=some (ks,st')→Step s st st'∧W t ks=some (seg s st.at_ st'.at_)
theorem pA{s:Wd}{st st1:St}(h:nod st=some st1)(ha:st.at_≤s.length):st1.at_=st.at_∧st1.at_≤s.length:=by
 have:=kF h
 exact⟨this,by omega⟩
theorem pB{s:Wd}{S:Sub}{W:Wri}(hS:zh s S W){N:Names}{h:Hd}(hf:∀w,h.k= .scalar w→(kindOf w).isSome=true){st st':St}{d:Nd}(ha:st.at_≤s.length)(hr:bF S s N h st=some (d,st')):Step s st st'∧ba W h d=some (seg s st.at_ st'.at_):=by
 unfold bF at hr
 rw[Option.bind_eq_some_iff]at hr
 obtain⟨st1,h1,h2⟩:=hr
 obtain⟨e1,l1⟩:=pA h1 ha
 unfold ba
 cases hk:h.k with
 |scalar w=>
  rw[hk]at h2
  simp only[]at h2
  rw[Option.map_eq_some_iff]at h2
  obtain⟨⟨u,st2⟩,h3,h4⟩:=h2
  cases h4
  obtain⟨g1,g2,g3⟩:=sN h3 l1
  obtain⟨g4,g5⟩:=CR (hf w hk) (u:=u) (by rw[g3];simp)
  rw[e1]at g2
  refine⟨⟨by rw[← e1];exact g1.le,g1.len⟩,?_⟩
  simp only[kNo,ne_eq,not_true_eq_false,or_self,if_false]
  rw[if_pos g5,g4,g2]
 |bytes=>
  rw[hk]at h2
  simp only[]at h2
  rw[Option.bind_eq_some_iff]at h2
  obtain⟨k,_,h2⟩:=h2
  rw[Option.map_eq_some_iff]at h2
  obtain⟨⟨u,st2⟩,h3,h4⟩:=h2
  cases h4
  obtain⟨g1,g2,g3⟩:=sN h3 l1
  rw[e1]at g2
  refine⟨⟨by rw[← e1];exact g1.le,g1.len⟩,?_⟩
  simp only[kNo,ne_eq,not_true_eq_false,or_self,if_false,g2]
 |struct t=>
  rw[hk]at h2
  simp only[]at h2
  rw[Option.map_eq_some_iff]at h2
  obtain⟨⟨ks,st2⟩,h3,h4⟩:=h2
  cases h4
  obtain⟨g1,g2⟩:=hS t st1 ks st2 l1 h3
  rw[e1]at g2
  refine⟨⟨by rw[← e1];exact g1.le,g1.len⟩,?_⟩
  simp only[kNo,ne_eq,not_true_eq_false,or_self,if_false,g2]
theorem u6{s:Wd}{f:St→Option (Nd×St)}{g:Nd→Option Wd}(hf:∀st st' d,st.at_≤s.length→f st=some (d,st')→Step s st st'∧g d=some (seg s st.at_ st'.at_)):∀(k:Nat) (st st':St) (ks:Nds),st.at_≤s.length→rep f k st=some (ks,st')→Step s st st'∧cG g ks=some (seg s st.at_ st'.at_)
 |0,st,st',ks,ha,h=>by
  unfold rep at h
  cases h
  exact⟨⟨Z5 _,ha⟩,by unfold cG;rw[yX]⟩
 |k+1,st,st',ks,ha,h=>by
  unfold rep at h
  rw[Option.bind_eq_some_iff]at h
  obtain⟨⟨d,st1⟩,h1,h2⟩:=h
  rw[Option.map_eq_some_iff]at h2
  obtain⟨⟨r,st2⟩,h3,h4⟩:=h2
  cases h4
  obtain⟨g1,g2⟩:=hf st st1 d ha h1
  obtain⟨g3,g4⟩:=u6 hf k st1 _ r g1.len h3
  refine⟨⟨Nat.le_trans g1.le g3.le,g3.len⟩,?_⟩
  unfold Nd.put cG
  simp only[]at g4⊢
  rw[g2,g4]
  simp only[Option.bind_some,Option.map_some]
  rw[sM s g1.le g3.le]
theorem Er{s:Wd}{S:Sub}{W:Wri}(hS:zh s S W){N:Names}{h:Hd}(hf:∀w,h.k= .scalar w→(kindOf w).isSome=true){st st':St}{d:Nd}(ha:st.at_≤s.length)(hr:hdR S s N h st=some (d,st')):Step s st st'∧bc W h d=some (seg s st.at_ st'.at_):=by
 unfold hdR at hr
 unfold bc
 split at hr
 ·rename_i hm
  rw[if_pos hm]
  unfold gV at hr
  rw[Option.bind_eq_some_iff]at hr
  obtain⟨st1,h1,h2⟩:=hr
  obtain⟨e1,l1⟩:=pA h1 ha
  rw[Option.bind_eq_some_iff]at h2
  obtain⟨k,_,h2⟩:=h2
  split at h2
  ·cases h2
  ·rw[Option.map_eq_some_iff]at h2
   obtain⟨⟨ks,st2⟩,h3,h4⟩:=h2
   cases h4
   obtain⟨g1,g2⟩:=u6 (g:=ba W h) (fun st st' d ha hr=>pB hS hf ha hr) k.toNat st1 st2 ks l1 h3
   rw[e1]at g2
   refine⟨⟨by rw[← e1];exact g1.le,g1.len⟩,?_⟩
   simp only[ne_eq,not_true_eq_false,or_self,if_false,g2]
 ·rename_i hm
  rw[if_neg hm]
  exact pB hS hf ha hr
theorem jk{s:Wd}{S:Sub}{W:Wri}(hS:zh s S W):∀(l:Its),bC l→∀(N N':Names) (st st':St) (ks:Nds),st.at_≤s.length→bJ S s l N st=some (ks,N',st')→Step s st st'∧aG W l ks=some (seg s st.at_ st'.at_)
 | .nil,_,N,N',st,st',ks,ha,h=>by
  unfold bJ at h
  cases h
  exact⟨⟨Z5 _,ha⟩,by unfold aG;rw[yX]⟩
 | .cons h l,hF,N,N',st,st',ks,ha,hr=>by
  unfold bJ at hr
  rw[Option.bind_eq_some_iff]at hr
  obtain⟨⟨d,st1⟩,h1,h2⟩:=hr
  rw[Option.map_eq_some_iff]at h2
  obtain⟨⟨r,N2,st2⟩,h3,h4⟩:=h2
  cases h4
  obtain⟨g1,g2⟩:=Er hS (fun w hw=>by have:=hF.1.1;rw[hw]at this;exact this) ha h1
  obtain⟨g3,g4⟩:=jk hS l hF.2 _ _ st1 _ r g1.len h3
  refine⟨⟨Nat.le_trans g1.le g3.le,g3.len⟩,?_⟩
  unfold Nd.put aG
  simp only[]at g4⊢
  rw[g2,g4]
  simp only[Option.bind_some,Option.map_some]
  rw[sM s g1.le g3.le]
 | .when a c b l,hF,N,N',st,st',ks,ha,hr=>by
  unfold bJ at hr
  rw[Option.bind_eq_some_iff]at hr
  obtain⟨st1,h1,hr⟩:=hr
  obtain⟨e1,l1⟩:=pA h1 ha
  rw[Option.bind_eq_some_iff]at hr
  obtain⟨v,_,hr⟩:=hr
  rw[Option.bind_eq_some_iff]at hr
  obtain⟨⟨kb,N1,st2⟩,h2,h3⟩:=hr
  rw[Option.map_eq_some_iff]at h3
  obtain⟨⟨r,N2,st3⟩,h4,h5⟩:=h3
  cases h5
  by_cases hv:v=0
  ·rw[if_pos hv]at h2
   cases h2
   obtain⟨g3,g4⟩:=jk hS l hF.2.2 _ _ st1 _ r l1 h4
   refine⟨⟨by rw[← e1];exact g3.le,g3.len⟩,?_⟩
   unfold aG
   rw[e1]at g4
   simp only[hv,if_true,ne_eq,not_true_eq_false,or_self,if_false,Option.bind_some,g4,Option.map_some,List.nil_append]
  ·rw[if_neg hv]at h2
   obtain⟨g1,g2⟩:=jk hS b hF.2.1 _ _ st1 st2 kb l1 h2
   obtain⟨g3,g4⟩:=jk hS l hF.2.2 _ _ st2 _ r g1.len h4
   refine⟨⟨by rw[← e1];exact Nat.le_trans g1.le g3.le,g3.len⟩,?_⟩
   unfold aG
   simp only[hv,if_false,ne_eq,not_true_eq_false,or_self,show ¬((1:Int)=0) by decide,g2,Option.bind_some,g4,Option.map_some]
   rw[e1,sM s (by rw[← e1];exact g1.le) g3.le]
theorem nz(s:Wd):∀(l:List Ty),(∀t∈l,bh t)→zh s (rdS s l) (wrS l)
 |[],_,t,st,ks,st',_,h=>by cases h
 |t::r,hF,nm,st,ks,st',ha,h=>by
  have ih:=nz s r fun u hu=>hF u (by simp[hu])
  unfold rdS at h
  unfold wrS
  split at h
  ·rename_i hn
   rw[if_pos hn]
   rw[Option.map_eq_some_iff]at h
   obtain⟨⟨k,N2,st2⟩,h1,h2⟩:=h
   cases h2
   exact jk ih t.items (hF t (by simp)).2 _ _ st _ _ ha h1
  ·rename_i hn
   rw[if_neg hn]
   exact ih nm st ks st' ha h
def bZ(root:Wd):Hd:=⟨0,.struct root,root,none,.none⟩
theorem pC{s root:Wd}{l:List Ty}(hF:∀t∈l,bh t){d:Nd}{st:St}(h:bF (rdS s l) s (fun _=>none) (bZ root) ⟨0,0⟩=some (d,st))(hend:st.at_=s.length):ba (wrS l) (bZ root) d=some s:=by
 obtain⟨_,h2⟩:=pB (nz s l hF) (h:=bZ root) (fun w hw=>by cases hw) (Nat.zero_le _) h
 rw[h2,hend]
 unfold seg
 simp
end Ly
end
section
namespace Ly
open Ex (X Names ev)
open Tm
def kf(ts:List Wd):Its→Prop
 | .nil=>True
 | .cons h l=>(∀t,h.k= .struct t→t∈ts)∧kf ts l
 | .when _ _ b l=>kf ts b∧kf ts l
theorem jN{ts:List Wd}:∀(l:Its) (ns seen ns' seen':List Wd),bA ts l ns seen= .ok ns' seen'→kf ts l
 | .nil,_,_,_,_,_=>trivial
 | .cons h l,ns,seen,ns',seen',e=>by
  unfold bA at e
  split at e
  ·cases e
  ·split at e
   ·cases e
   ·rename_i hl
    split at e
    ·refine⟨fun t ht=> ?_,jN l _ _ _ _ e⟩
     rw[ht]at hl
     have h2:(!ts.contains t)≠true:=hl
     simpa using h2
    ·cases e
 | .when a c b l,ns,seen,ns',seen',e=>by
  unfold bA at e
  split at e
  ·cases hb:bA ts b ns seen with
   |bad x=>rw[hb]at e;cases e
   |ok n2 s2=>
    rw[hb]at e
    simp only[]at e
    split at e
    ·cases e
    ·exact⟨jN b _ _ _ _ hb,jN l _ _ _ _ e⟩
  ·cases e
def names(l:List Ty):List Wd:=l.map (·.name)
def fP:List Ty→Prop
 |[]=>True
 |t::r=>t.name∉names r∧kf (names r) t.items∧fP r
theorem rF:∀(l m:List Ty),chk (names m) l=none→fP m→fP (l.reverse++m)
 |[],m,_,h=>h
 |t::l,m,h,hm=>by
  unfold chk at h
  split at h
  ·cases h
  ·rename_i hn
   cases hb:bA (names m) t.items [] []with
   |bad x=>rw[hb]at h;cases h
   |ok n2 s2=>
    rw[hb]at h
    simp only[]at h
    split at h
    ·cases h
    ·rw[List.reverse_cons,List.append_assoc]
     exact rF l (t::m) h ⟨by simpa using hn,jN _ _ _ _ _ hb,hm⟩
theorem mC{l:List Ty}(h:chk [] l=none):fP l.reverse:=by
 have:=rF l [] h trivial
 simpa using this
theorem jl{s:Wd}{t:Ty}{r:List Ty}{nm:Wd}(h:t.name≠nm)(st:St):rdS s (t::r) nm st=rdS s r nm st:=by
 show(if t.name=nm then _ else _)=_
 rw[if_neg h]
theorem sY{s:Wd}{t:Ty}{r:List Ty}(st:St):rdS s (t::r) t.name st=(bJ (rdS s r) s t.items (fun _=>none) st).map fun p=>(p.1,p.2.2):=by
 show(if t.name=t.name then _ else _)=_
 rw[if_pos rfl]
theorem mD(l:List Ty)(w:Wd):w∈names l.reverse↔w∈names l:=by unfold names;simp
end Ly
end
section
namespace Ly
open Ex (X Names ev)
open Tm
theorem u7{a b:Option X}(h:uh a b)(N:Names):a.bind (ev N)=b.bind (ev N):=by
 cases a <;> cases b
 ·rfl
 ·exact h.elim
 ·exact h.elim
 ·exact Ex.fX.ev (N:=N) h
theorem u9{a b:Option X}(h:uh a b):a.isSome=b.isSome:=by
 cases a <;> cases b <;> first|rfl|exact h.elim
theorem jO{a b:Hd}(h:iQ a b):cN a=cN b:=by
 rw[ln,ln,h.1,u9 h.2.2.1]
theorem va{a b:Hd}(h:iQ a b):single a=single b:=by
 rw[eF,eF,h.1,u9 h.2.2.1]
theorem vb(S:Sub)(s:Wd)(N:Names){a b:Hd}(h:iQ a b)(st:St):bF S s N a st=bF S s N b st:=by
 unfold bF
 rw[h.1,h.2.1,u7 h.2.2.1 N]
theorem Es(S:Sub)(s:Wd)(N:Names){a b:Hd}(h:iQ a b)(st:St):hdR S s N a st=hdR S s N b st:=by
 unfold hdR gV
 rw[jO h,vb S s N h,show bF S s N a=bF S s N b from funext (vb S s N h),h.2.1,u7 h.2.2.1 N]
theorem CS(S:Sub)(s:Wd){l m:Its}(h:ej l m):∀(N:Names) (st:St),bJ S s l N st=bJ S s m N st:=by
 induction h with
 |nil=>intro N st;rfl
 |cons hh _ ih=>
  intro N st
  unfold bJ
  rw[Es S s N hh st,va hh,hh.2.1]
  congr 1
  funext p
  rw[ih]
 |when hc _ _ ih1 ih2=>
  intro N st
  unfold bJ
  rw[Ex.fX.ev (N:=N) hc]
  congr 1
  funext st1
  congr 1
  funext v
  rw[ih1]
  congr 1
  funext p
  rw[ih2]
theorem zi(s:Wd){l m:List Ty}(h:bW l m):rdS s l=rdS s m:=by
 induction h with
 |nil=>rfl
 |@cons a b l m hh _ ih=>
  funext nm st
  show(if a.name=nm then _ else _)=(if b.name=nm then _ else _)
  rw[hh.1,ih,CS _ _ hh.2]
theorem xT{l m l' m':List Ty}(h:bW l m)(h':bW l' m'):bW (l++l') (m++m'):=by
 induction h with
 |nil=>exact h'
 |cons a _ ih=>exact .cons a ih
theorem kM{l m:List Ty}(h:bW l m):bW l.reverse m.reverse:=by
 induction h with
 |nil=>exact .nil
 |cons a _ ih=>
  rw[List.reverse_cons,List.reverse_cons]
  exact xT ih (.cons a .nil)
def bT:Wd:=[0,1,2,2,104,105,0,7,0,0,0,0]
def dT:Wd:=[98,111,120]
def dY:Nds:=(.cons [107,105,110,100] 1 0 2 1 [] .nil (.cons [109,97,110,121] 1 2 1 2 [] .nil (.cons [108] 9 3 4 0 [] (.cons [108] 3 3 3 0 [] (.cons [110] 1 3 1 2 [] .nil (.cons [115] 2 4 2 0 [104,105] .nil .nil)) (.cons [108] 3 6 1 0 [] (.cons [110] 1 6 1 0 [] .nil (.cons [115] 2 7 0 0 [] .nil .nil)) .nil)) (.cons [] 4 7 1 1 [] (.cons [109,111,114,101] 1 7 1 7 [] .nil .nil) (.cons [115,117,109] 1 8 4 0 [] .nil .nil)))))
theorem vc:bF (rdS bT bR.reverse) bT (fun _=>none) (bZ dT) ⟨0,0⟩=some (⟨dT,3,0,12,0,[],dY⟩,⟨12,13⟩):=by
 rfl
end Ly
end
section
set_option maxRecDepth 100000
set_option maxHeartbeats 1000000
open Go Go.RowKit
open Rd
open Ly
namespace Ly
theorem dB{ts:List Tm.Wd}:∀(i:Nat) (l:Tm.Its),kf ts l→kf ts (l.drop i)
 |0,l,h=>by cases l <;> exact h
 |i+1,.nil,h=>h
 |i+1,.cons _ l,h=>dB i l h.2
 |i+1,.when _ _ _ l,h=>dB i l h.2
end Ly
theorem nA(A:List Tm.Ty)(S:Sub)(s:Tm.Wd)(hs:s.length≤1000000)(ts:List Tm.Wd)(hS:∀nm∈ts,CJ A S s nm):∀(n:Nat) (l:Tm.Its),l.sz < n→Tm.bC l→kf ts l→l.sz≤100000→rp A S s l
 |0,l,h,_,_,_=>absurd h (Nat.not_lt_zero _)
 |n+1,l,h,hF,hR,hz=>by
  refine sV A S s hs l hF (Nat.le_trans (Tm.kI l) hz) (fun i a c b r hd=> ?_) (fun i hh r t hd hk=> ?_)
  ·have h1:=Tm.cV i l hF
   have h2:=dB i l hR
   have h3:=Tm.gB i l
   rw[hd]at h1 h2 h3
   have h4:b.sz+1≤(Tm.Its.when a c b r).sz:=by simp only[Tm.Its.sz];omega
   exact nA A S s hs ts hS n b (by omega) h1.2.1 h2.1 (by omega)
  ·have h2:=dB i l hR
   rw[hd]at h2
   exact hS t (h2.1 t hk)
theorem vd(A:List Tm.Ty)(s:Tm.Wd)(hs:s.length≤1000000)(hA:∀t∈A,Tm.bh t∧Tm.Its.sz t.items≤100000):∀(r:List Tm.Ty),(∀t∈r,t∈A)→fP r→∀nm∈names r,CJ A (rdS s r) s nm
 |[],_,_,nm,h=>by cases h
 |t::r,hm,hc,nm,h=>by
  obtain⟨c1,c2,c3⟩:=hc
  have ih:=vd A s hs hA r (fun t' ht'=>hm t' (List.mem_cons_of_mem _ ht')) c3
  have htA:=hm t (by simp)
  obtain⟨f1,f2⟩:=hA t htA
  by_cases hn:t.name=nm
  ·refine⟨t,htA,hn,by have:=jM f1.1.2;omega,rdS s r,fun st=>sY st,nA A (rdS s r) s hs (names r) ih _ t.items (Nat.lt_succ_self _) f1.2 c2 f2⟩
  ·have hr:nm∈names r:=by
    rcases List.mem_cons.1 h with h|h
    ·exact absurd h.symm hn
    ·exact h
   obtain⟨t2,g1,g2,g3,S',g4,g5⟩:=ih nm hr
   refine⟨t2,g1,g2,g3,S',fun st=> ?_,g5⟩
   rw[jl (by rw[g2];exact hn)]
   exact g4 st
structure FoS(U w wr:World)(rb:Nat)(tys:List Tm.Ty)(i:Nat):Prop where
 bel:Below w.heap.size w wr
 lt:w.heap.size < wr.heap.size
 fm:∃n G,fh Tryz.prog 9 wr w.heap.size n G∧n≤i∧(∀t∈tys.take i,∃ga cap bs,G (.string t.name)=some (.slice ga t.items.len cap)∧an U (rb+1) 70 13 ga t.items.len cap bs∧Tm.bo U rb t.items bs)∧(∀nm:Tm.Wd,(∀t∈tys.take i,t.name≠nm)→G (.string nm)=none)
theorem FoS.start(U w:World)(rb:Nat)(tys:List Tm.Ty):FoS U w (w.alloc (.map #[] 0)) rb tys 0:=
 ⟨(Y4 _ _).alloc (Z5 _) _,by simp,0,_,fh.made w,Z5 _,fun t ht=>by simp at ht,fun nm _=>rfl⟩
theorem FoS.push{U w wr V w5:World}{rb i nm capb:Nat}{tys:List Tm.Ty}{t:Tm.Ty}{G:Lit→Option Value}{ga:Option Addr}{bs:List Value}{o:Obj}(h:FoS U w wr rb tys i)(hnd:(tys.map (·.name)).Nodup)(hV:V=wr.alloc o)(hti:tys.take (i+1)=tys.take i++[t])
  (hit:an U (rb+1) 70 13 ga t.items.len capb bs∧Tm.bo U rb t.items bs)(hM:nm≤i∧(∀t∈tys.take i,∃ga cap bs,G (.string t.name)=some (.slice ga t.items.len cap)∧an U (rb+1) 70 13 ga t.items.len cap bs∧Tm.bo U rb t.items bs)∧(∀nm:Tm.Wd,(∀t∈tys.take i,t.name≠nm)→G (.string nm)=none))
  (hm:fh Tryz.prog 9 w5 w.heap.size (nm+1) (AA G (.string t.name) (.slice ga t.items.len capb)))(hg:V.grownBy w5 (some w.heap.size))(hs:w5.heap.size=V.heap.size):FoS U w w5 rb tys (i+1):=by
 have hbV:Below w.heap.size w V:=by rw[hV];exact h.bel.alloc h.bel.size _
 have hsz:V.heap.size=wr.heap.size+1:=by rw[hV];simp
 obtain⟨h1,h2,h3⟩:=hM
 have hsub:((tys.take i++[t]).map (·.name)).Nodup:=by
  rw[← hti]
  exact List.Sublist.nodup ((List.take_sublist _ _).map _) hnd
 rw[List.map_append,List.nodup_append]at hsub
 have hne:∀t'∈tys.take i,t'.name≠t.name:=fun t' ht'=>hsub.2.2 _ (List.mem_map_of_mem ht') _ (by simp)
 have hlit:∀{a b:Tm.Wd},a≠b→Lit.string a≠Lit.string b:=fun hab e=>by injection e with e;exact hab e
 refine⟨hbV.grown hg (by have:=h.lt;omega) (fun k e=>by injection e with e;omega),by have:=h.lt;omega,nm+1,_,hm,by omega,fun t' ht'=> ?_,fun x hx=> ?_⟩
 ·rw[hti]at ht'
  rcases List.mem_append.1 ht' with h4|h4
  ·rw[kH _ _ (hlit (hne t' h4))]
   exact h2 t' h4
  ·have:t'=t:=by simpa using h4
   subst this
   rw[rj _ (ly _)]
   exact⟨ga,capb,bs,rfl,hit.1,hit.2⟩
 ·rw[hti]at hx
  rw[kH _ _ (hlit (fun e=>hx t (by simp) e.symm))]
  exact h3 x (fun t' ht'=>hx t' (List.mem_append_left _ ht'))
theorem kN(tys:List Tm.Ty)(U w:World)(hU:Below U.heap.size U w)(rb cap B:Nat)(a:Option Addr)(vs:List Value)(ho:an U B 97 3 a tys.length cap vs)(he:Tm.cz U rb tys vs)(hF:∀t∈tys,Tm.bh t)(hn:tys.length≤100)(hnd:(tys.map (·.name)).Nodup):
  Calls Tryz.prog 27 #[.slice a tys.length cap] w fun e w'=>e= .returned (.map (some w.heap.size))∧Below w.heap.size w w'∧bN U w' rb w.heap.size tys:=by
 have hcap:tys.length≤cap:=aT ho
 obtain⟨n,hn'⟩:∃n,n=tys.length:=⟨_,rfl⟩
 rw[← hn']at hcap hn⊢
 have HO:=hid ho;have HE:=hid he;have HF:=hid hF;have HN:=hid hn';have HND:=hid hnd
 have hmk:∀V,(Instr.makeMap 59 none).run Tryz.prog V= .ok (.map (some V.heap.size)) (V.alloc (.map #[] 0)):=fun V=>by kernel_rfl
 have S0:=hid (FoS.start U w rb tys)
 clear ho he hF hn' hnd
 go_enter Tryz.func27,Tryz.ntmps27
 go_wp2_with fail
 go_loopw [9] (fun v9 wr=>∃(i:Nat),v9= .int .i64 (i:Nat)∧i≤n∧Hid (FoS U w wr rb tys i)) (fun v9 _=>n - (intOf v9).toNat)
 case atStart=>exact⟨0,rfl,Nat.zero_le _,S0⟩
 case round=>
  obtain⟨i,rfl,hi,HS⟩:=hrel
  clear S0
  by_cases hin:i < n
  ·have q1:decide ((i:Int) < (n:Int))=true:=Z9 (by omega)
   have q2:decide (i < n)=true:=Z9 hin
   have hii:(i:Int) < (n:Int):=by omega
   have HLT:=hid hin
   obtain⟨x,rfl⟩:∃x,a=some x:=by
    cases a with
    |none=>have:=HO.out.aN.1;rw[← HN.out]at this;omega
    |some x=>exact⟨x,rfl⟩
   obtain⟨gb,rfl⟩:∃gb,x=⟨gb,0,none⟩:=⟨x.block,HO.out.row.1⟩
   obtain⟨t,r,hdr⟩:=Tm.gZ tys i (by rw[← HN.out];exact hin)
   obtain⟨ga,capb,bs,g1,g2,g3,g4⟩:=Tm.cz.ty HO.out HE.out hdr
   have hmem:t∈tys:=by
    have:t∈tys.drop i:=by rw[hdr];simp
    exact List.mem_of_mem_drop this
   have hti:tys.take (i+1)=tys.take i++[t]:=by
    rw[List.take_add,hdr];rfl
   have hrow:=(g3.below hU g3.lt).below HS.out.bel (Nat.lt_of_lt_of_le g3.lt hU.size)
   have c0:=hrow.cell 0 (by simp);have c1:=hrow.cell 1 (by simp);have c2:=hrow.cell 2 (by simp)
   simp only[Z0,Z1,Y2]at c0 c1 c2
   obtain⟨nm,G,m1,m2,m3,m4⟩:=HS.out.fm
   obtain⟨V,hV⟩:∃V,V=wr.alloc (.cells #[.string (aa t.name),.int .i64 (t.at_:Nat),.slice ga (Tm.Its.len t.items) capb] 97):=⟨_,rfl⟩
   have hMV:fh Tryz.prog 9 V w.heap.size nm G:=by rw[hV];exact m1.al (Below.heap_alloc _ _ _ m1.lt)
   have HMV:=hid hMV
   have HIT:=hid (And.intro g1 g2)
   have HTI:=hid hti
   have HM:=hid (And.intro m2 (And.intro m3 m4))
   have hnl:t.name.length≤100000:=by have:=jM (HF.out t hmem).1.2;omega
   have HNL:=hid hnl
   have HV:=hid hV
   clear g1 g2 g3 g4 hrow hdr hmem hti m1 m2 m3 m4 hMV hnl hin hi hV
   have hbx:ae (wr.alloc (.cells #[.string {data:= #[]},.int .i64 0,.slice none 0 0] 97)) wr.heap.size 0 97 [.string {data:= #[]},.int .i64 0,.slice none 0 0]:=ae.new wr 97 #[.string {data:= #[]},.int .i64 0,.slice none 0 0]
   have y0:=hbx.cell0 0 (by simp);have z0:=hbx.frozen0 0 (by simp)
   have y1:=hbx.cell0 1 (by simp);have z1:=hbx.frozen0 1 (by simp)
   have y2:=hbx.cell0 2 (by simp);have z2:=hbx.frozen0 2 (by simp)
   simp only[Z0,Z1]at y0 y1 y2
   have hby:ae (wr.alloc (.cells #[.string (aa t.name),.int .i64 (t.at_:Nat),.slice ga (Tm.Its.len t.items) capb] 97)) wr.heap.size 0 97 [.string (aa t.name),.int .i64 (t.at_:Nat),.slice ga (Tm.Its.len t.items) capb]:=ae.new wr 97 #[.string (aa t.name),.int .i64 (t.at_:Nat),.slice ga (Tm.Its.len t.items) capb]
   have v0:=hby.cell0 0 (by simp);have v2:=hby.cell0 2 (by simp)
   simp only[Z0,Z1]at v0 v2
   clear hbx hby
   go_wp2_with (rw[← HV.out];refine qA V rfl _ _ _ 59 rfl 9 63 Tryz.underlying59 (Maps.string_keyed Tryz.underlying9) w.heap.size nm G rfl HMV.out (by have:=HM.out.1;show nm < 9223372036854775807;omega) (.string (aa t.name)) (.slice ga (Tm.Its.len t.items) capb) _ (sP Tryz.underlying9 t.name (by have:=HNL.out;omega)) (ly _) rfl rfl ?_;intro w5 hm5 hg5 hs5)
   go_wp2_with fail
   go_roundw
   case rel=>exact⟨i+1,rfl,by have:=HLT.out;omega,hid (HS.out.push HND.out HV.out HTI.out HIT.out HM.out hm5 hg5 hs5)⟩
   case measure=>simp only[intOf];have:=HLT.out;omega
  ·have q1:decide ((i:Int) < (n:Int))=false:=Y9 (by omega)
   have q2:decide (i < n)=false:=Y9 hin
   have HEQ:=hid (show i=n by omega)
   clear hin hi
   go_wp2_with fail
   go_ret
   obtain⟨nm,G,m1,m2,m3,m4⟩:=HS.out.fm
   rw[HEQ.out,HN.out,List.take_length]at m3 m4
   exact⟨rfl,HS.out.bel,nm,G,m1,m3,m4⟩
end
end Go.Proofs.YtlomecfhobehnaaGreatDoor
