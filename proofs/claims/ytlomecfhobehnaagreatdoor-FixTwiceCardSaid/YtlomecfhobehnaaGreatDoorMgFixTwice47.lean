import Derived.Test.YtlomecfhobehnaaGreatDoorMgFixTwice0
import Derived.Test.YtlomecfhobehnaaGreatDoorMgFixTwice46
set_option linter.unusedVariables false
set_option linter.unusedSimpArgs false
namespace Go.Proofs.YtlomecfhobehnaaGreatDoor
open Lib (hid)
section
open Go Go.RowKit
open Rd
open Ly
namespace Fx
open Tm Ly
theorem qg{l m:Its}(h:ej l m):l.row=m.row:=by
 induction h with
 |nil=>rfl
 |cons hh _ ih=>
  simp only[Its.row,ih,skH]
  rw[hh.1,hh.2.1,hh.2.2.2,jO hh]
 |when _ _ _ _ ih=>simp only[Its.row,ih]
theorem rY(W:Wri){a b:Hd}(h:iQ a b)(d:Nd):ba W a d=ba W b d:=by
 unfold ba;rw[h.1,h.2.1]
theorem qh(W:Wri){a b:Hd}(h:iQ a b)(d:Nd):bc W a d=bc W b d:=by
 unfold bc
 rw[jO h,rY W h,h.2.1,show ba W a=ba W b from funext (rY W h)]
theorem rZ(W:Wri){l m:Its}(h:ej l m):∀ks:Nds,aG W l ks=aG W m ks:=by
 induction h with
 |nil=>intro ks;rfl
 |cons hh _ ih=>
  intro ks
  cases ks with
  |nil=>rfl
  |cons a b c d e f g r=>simp only[aG,qh W hh,ih]
 |when hc _ _ ih1 ih2=>
  intro ks
  cases ks with
  |nil=>rfl
  |cons a b c d e f g r=>simp only[aG,ih1,ih2]
theorem yC(W:Wri){l m:Its}(h:ej l m):∀ks:Nds,texts W l ks=texts W m ks:=by
 induction h with
 |nil=>intro ks;rfl
 |cons hh _ ih=>
  intro ks
  cases ks with
  |nil=>rfl
  |cons a b c d e f g r=>simp only[texts,qh W hh,ih]
 |when hc hb _ _ ih2=>
  intro ks
  cases ks with
  |nil=>rfl
  |cons a b c d e f g r=>simp only[texts,rJ,rZ W hb,ih2]
theorem zA{l m:List Ty}(h:bW l m):wrS l=wrS m:=by
 induction h with
 |nil=>rfl
 |@cons a b l m hh _ ih=>
  funext nm ks
  show(if a.name=nm then _ else _)=(if b.name=nm then _ else _)
  rw[hh.1,ih,rZ _ hh.2]
theorem yD(C:Wd→Nat)(W:Wri){l m:Its}(h:ej l m)(ks:Nds){a b:Hd}(hh:iQ a b):av C W l ks a=av C W m ks b:=by
 unfold av jo
 rw[qg h,yC W h,hh.2.2.2]
theorem BE{l m:Its}(h:ej l m):∀i,(eH l i=none∧eH m i=none)∨∃a b,eH l i=some a∧eH m i=some b∧iQ a b:=by
 induction h with
 |nil=>intro i;exact .inl ⟨by cases i <;> rfl,by cases i <;> rfl⟩
 |cons hh _ ih=>
  intro i
  cases i with
  |zero=>exact .inr ⟨_,_,rfl,rfl,hh⟩
  |succ i=>exact ih i
 |when _ _ _ _ ih=>
  intro i
  cases i with
  |zero=>exact .inl ⟨rfl,rfl⟩
  |succ i=>exact ih i
theorem BF(C:Wd→Nat)(W:Wri){l m:Its}(h:ej l m)(ks:Nds)(i:Nat):fZ C W l ks i=fZ C W m ks i:=by
 unfold fZ
 rcases BE h i with⟨h1,h2⟩|⟨a,b,h1,h2,h3⟩
 ·rw[h1,h2]
 ·rw[h1,h2]
  simp only[]
  rw[yD C W h ks h3,h3.1]
theorem mY(C:Wd→Nat)(W:Wri){l m:Its}(h:ej l m):∀(O:List Nat) (ks:Nds),ey C W l O ks=ey C W m O ks
 |[],ks=>rfl
 |i::O,ks=>by
  unfold ey
  rw[BF C W h,show ey C W l O=ey C W m O from funext (mY C W h O)]
theorem DC(B:Fxr){a b:Hd}(h:iQ a b)(ks:Nds):hdF B a ks=hdF B b ks:=by
 unfold hdF;rw[h.1,jO h]
theorem vW(C:Wd→Nat)(W:Wri)(B:Fxr){l m:Its}(h:ej l m):∀ks:Nds,aM C W B l ks=aM C W B m ks:=by
 induction h with
 |nil=>intro ks;cases ks <;> rfl
 |cons hh _ ih=>
  intro ks
  cases ks with
  |nil=>rfl
  |cons a b c d e f g r=>simp only[aM,DC B hh,ih]
 |when hc hb _ ih1 ih2=>
  intro ks
  cases ks with
  |nil=>rfl
  |cons a b c d e f g r=>
   simp only[aM,ih1,ih2,qg hb]
   rw[show ey C W _ (ord _)=ey C W _ (ord _)from funext (mY C W hb _)]
theorem DD(C:Wd→Nat){l m:List Ty}(h:bW l m):cY C l=cY C m:=by
 induction h with
 |nil=>rfl
 |@cons a b l m hh hl ih=>
  funext nm ks
  show(if a.name=nm then _ else _)=(if b.name=nm then _ else _)
  unfold eW
  rw[hh.1,ih,zA hl,vW C _ _ hh.2,qg hh.2,show ey C (wrS m) a.items (ord b.items.row)=ey C (wrS m) b.items (ord b.items.row)from funext (mY C _ hh.2 _)]
def u0:Wd:=[0,1,2,2,104,105,0,7,70,221,2,116]
def u1:Wd:=[0,1,2,2,104,105,3,97,98,99,7,84,197,30,137]
def filled:Nd:=di (fun d=>{d with text:=[97,98,99]}) [2,1,1] dw
def qi(L:List Ty)(d:Nd)(u:Wd):Bool:=match cY bP L dT d.kids with
 |none=>false
 |some p=>match wrT L dT {d with kids:=p},rdT L dT u with
  |some v,some m=>decide (v=u)&&dN {d with kids:=p} m
  |_,_=>false
theorem vX{L:List Ty}{d:Nd}{u:Wd}(h:qi L d u=true)(hl:u.length≤4000):cP bP L dT d= .ok u:=by
 unfold qi at h
 cases h1:cY bP L dT d.kids with
 |none=>rw[h1]at h;cases h
 |some p=>
  rw[h1]at h
  simp only[]at h
  cases h2:wrT L dT {d with kids:=p}with
  |none=>rw[h2]at h;simp at h
  |some v=>
   cases h3:rdT L dT u with
   |none=>rw[h2,h3]at h;simp at h
   |some m=>
    rw[h2,h3]at h
    simp only[Bool.and_eq_true,decide_eq_true_eq]at h
    obtain⟨rfl,h4⟩:=h
    rw[p7 h1 h2 (by omega) h3,if_pos h4]
theorem Gr:qi bR.reverse dw u0=true:=by kernel_rfl
theorem Gs:qi bR.reverse filled u1=true:=by kernel_rfl
theorem qj{l m:List Ty}(h:bW l m)(d:Nd)(u:Wd):qi l d u=qi m d u:=by
 unfold qi rdT wrT
 rw[DD bP h,zA h,zi u h]
theorem vY{tys:List Ty}(h:bW bR tys):cP bP tys.reverse dT dw= .ok u0:=vX (by rw[← qj (kM h)];exact Gr) (by decide)
theorem vZ{tys:List Ty}(h:bW bR tys):cP bP tys.reverse dT filled= .ok u1:=vX (by rw[← qj (kM h)];exact Gs) (by decide)
theorem BG:∃x,dZ [2,1,1] dw=some x∧x.kind=2:=⟨_,rfl,rfl⟩
end Fx
end
section
set_option maxRecDepth 100000
set_option maxHeartbeats 4000000
open Go Go.RowKit
open Rd
open Ly
theorem qk{tys:List Tm.Ty}{root u:Tm.Wd}{d:Nd}(hF:∀t∈tys.reverse,Tm.bh t)(hd:(Fx.wrT tys.reverse root d).isSome=true)(h:Fx.cP Fx.bP tys.reverse root d= .ok u):
  ∃m,aJ tys root u=some m∧fV tys root u m=true∧Fx.cP Fx.bP tys.reverse root m= .ok u∧u.length≤4000∧Fx.shp m.kids=Fx.shp d.kids∧m.name=d.name∧m.kind=d.kind∧m.text=d.text∧m.val=d.val:=by
 have hP:=Fx.pK.1 h
 obtain⟨m,q,h1,h2,h3,h4,h5⟩:=Fx.yg hF hd hP
 obtain⟨p,g1,g2,g3,m',g4,g5⟩:=hP
 rw[h1]at g4
 injection g4 with g4
 subst g4
 refine⟨m,h1,?_,Fx.pK.2 h4,g3,h5,?_,?_,?_,?_⟩
 ·unfold fV
  rw[h2]
  simp only[]
  rw[h3,beq_self_eq_true]
 ·have h9:=congrArg Nd.name g5
  exact h9
 ·have h9:=congrArg Nd.kind g5
  exact h9
 ·have h9:=congrArg Nd.text g5
  exact h9
 ·have h9:=congrArg Nd.val g5
  exact h9
theorem se{tys:List Tm.Ty}{root u s:Tm.Wd}{d:Nd}(h:Fx.cP Fx.bP tys.reverse root d= .ok u):fV tys root s d=decide (u=s):=by
 obtain⟨p,g1,g2,g3,m',g4,g5⟩:=Fx.pK.1 h
 unfold fV
 rw[g1]
 simp only[]
 rw[g2]
 by_cases hus:u=s
 ·rw[hus,Z9 rfl,beq_self_eq_true]
 ·rw[Y9 hus,Z8]
  intro h8
  injection h8 with h8
  exact hus h8
theorem yE{w:World}{g:Nat}(h:ae w g 0 3 [.int .i64 2,.int .i64 1,.int .i64 1]):im w (some ⟨g,0,none⟩) [2,1,1]:=by
 refine .inr ⟨g,0,rfl,fun i hi=> ?_⟩
 have:=h.cell i hi
 match i,hi with
 |0,_=>exact this
 |1,_=>exact this
 |2,_=>exact this
theorem sf{q:List Nat}(h:([2,1,1]:List Int)=dU q):q=[2,1,1]:=by
 unfold dU at h
 match q,h with
 |[a,b,c],h=>
  simp only[List.map_cons,List.map_nil,List.cons.injEq,and_true]at h
  obtain⟨h1,h2,h3⟩:=h
  rw[show a=2 by omega,show b=1 by omega,show c=1 by omega]
 |[],h=>simp at h
 |[a],h=>simp at h
 |[a,b],h=>simp at h
 |a::b::c::e::r,h=>simp at h
theorem BH(w:World)(hB:jY w):Calls Tryz.prog 11 #[] w fun e w'=>e= .returned (.bool true)∧Below w.heap.size w w':=by
 have HBX:=hid (rE w hB)
 clear hB
 go_enter Tryz.func11,Tryz.ntmps11
 go_wp2_with fail
 refine HBX.out.mono ?_
 rintro e w1 ⟨hb1,tys,a,cap,vs,hsame,hm,rfl⟩
 have hbl:(Tm.cI Tm.bR).length≤3000:=by rw[Tm.lJ];omega
 have hchk:Tm.chk [] tys=none:=by rw[Tm.oT hsame Tm.ia];exact Tm.sX
 have hlen:tys.length=2:=by
  have:∀{l m:List Tm.Ty},Tm.bW l m→l.length=m.length:=by
   intro l m h
   induction h with
   |nil=>rfl
   |cons _ _ ih=>simp[ih]
  exact(this hsame).symm
 have hT:=TyF.of hm hbl hchk
 have hrl:dT.length≤200000000000000:=by decide
 have hlay:=qf hsame
 have hsd:=Fx.vY hsame
 have hwd:(Fx.wrT tys.reverse dT dw).isSome=true:=by
  have:=nH hsame (fun t ht=>(hT.ep t ht).1)
  unfold Fx.wrT;rw[this];rfl
 obtain⟨m0,hm0,hrt0,_,_,_⟩:=qk hT.pZ hwd hsd
 have HDN:Hid (∀X,Below w1.heap.size w1 X→Calls Tryz.prog 12 #[.slice a 2 cap,.string (aa dT),.string (aa bT)] X fun e w'=>Below X.heap.size X w'∧e= .returned (.tuple #[.string (aa Fx.u0),.nilIface])):=hid (fun X hX=>by
  have h1:=vQ tys dT bT X w.heap.size cap a vs (hT.up hX) hrl (by decide)
  rw[hlen,hlay]at h1
  unfold rT at h1
  simp only[]at h1
  rw[hsd]at h1
  exact h1)
 have HR1:Hid (∀X,Below w1.heap.size w1 X→Calls Tryz.prog 13 #[.slice a 2 cap,.string (aa dT),.string (aa Fx.u0)] X fun e w'=>Below X.heap.size X w'∧e= .returned (.tuple #[.bool true,.nilIface])):=hid (fun X hX=>by
  have h1:=kX tys dT Fx.u0 X w.heap.size cap a vs (hT.up hX) hrl (by decide)
  rw[hlen,hm0]at h1
  unfold mX at h1
  simp only[]at h1
  rw[hrt0]at h1
  exact h1)
 have HR2:Hid (∀X,Below w1.heap.size w1 X→Calls Tryz.prog 13 #[.slice a 2 cap,.string (aa dT),.string (aa bT)] X fun e w'=>Below X.heap.size X w'∧e= .returned (.tuple #[.bool false,.nilIface])):=hid (fun X hX=>by
  have h1:=kX tys dT bT X w.heap.size cap a vs (hT.up hX) hrl (by decide)
  rw[hlen,hlay]at h1
  unfold mX at h1
  simp only[]at h1
  rw[se hsd,show decide (Fx.u0=bT)=false from by decide]at h1
  exact h1)
 have HFI:Hid (∀X g,Below w1.heap.size w1 X→ae X g 0 3 [.int .i64 2,.int .i64 1,.int .i64 1]→Calls Tryz.prog 16 #[.slice a 2 cap,.string (aa dT),.string (aa bT),.slice (some ⟨g,0,none⟩) 3 3,.string (aa [97,98,99])] X fun e w'=>Below X.heap.size X w'∧e= .returned (.tuple #[.string (aa Fx.u1),.nilIface])):=hid (fun X g hX hrow=>by
  have h1:=DB X w.heap.size cap 3 tys a (some ⟨g,0,none⟩) vs dT bT [97,98,99] [2,1,1] (hT.up hX) hrl (by decide) (by decide) (fun Y hY=>(yE (hrow.below hY hrow.lt)).rd) (by decide) (by decide)
  rw[hlen,hlay]at h1
  refine(show Calls Tryz.prog 16 #[.slice a 2 cap,.string (aa dT),.string (aa bT),.slice (some ⟨g,0,none⟩) 3 3,.string (aa [97,98,99])] X _ from h1).mono ?_
  rintro e w' ⟨hb,h2⟩
  refine⟨hb,?_⟩
  obtain⟨x0,hx0,hxk⟩:=Fx.BG
  rcases h2 with⟨hno,_⟩|⟨q,x,hq,hqn,hgx,⟨k,⟨hk2,_⟩,_⟩|⟨d',⟨_,hd',_⟩,_,he⟩⟩
  ·rcases hno [2,1,1] rfl with h3|h3
   ·cases h3
   ·rw[hx0]at h3;cases h3
  ·have:=sf hq
   subst this
   rw[hx0]at hgx
   cases hgx
   exact absurd hxk hk2
  ·have:=sf hq
   subst this
   have hdd:d'=Fx.filled:=hd'
   rw[hdd,Fx.vZ hsame]at he
   exact he)
 have HB1:=hid hb1
 clear hb1 hsame hm hbl hchk hlen hT hrl hlay hsd hwd hm0 hrt0 HBX
 have e3:aa dT={data:= #[98,111,120]}:=rfl
 rw[e3]at HDN HR1 HR2 HFI
 have e4:aa [97,98,99]={data:= #[97,98,99]}:=rfl
 rw[e4]at HFI
 clear e3 e4
 go_wp2_with fail
 refine(ec _).mono ?_
 rintro e w9 ⟨rfl,rfl⟩
 go_wp2_with fail
 refine(HDN.out w1 (Y4 _ _)).mono ?_
 rintro e w2 ⟨hb2,rfl⟩
 have HB2:=hid hb2
 clear hb2
 go_wp2_with fail
 refine(HR1.out w2 HB2.out).mono ?_
 rintro e w3 ⟨hb3,rfl⟩
 have HB3:=hid (HB2.out.trans (hb3.mono HB2.out.size))
 clear hb3
 go_wp2_with fail
 refine(ec _).mono ?_
 rintro e w9 ⟨rfl,rfl⟩
 go_wp2_with fail
 refine(HR2.out w3 HB3.out).mono ?_
 rintro e w4 ⟨hb4,rfl⟩
 have HB4:=hid (HB3.out.trans (hb4.mono HB3.out.size))
 clear hb4
 go_wp2_with fail
 refine(ec _).mono ?_
 rintro e w9 ⟨rfl,rfl⟩
 obtain⟨V,hV⟩:∃V,V=w4.alloc (.cells #[.int .i64 2,.int .i64 1,.int .i64 1] 3):=⟨_,rfl⟩
 have hbV:Below w4.heap.size w4 V:=by rw[hV];exact(Y4 _ _).alloc (Z5 _) _
 have hrV:ae V w4.heap.size 0 3 [.int .i64 2,.int .i64 1,.int .i64 1]:=by rw[hV];exact ae.new w4 _ _
 have HV:=hid hV;have HBV:=hid (HB4.out.trans (hbV.mono HB4.out.size));have HRV:=hid hrV
 clear hV hbV hrV
 go_wp2_with fail
 rw[← HV.out]
 refine(HFI.out V w4.heap.size HBV.out HRV.out).mono ?_
 rintro e w5 ⟨hb5,rfl⟩
 have HB5:=hid (HBV.out.trans (hb5.mono HBV.out.size))
 clear hb5
 have x1:(Fx.u0==bT)=false:=by decide
 have x2:decide (Fx.u0=bT)=false:=by decide
 have l0:Fx.u0.length=12:=rfl
 have l1:bT.length=12:=rfl
 have l2:Fx.u1.length=15:=rfl
 go_wp2_with fail
 refine(ec _).mono ?_
 rintro e w9 ⟨rfl,rfl⟩
 go_wp2_with fail
 refine(ec _).mono ?_
 rintro e w9 ⟨rfl,rfl⟩
 go_wp2_with fail
 go_ret
 refine⟨?_,HB1.out.trans (HB5.out.mono HB1.out.size)⟩
 first|rfl|kernel_rfl
end
section
set_option maxRecDepth 100000
set_option maxHeartbeats 2000000
open Go Go.RowKit
open Rd
open Ly
namespace Fx
open Ly
def wb:Nds→Nds→Bool
 | .nil,.nil=>true
 | .cons a1 a2 _ _ a5 a6 a7 r1,.cons b1 b2 _ _ b5 b6 b7 r2=>decide (a1=b1)&&decide (a2=b2)&&decide (a6=b6)&&(decide (a2=1)||decide (a5=b5))&&wb a7 b7&&wb r1 r2
 |_,_=>false
def jx(a b:Nd):Bool:=decide (a.name=b.name)&&decide (a.kind=b.kind)&&decide (a.text=b.text)&&(decide (a.kind=1)||decide (a.val=b.val))&&wb a.kids b.kids
theorem zB:∀X Y:Nds,eqF jx X Y=wb X Y
 | .nil,.nil=>rfl
 | .nil,.cons ..=>rfl
 | .cons ..,.nil=>rfl
 | .cons a1 a2 a3 a4 a5 a6 a7 r1,.cons b1 b2 b3 b4 b5 b6 b7 r2=>by
  simp only[eqF,wb,jx,zB r1 r2]
theorem tJ:∀X Y:Nds,shp X=shp Y→wb X Y=true
 | .nil,.nil,_=>rfl
 | .nil,.cons ..,h=>by simp[shp]at h
 | .cons ..,.nil,h=>by simp[shp]at h
 | .cons a1 a2 a3 a4 a5 a6 a7 r1,.cons b1 b2 b3 b4 b5 b6 b7 r2,h=>by
  simp only[shp,Nds.cons.injEq]at h
  obtain⟨h1,h2,_,_,h5,h6,h7,h8⟩:=h
  subst h1 h2 h6
  have i1:=tJ a7 b7 h7
  have i2:=tJ r1 r2 h8
  simp only[wb,i1,i2,decide_true,Bool.true_and,Bool.and_true]
  by_cases hk:a2=1
  ·simp[hk]
  ·rw[if_neg hk,if_neg hk]at h5
   simp[h5]
end Fx
def lW(d e:Nd):Prop:=∀(w:World) (B1 B2:Nat) (b1 b2:List Nat) (v1 v2:Value),NdV w B1 b1 d v1→NdV w B2 b2 e v2→Calls Tryz.prog 14 #[v1,v2] w fun x w'=>x= .returned (.bool (Fx.jx d e))∧Below w.heap.size w w'
theorem we(n:Nat)(ih:∀d e:Nd,d.tot < n→d.tot≤800000→lW d e)(X Y:Nds)(hX:X.tot < n)(hXt:X.tot≤800000)(w:World)(B1 B2 c1 c2:Nat)(g1 g2:Option Addr)(v1 v2:List Value)(b1 b2:List Nat)(ho1:an w B1 28 7 g1 X.len c1 v1)(he1:aW w B1 X b1 v1)(ho2:an w B2 28 7 g2 Y.len c2 v2)(he2:aW w B2 Y b2 v2):
  Calls Tryz.prog 36 #[.slice g1 X.len c1,.slice g2 Y.len c2,.func (.func 14) #[] #[]] w fun e w'=>e= .returned (.bool (Fx.eqF Fx.jx X Y))∧Below w.heap.size w w':=by
 obtain⟨nx,hnx⟩:∃nx,nx=X.len:=⟨_,rfl⟩
 obtain⟨ny,hny⟩:∃ny,ny=Y.len:=⟨_,rfl⟩
 have hnx9:nx≤100000:=by have:=iL X;omega
 have hc1:nx≤c1:=by rw[hnx];exact aT ho1
 have hc2:ny≤c2:=by rw[hny];exact aT ho2
 have HO:=hid (And.intro ho1 (And.intro he1 (And.intro ho2 he2)))
 have HNX:=hid hnx;have HNY:=hid hny;have HIH:=hid ih
 have HXN:=hid hX;have HXT:=hid hXt
 have HEQ:=hid (fun(h:X.len≠Y.len)=>Fx.tr (P:=Fx.jx) X Y h)
 rw[← hnx,← hny]
 clear ho1 he1 ho2 he2 hnx hny ih hX hXt
 by_cases hl:nx=ny
 ·subst hl
  go_enter Tryz.func36,Tryz.ntmps36
  go_wp2_with fail
  go_loopw [17] (fun v17 wr=>∃k:Nat,v17= .int .i64 k∧k≤nx∧Hid (Fx.eqF Fx.jx X Y=Fx.eqF Fx.jx (X.drop k) (Y.drop k))∧Hid (Below w.heap.size w wr)) (fun v17 _=>nx - (intOf v17).toNat)
  case atStart=>exact⟨0,rfl,Nat.zero_le _,hid (by rw[show X.drop 0=X by cases X <;> rfl,show Y.drop 0=Y by cases Y <;> rfl]),hid (Y4 _ _)⟩
  case round=>
   obtain⟨k,rfl,hk,HQ,HB⟩:=hrel
   by_cases hlt:k < nx
   ·have hki:(k:Int) < (nx:Int):=by omega
    have q1:decide ((k:Int) < (nx:Int))=true:=Z9 hki
    have q2:decide (k < nx)=true:=Z9 hlt
    have HLT:=hid hlt
    obtain⟨x1,rfl⟩:∃x,g1=some x:=by
     cases g1 with
     |none=>have:=HO.out.1.aN.1;rw[← HNX.out]at this;omega
     |some x=>exact⟨x,rfl⟩
    obtain⟨a1,rfl⟩:∃gb,x1=⟨gb,0,none⟩:=⟨x1.block,HO.out.1.row.1⟩
    obtain⟨x2,rfl⟩:∃x,g2=some x:=by
     cases g2 with
     |none=>have:=HO.out.2.2.1.aN.1;rw[← HNY.out]at this;omega
     |some x=>exact⟨x,rfl⟩
    obtain⟨a2,rfl⟩:∃gb,x2=⟨gb,0,none⟩:=⟨x2.block,HO.out.2.2.1.row.1⟩
    obtain⟨⟨nm1,kd1,at1,sz1,w1,tx1,ks1⟩,r1,hd1,hd1'⟩:=X.bS k (by rw[← HNX.out];exact hlt)
    obtain⟨⟨nm2,kd2,at2,sz2,w2,tx2,ks2⟩,r2,hd2,hd2'⟩:=Y.bS k (by rw[← HNY.out];exact hlt)
    obtain⟨h1,i1,s1,t1,e1,e2,e3⟩:=aW.nd HO.out.1 HO.out.2.1 hd1
    obtain⟨h2,i2,s2,t2,f1,f2,f3⟩:=aW.nd HO.out.2.2.1 HO.out.2.2.2 hd2
    simp only[]at e1 e2 e3 f1 f2 f3
    obtain⟨m1,hm1⟩:∃m1,m1=ks1.len:=⟨_,rfl⟩
    obtain⟨m2,hm2⟩:∃m2,m2=ks2.len:=⟨_,rfl⟩
    rw[← hm1]at e1
    rw[← hm2]at f1
    have ht1:Nd.tot ⟨nm1,kd1,at1,sz1,w1,tx1,ks1⟩≤X.tot:=by have:=X.ib k;rw[hd1,eN]at this;omega
    obtain⟨V2,hV2⟩:∃V2,V2=(wr.alloc (.cells #[.string (aa nm1),.int .i64 (kd1:Nat),.int .i64 (at1:Nat),.int .i64 (sz1:Nat),.int .i64 w1,.string (aa tx1),.slice h1 m1 i1] 28)).alloc (.cells #[.string (aa nm2),.int .i64 (kd2:Nat),.int .i64 (at2:Nat),.int .i64 (sz2:Nat),.int .i64 w2,.string (aa tx2),.slice h2 m2 i2] 28):=⟨_,rfl⟩
    have hbA:=HB.out.alloc HB.out.size (.cells #[.string (aa nm1),.int .i64 (kd1:Nat),.int .i64 (at1:Nat),.int .i64 (sz1:Nat),.int .i64 w1,.string (aa tx1),.slice h1 m1 i1] 28)
    have hb2:Below w.heap.size w V2:=by rw[hV2];exact hbA.alloc hbA.size _
    have hq1:ae V2 wr.heap.size 0 28 [.string (aa nm1),.int .i64 (kd1:Nat),.int .i64 (at1:Nat),.int .i64 (sz1:Nat),.int .i64 w1,.string (aa tx1),.slice h1 m1 i1]:=by rw[hV2];exact(ae.new wr _ _).alloc _
    have hq2:ae V2 (wr.heap.size+1) 0 28 [.string (aa nm2),.int .i64 (kd2:Nat),.int .i64 (at2:Nat),.int .i64 (sz2:Nat),.int .i64 w2,.string (aa tx2),.slice h2 m2 i2]:=by rw[hV2];exact ae.iq _ _ (by simp) _ _
    have hv1:NdV V2 B1 (aU h1++t1) ⟨nm1,kd1,at1,sz1,w1,tx1,ks1⟩ (.agg #[.string (aa nm1),.int .i64 (kd1:Nat),.int .i64 (at1:Nat),.int .i64 (sz1:Nat),.int .i64 w1,.string (aa tx1),.slice h1 m1 i1]):=⟨h1,i1,s1,t1,by rw[hm1];rfl,rfl,e2.below hb2 (Z5 _),e3.al _ _ _ fun b hb=>hb2.block b (e3.mem _ _ _ b hb).2⟩
    have hv2:NdV V2 B2 (aU h2++t2) ⟨nm2,kd2,at2,sz2,w2,tx2,ks2⟩ (.agg #[.string (aa nm2),.int .i64 (kd2:Nat),.int .i64 (at2:Nat),.int .i64 (sz2:Nat),.int .i64 w2,.string (aa tx2),.slice h2 m2 i2]):=⟨h2,i2,s2,t2,by rw[hm2];rfl,rfl,f2.below hb2 (Z5 _),f3.al _ _ _ fun b hb=>hb2.block b (f3.mem _ _ _ b hb).2⟩
    have HC:=hid (HIH.out ⟨nm1,kd1,at1,sz1,w1,tx1,ks1⟩ ⟨nm2,kd2,at2,sz2,w2,tx2,ks2⟩ (by have:=HXN.out;omega) (by have:=HXT.out;omega) V2 B1 B2 _ _ _ _ hv1 hv2)
    have HDQ:=hid (show Fx.eqF Fx.jx X Y=(Fx.jx ⟨nm1,kd1,at1,sz1,w1,tx1,ks1⟩ ⟨nm2,kd2,at2,sz2,w2,tx2,ks2⟩&&Fx.eqF Fx.jx (X.drop (k+1)) (Y.drop (k+1))) by rw[HQ.out,hd1,hd2,hd1',hd2'];rfl)
    have r1':=e1.below HB.out e1.lt
    have r2':=(f1.below HB.out f1.lt).alloc (.cells #[.string (aa nm1),.int .i64 (kd1:Nat),.int .i64 (at1:Nat),.int .i64 (sz1:Nat),.int .i64 w1,.string (aa tx1),.slice h1 m1 i1] 28)
    have y0:=r1'.cell 0 (by simp[ad]);have y1:=r1'.cell 1 (by simp[ad]);have y2:=r1'.cell 2 (by simp[ad]);have y3:=r1'.cell 3 (by simp[ad]);have y4:=r1'.cell 4 (by simp[ad]);have y5:=r1'.cell 5 (by simp[ad]);have y6:=r1'.cell 6 (by simp[ad])
    have z0:=r2'.cell 0 (by simp[ad]);have z1:=r2'.cell 1 (by simp[ad]);have z2:=r2'.cell 2 (by simp[ad]);have z3:=r2'.cell 3 (by simp[ad]);have z4:=r2'.cell 4 (by simp[ad]);have z5:=r2'.cell 5 (by simp[ad]);have z6:=r2'.cell 6 (by simp[ad])
    simp only[ad,Z0,Z1,Y2]at y0 y1 y2 y3 y4 y5 y6 z0 z1 z2 z3 z4 z5 z6
    have p0:=hq1.cell0 0 (by simp);have p1:=hq1.cell0 1 (by simp);have p2:=hq1.cell0 2 (by simp);have p3:=hq1.cell0 3 (by simp);have p4:=hq1.cell0 4 (by simp);have p5:=hq1.cell0 5 (by simp);have p6:=hq1.cell0 6 (by simp)
    have o0:=hq2.cell0 0 (by simp);have o1:=hq2.cell0 1 (by simp);have o2:=hq2.cell0 2 (by simp);have o3:=hq2.cell0 3 (by simp);have o4:=hq2.cell0 4 (by simp);have o5:=hq2.cell0 5 (by simp);have o6:=hq2.cell0 6 (by simp)
    simp only[Z0,Z1]at p0 p1 p2 p3 p4 p5 p6 o0 o1 o2 o3 o4 o5 o6
    have HV2:=hid hV2
    rw[hV2]at p0 p1 p2 p3 p4 p5 p6 o0 o1 o2 o3 o4 o5 o6
    have HB2:=hid hb2
    obtain⟨pv,hpv⟩:∃pv,pv=Fx.jx ⟨nm1,kd1,at1,sz1,w1,tx1,ks1⟩ ⟨nm2,kd2,at2,sz2,w2,tx2,ks2⟩:=⟨_,rfl⟩
    rw[← hpv]at HC HDQ
    clear hd1 hd1' hd2 hd2' e1 e2 e3 f1 f2 f3 hm1 hm2 ht1 hbA hb2 hq1 hq2 hv1 hv2 r1' r2' hV2 hpv hlt
    go_wp2_with fail
    rw[← HV2.out]
    refine HC.out.mono ?_
    rintro e w5 ⟨rfl,hb5⟩
    have HB5:=hid (HB2.out.trans (hb5.mono HB2.out.size))
    clear hb5
    cases pv with
    |false=>
     go_wp2_with fail
     go_ret
     exact⟨by rw[HDQ.out];rfl,HB5.out⟩
    |true=>
     have HD2:=hid (show Fx.eqF Fx.jx X Y=Fx.eqF Fx.jx (X.drop (k+1)) (Y.drop (k+1)) by rw[HDQ.out];rfl)
     go_wp2_with fail
     go_roundw
     case rel=>exact⟨k+1,by first|rfl|rw[aw HLT.out hnx9],by have:=HLT.out;omega,HD2,HB5⟩
     case measure=>(try rw[aw HLT.out hnx9]);simp only[intOf];have:=HLT.out;omega
   ·obtain rfl:k=nx:=by omega
    have hd:decide ((k:Int) < (k:Int))=false:=by simp
    have hd2:decide (k < k)=false:=by simp
    have HE:=hid (show Fx.eqF Fx.jx X Y=true by
     have h1:=X.cD;have h2:=Y.cD
     rw[← HNX.out]at h1
     rw[← HNY.out]at h2
     rw[HQ.out,h1,h2];rfl)
    go_wp2_with fail
    go_ret
    exact⟨by rw[HE.out];rfl,HB.out⟩
 ·have q1:((nx:Int)==(ny:Int))=false:=Z8.2 (by omega)
  have q2:((nx:Int)!=(ny:Int))=true:=by rw[bne,q1];rfl
  have q3:(nx==ny)=false:=Z8.2 hl
  have q4:(nx !=ny)=true:=by rw[bne,q3];rfl
  have HE:=hid (HEQ.out (by rw[← HNX.out,← HNY.out];exact hl))
  clear hl
  go_enter Tryz.func36,Tryz.ntmps36
  go_wp2_with fail
  go_ret
  exact⟨by rw[HE.out];rfl,Y4 _ _⟩
theorem wj(d e:Nd)(ht:d.tot≤800000)(ih:∀d' e':Nd,d'.tot < d.tot→d'.tot≤800000→lW d' e'):lW d e:=by
 intro w B1 B2 bl1 bl2 v1 v2 hv1 hv2
 obtain⟨g1,c1,s1,b1,rfl,rfl,o1,e1⟩:=hv1
 obtain⟨g2,c2,s2,b2,rfl,rfl,o2,e2⟩:=hv2
 obtain⟨nm1,kd1,at1,sz1,w1,tx1,ks1⟩:=d
 obtain⟨nm2,kd2,at2,sz2,w2,tx2,ks2⟩:=e
 simp only[]at o1 e1 o2 e2⊢
 have htk:ks1.tot≤800000:=by unfold Nd.tot at ht;simp only[]at ht;omega
 have htk2:ks1.tot < Nd.tot ⟨nm1,kd1,at1,sz1,w1,tx1,ks1⟩:=by unfold Nd.tot;simp only[];omega
 have HL:=hid (fun(X:World) (hX:Below w.heap.size w X)=>we (Nd.tot ⟨nm1,kd1,at1,sz1,w1,tx1,ks1⟩) ih ks1 ks2 htk2 htk X B1 B2 c1 c2 g1 g2 s1 s2 b1 b2 (o1.below hX (Z5 _)) (e1.al _ _ _ fun b hb=>hX.block b (e1.mem _ _ _ b hb).2) (o2.below hX (Z5 _)) (e2.al _ _ _ fun b hb=>hX.block b (e2.mem _ _ _ b hb).2))
 rw[Fx.zB]at HL
 obtain⟨m1,hm1⟩:∃m1,m1=ks1.len:=⟨_,rfl⟩
 obtain⟨m2,hm2⟩:∃m2,m2=ks2.len:=⟨_,rfl⟩
 rw[← hm1,← hm2]at HL⊢
 obtain⟨sb,hsb⟩:∃sb,sb=Fx.wb ks1 ks2:=⟨_,rfl⟩
 rw[← hsb]at HL
 have hsd:Fx.jx ⟨nm1,kd1,at1,sz1,w1,tx1,ks1⟩ ⟨nm2,kd2,at2,sz2,w2,tx2,ks2⟩=(decide (nm1=nm2)&&decide (kd1=kd2)&&decide (tx1=tx2)&&(decide (kd1=1)||decide (w1=w2))&&sb):=by rw[hsb];rfl
 rw[hsd]
 have e9:(Value.agg (ad nm1 kd1 at1 sz1 w1 tx1 (.slice g1 m1 c1)).toArray)= .agg #[.string (aa nm1),.int .i64 (kd1:Nat),.int .i64 (at1:Nat),.int .i64 (sz1:Nat),.int .i64 w1,.string (aa tx1),.slice g1 m1 c1]:=rfl
 have e8:(Value.agg (ad nm2 kd2 at2 sz2 w2 tx2 (.slice g2 m2 c2)).toArray)= .agg #[.string (aa nm2),.int .i64 (kd2:Nat),.int .i64 (at2:Nat),.int .i64 (sz2:Nat),.int .i64 w2,.string (aa tx2),.slice g2 m2 c2]:=rfl
 rw[e9,e8]
 obtain⟨V2,hV2⟩:∃V2,V2=(w.alloc (.cells #[.string (aa nm1),.int .i64 (kd1:Nat),.int .i64 (at1:Nat),.int .i64 (sz1:Nat),.int .i64 w1,.string (aa tx1),.slice g1 m1 c1] 28)).alloc (.cells #[.string (aa nm2),.int .i64 (kd2:Nat),.int .i64 (at2:Nat),.int .i64 (sz2:Nat),.int .i64 w2,.string (aa tx2),.slice g2 m2 c2] 28):=⟨_,rfl⟩
 have hb2:Below w.heap.size w V2:=by rw[hV2];exact((Y4 _ _).alloc (Z5 _) _).alloc (by simp) _
 have hq1:ae V2 w.heap.size 0 28 [.string (aa nm1),.int .i64 (kd1:Nat),.int .i64 (at1:Nat),.int .i64 (sz1:Nat),.int .i64 w1,.string (aa tx1),.slice g1 m1 c1]:=by rw[hV2];exact(ae.new w _ _).alloc _
 have hq2:ae V2 (w.heap.size+1) 0 28 [.string (aa nm2),.int .i64 (kd2:Nat),.int .i64 (at2:Nat),.int .i64 (sz2:Nat),.int .i64 w2,.string (aa tx2),.slice g2 m2 c2]:=by rw[hV2];exact ae.iq _ _ (by simp) _ _
 have p0:=hq1.cell0 0 (by simp);have p1:=hq1.cell0 1 (by simp);have p4:=hq1.cell0 4 (by simp);have p5:=hq1.cell0 5 (by simp);have p6:=hq1.cell0 6 (by simp)
 have z0:=hq2.cell0 0 (by simp);have z1:=hq2.cell0 1 (by simp);have z4:=hq2.cell0 4 (by simp);have z5:=hq2.cell0 5 (by simp);have z6:=hq2.cell0 6 (by simp)
 simp only[Z0,Z1]at p0 p1 p4 p5 p6 z0 z1 z4 z5 z6
 rw[hV2]at p0 p1 p4 p5 p6 z0 z1 z4 z5 z6
 have HV2:=hid hV2;have HB2:=hid hb2
 clear o1 e1 o2 e2 ih ht htk htk2 hm1 hm2 hsb hsd e9 e8 hV2 hb2 hq1 hq2
 by_cases hn:nm1=nm2
 ·have x1:(nm1==nm2)=true:=beq_iff_eq.2 hn
  have x2:decide (nm1=nm2)=true:=Z9 hn
  by_cases hk:kd1=kd2
  ·have x3:((kd1:Int)==(kd2:Int))=true:=by rw[beq_iff_eq];omega
   have x4:decide (kd1=kd2)=true:=Z9 hk
   have x4b:(kd1==kd2)=true:=beq_iff_eq.2 hk
   by_cases hx:tx1=tx2
   ·have x7:(tx1==tx2)=true:=beq_iff_eq.2 hx
    have x8:decide (tx1=tx2)=true:=Z9 hx
    by_cases h1:kd1=1
    ·have x9:((kd1:Int)==1)=true:=by rw[beq_iff_eq];omega
     have x9b:(kd1==1)=true:=beq_iff_eq.2 h1
     have x10:decide (kd1=1)=true:=Z9 h1
     clear hn hk hx h1
     go_enter Tryz.func14,Tryz.ntmps14
     go_wp2_with fail
     rw[show((w.alloc _).alloc _)=V2 from HV2.out.symm]
     refine(HL.out V2 HB2.out).mono ?_
     rintro x w5 ⟨rfl,hb5⟩
     have HB5:=hid (HB2.out.trans (hb5.mono HB2.out.size))
     clear hb5
     go_wp2_with fail
     go_ret
     exact⟨by rw[x2,x4,x8,x10];rfl,HB5.out⟩
    ·have x9:((kd1:Int)==1)=false:=by rw[Z8];omega
     have x9b:(kd1==1)=false:=Z8.2 h1
     have x10:decide (kd1=1)=false:=Y9 h1
     by_cases hw:w1=w2
     ·have x5:(w1==w2)=true:=beq_iff_eq.2 hw
      have x6:decide (w1=w2)=true:=Z9 hw
      clear hn hk hx h1 hw
      go_enter Tryz.func14,Tryz.ntmps14
      go_wp2_with fail
      rw[show((w.alloc _).alloc _)=V2 from HV2.out.symm]
      refine(HL.out V2 HB2.out).mono ?_
      rintro x w5 ⟨rfl,hb5⟩
      have HB5:=hid (HB2.out.trans (hb5.mono HB2.out.size))
      clear hb5
      go_wp2_with fail
      go_ret
      exact⟨by rw[x2,x4,x8,x10,x6];rfl,HB5.out⟩
     ·have x5:(w1==w2)=false:=Z8.2 hw
      have x6:decide (w1=w2)=false:=Y9 hw
      clear hn hk hx h1 hw
      go_enter Tryz.func14,Tryz.ntmps14
      go_wp2_with fail
      go_ret
      exact⟨by simp[x5,x6,x10],by first|exact HB2.out|(rw[← HV2.out];exact HB2.out)⟩
   ·have x7:(tx1==tx2)=false:=Z8.2 hx
    have x8:decide (tx1=tx2)=false:=Y9 hx
    clear hn hk hx
    go_enter Tryz.func14,Tryz.ntmps14
    go_wp2_with fail
    go_ret
    exact⟨by simp[x7,x8],by first|exact HB2.out|(rw[← HV2.out];exact HB2.out)⟩
  ·have x3:((kd1:Int)==(kd2:Int))=false:=by rw[Z8];omega
   have x4:decide (kd1=kd2)=false:=Y9 hk
   have x4b:(kd1==kd2)=false:=Z8.2 hk
   clear hn hk
   go_enter Tryz.func14,Tryz.ntmps14
   go_wp2_with fail
   go_ret
   exact⟨by simp[x3,x4,x4b],by first|exact HB2.out|(rw[← HV2.out];exact HB2.out)⟩
 ·have x1:(nm1==nm2)=false:=Z8.2 hn
  have x2:decide (nm1=nm2)=false:=Y9 hn
  clear hn
  go_enter Tryz.func14,Tryz.ntmps14
  go_wp2_with fail
  go_ret
  exact⟨by simp[x1,x2],by first|exact HB2.out|(rw[← HV2.out];exact HB2.out)⟩
theorem ql:∀(n:Nat) (d e:Nd),d.tot < n→d.tot≤800000→lW d e
 |0,d,e,h,_=>absurd h (Nat.not_lt_zero _)
 |n+1,d,e,h,ht=>wj d e ht fun d' e' h' ht'=>ql n d' e' (by omega) ht'
theorem yF(d e:Nd)(ht:d.tot≤800000):lW d e:=ql _ d e (Nat.lt_succ_self _) ht
end
section
set_option maxRecDepth 100000
set_option maxHeartbeats 4000000
open Go Go.RowKit
open Rd
open Ly
theorem wk(t root s:List UInt8)(hr:root.length≤200000000000000)(w:World)(hB:jY w):Calls Tryz.prog 4 #[.string (aa t),.string (aa root),.string (aa s)] w fun e w'=>e= .returned (.bool true)∧Below w.heap.size w w':=by
 have HFX:=hid (BH w hB)
 have HB:=hid hB
 clear hB
 go_enter Tryz.func4,Tryz.ntmps4
 go_wp2_with fail
 refine HFX.out.mono ?_
 rintro e w0 ⟨rfl,hb0⟩
 have HLO:=hid (vV w0 (HB.out.up hb0))
 have HB0:=hid hb0
 clear hb0 HFX
 go_wp2_with fail
 refine HLO.out.mono ?_
 rintro e w1 ⟨rfl,hb1⟩
 have HB1:=hid (HB0.out.trans (hb1.mono HB0.out.size))
 have HRI:=hid (BD t w1 (HB.out.up HB1.out))
 clear hb1 HLO
 go_wp2_with fail
 refine HRI.out.mono ?_
 unfold lV
 rintro e w2 ⟨hb2,⟨a0,n0,c0,rfl⟩|⟨s2,tys,a,cap,vs,hs2,hm,hchk,rfl⟩⟩
 ·have HB2:=hid (HB1.out.trans (hb2.mono HB1.out.size))
  clear hb2 HRI
  go_wp2_with fail
  go_ret
  exact⟨rfl,HB2.out⟩
 ·have HB2:=hid (HB1.out.trans (hb2.mono HB1.out.size))
  by_cases h6:600 < s.length
  ·have q1:decide ((600:Int) < (s.length:Int))=true:=Z9 (by omega)
   have q2:decide (600 < s.length)=true:=Z9 h6
   clear hb2 HRI hm hchk
   go_wp2_with fail
   go_ret
   exact⟨rfl,HB2.out⟩
  ·have q1:decide ((600:Int) < (s.length:Int))=false:=Y9 (by omega)
   have q2:decide (600 < s.length)=false:=Y9 h6
   have hT:=TyF.of hm hs2 hchk
   obtain⟨n,hn⟩:∃n,n=tys.length:=⟨_,rfl⟩
   have HDN:Hid (∀X (z:Tm.Wd),z.length≤4000→Below w2.heap.size w2 X→Calls Tryz.prog 12 #[.slice a n cap,.string (aa root),.string (aa z)] X (rT X tys root (aJ tys root z))):=hid (fun X z hz hX=>by
    rw[hn];exact vQ tys root z X w1.heap.size cap a vs (hT.up hX) hr hz)
   have HRT:Hid (∀X (z:Tm.Wd),z.length≤4000→Below w2.heap.size w2 X→Calls Tryz.prog 13 #[.slice a n cap,.string (aa root),.string (aa z)] X (mX X tys root z (aJ tys root z))):=hid (fun X z hz hX=>by
    rw[hn];exact kX tys root z X w1.heap.size cap a vs (hT.up hX) hr hz)
   have HRD:Hid (∀X (z:Tm.Wd),z.length≤4000→Below w2.heap.size w2 X→Calls Tryz.prog 9 #[.slice a n cap,.string (aa root),.string (aa z)] X (dW X (aJ tys root z))):=hid (fun X z hz hX=>by
    have h9:=hT.up hX
    have hF:∀t∈tys,Tm.bh t∧Tm.Its.sz t.items≤100000:=hT.ep
    rw[hn];exact fF tys root z X w1.heap.size cap w1.heap.size a vs h9.own h9.enc hF hT.few hT.chain hr (by omega))
   have hs4:s.length≤4000:=by omega
   have HFACT:Hid (∀d u,aJ tys root s=some d→Fx.cP Fx.bP tys.reverse root d= .ok u→d.tot≤800000∧fV tys root s d=decide (u=s)∧∃m,aJ tys root u=some m∧fV tys root u m=true∧Fx.cP Fx.bP tys.reverse root m= .ok u∧u.length≤4000∧Fx.jx d m=true):=hid (fun d u hd hu=>by
    obtain⟨d1,d2,d3⟩:=il hT hs4 hd
    have hwd:(Fx.wrT tys.reverse root d).isSome=true:=by unfold Fx.wrT;rw[d3];rfl
    obtain⟨m,m1,m2,m3,m4,m5,m6,m7,m8,m9⟩:=qk hT.pZ hwd hu
    refine⟨by omega,se hu,m,m1,m2,m3,m4,?_⟩
    unfold Fx.jx
    rw[m6,m7,m8,m9,Fx.tJ _ _ m5.symm]
    simp)
   have HS4:=hid hs4
   obtain⟨o,ho⟩:∃o,o=aJ tys root s:=⟨_,rfl⟩
   have HO:=hid ho
   have hdn:=HDN.out w2 s hs4 (Y4 _ _)
   rw[← ho]at hdn
   unfold rT at hdn
   have HD0:=hid hdn
   rw[← hn]
   clear hb2 HRI hm hchk h6 hT hn hs4 ho hdn
   go_wp2_with fail
   refine HD0.out.mono ?_
   rintro e w3 ⟨hb3,hv3⟩
   have HB3:=hid hb3
   have HBW3:=hid (HB2.out.trans (hb3.mono HB2.out.size))
   clear hb3 HD0
   cases o with
   |none=>
    obtain⟨ty,vv,rfl⟩:=hv3
    go_wp2_with fail
    go_ret
    exact⟨rfl,HBW3.out⟩
   |some d=>
    obtain⟨rr,hrr⟩:∃rr,rr=Fx.cP Fx.bP tys.reverse root d:=⟨_,rfl⟩
    simp only[]at hv3
    rw[← hrr]at hv3
    have HRR:=hid hrr
    clear hrr
    cases rr with
    |bad k=>
     simp only[]at hv3
     subst hv3
     go_wp2_with fail
     go_ret
     exact⟨rfl,HBW3.out⟩
    |ok u=>
     simp only[]at hv3
     subst hv3
     obtain⟨f0,f1,m,f2,f3,f4,f5,f6⟩:=HFACT.out d u HO.out.symm HRR.out.symm
     have hr1:=HRT.out w3 u f5 HB3.out
     rw[f2]at hr1
     unfold mX at hr1
     simp only[]at hr1
     rw[f3]at hr1
     have HR1:=hid hr1
     have HDU:Hid (∀X,Below w2.heap.size w2 X→Calls Tryz.prog 12 #[.slice a n cap,.string (aa root),.string (aa u)] X fun e w'=>Below X.heap.size X w'∧e= .returned (.tuple #[.string (aa u),.nilIface])):=hid (fun X hX=>by
      have h1:=HDN.out X u f5 hX
      rw[f2]at h1
      unfold rT at h1
      simp only[]at h1
      rw[f4]at h1
      exact h1)
     have HRS:Hid (∀X,Below w2.heap.size w2 X→Calls Tryz.prog 9 #[.slice a n cap,.string (aa root),.string (aa s)] X (dW X (some d))):=hid (fun X hX=>by
      have h1:=HRD.out X s HS4.out hX
      rw[← HO.out]at h1
      exact h1)
     have HRU:Hid (∀X,Below w2.heap.size w2 X→Calls Tryz.prog 9 #[.slice a n cap,.string (aa root),.string (aa u)] X (dW X (some m))):=hid (fun X hX=>by
      have h1:=HRD.out X u f5 hX
      rw[f2]at h1
      exact h1)
     have HRW:Hid (∀X,Below w2.heap.size w2 X→Calls Tryz.prog 13 #[.slice a n cap,.string (aa root),.string (aa s)] X fun e w'=>Below X.heap.size X w'∧e= .returned (.tuple #[.bool (decide (u=s)),.nilIface])):=hid (fun X hX=>by
      have h1:=HRT.out X s HS4.out hX
      rw[← HO.out]at h1
      unfold mX at h1
      simp only[]at h1
      rw[f1]at h1
      exact h1)
     have HSD:=hid f6;have HTO:=hid f0
     have x1:(u==u)=true:=beq_self_eq_true u
     have x2:decide (u=u)=true:=Z9 rfl
     clear f0 f1 f2 f3 f4 f5 f6 hr1 HFACT HDN HRT HRD
     go_wp2_with fail
     refine HR1.out.mono ?_
     rintro e w4 ⟨hb4,rfl⟩
     have HB4:=hid (HB3.out.trans (hb4.mono HB3.out.size))
     clear hb4 HR1
     go_wp2_with fail
     refine(HDU.out w4 HB4.out).mono ?_
     rintro e w5 ⟨hb5,rfl⟩
     have HB5:=hid (HB4.out.trans (hb5.mono HB4.out.size))
     clear hb5
     go_wp2_with fail
     refine(HRS.out w5 HB5.out).mono ?_
     unfold dW
     rintro e w6 ⟨hb6,v6,bl6,rfl,hnd6,hnp6⟩
     obtain⟨g6,cc6,hve⟩:=hnd6.cells
     subst hve
     have HB6:=hid (HB5.out.trans (hb6.mono HB5.out.size))
     obtain⟨ml,hml⟩:∃ml,ml=d.kids.len:=⟨_,rfl⟩
     rw[← hml]at hnd6⊢
     obtain⟨Q,hQ⟩:∃Q,Q=w6.alloc (.cells #[.string (aa d.name),.int .i64 (d.kind:Nat),.int .i64 (d.at_:Nat),.int .i64 (d.size:Nat),.int .i64 d.val,.string (aa d.text),.slice g6 ml cc6] 28):=⟨_,rfl⟩
     have hbQ:Below w6.heap.size w6 Q:=by rw[hQ];exact(Y4 _ _).alloc (Z5 _) _
     have HQ:=hid hQ
     have HBQ:=hid (HB6.out.trans (hbQ.mono HB6.out.size))
     have HRQ:=hid (show ae Q w6.heap.size 0 28 [.string (aa d.name),.int .i64 (d.kind:Nat),.int .i64 (d.at_:Nat),.int .i64 (d.size:Nat),.int .i64 d.val,.string (aa d.text),.slice g6 ml cc6] by rw[hQ];exact ae.new w6 _ _)
     have HNQ:=hid (hnd6.al (w':=Q) fun b hb=>hbQ.block b (hnd6.mem b hb).2)
     clear hb6 hnd6 hnp6 hQ hbQ hml
     go_wp2_with fail
     rw[← HQ.out]
     refine(HRU.out Q HBQ.out).mono ?_
     unfold dW
     rintro e w7 ⟨hb7,v7,bl7,rfl,hnd7,hnp7⟩
     obtain⟨g7,cc7,hve⟩:=hnd7.cells
     subst hve
     have HB7:=hid (HBQ.out.trans (hb7.mono HBQ.out.size))
     obtain⟨nl,hnl⟩:∃nl,nl=m.kids.len:=⟨_,rfl⟩
     rw[← hnl]at hnd7⊢
     obtain⟨R,hR⟩:∃R,R=w7.alloc (.cells #[.string (aa m.name),.int .i64 (m.kind:Nat),.int .i64 (m.at_:Nat),.int .i64 (m.size:Nat),.int .i64 m.val,.string (aa m.text),.slice g7 nl cc7] 28):=⟨_,rfl⟩
     have hbR:Below w7.heap.size w7 R:=by rw[hR];exact(Y4 _ _).alloc (Z5 _) _
     have hbQR:Below Q.heap.size Q R:=hb7.trans (hbR.mono hb7.size)
     have HR:=hid hR
     have HBR:=hid (HB7.out.trans (hbR.mono HB7.out.size))
     have HRR1:=hid (HRQ.out.below hbQR HRQ.out.lt)
     have HRR2:=hid (show ae R w7.heap.size 0 28 [.string (aa m.name),.int .i64 (m.kind:Nat),.int .i64 (m.at_:Nat),.int .i64 (m.size:Nat),.int .i64 m.val,.string (aa m.text),.slice g7 nl cc7] by rw[hR];exact ae.new w7 _ _)
     have HNR1:=hid (HNQ.out.al (w':=R) fun b hb=>hbQR.block b (HNQ.out.mem b hb).2)
     have HNR2:=hid (hnd7.al (w':=R) fun b hb=>hbR.block b (hnd7.mem b hb).2)
     clear hb7 hnd7 hnp7 hR hbR hnl hbQR
     go_wp2_with fail
     rw[← HR.out]
     refine(HRW.out R HBR.out).mono ?_
     rintro e w8 ⟨hb8,rfl⟩
     have HB8:=hid (HBR.out.trans (hb8.mono HBR.out.size))
     have h81:=HRR1.out.below hb8 HRR1.out.lt
     have h82:=HRR2.out.below hb8 HRR2.out.lt
     have hn1:=HNR1.out.al (w':=w8) fun b hb=>hb8.block b (HNR1.out.mem b hb).2
     have hn2:=HNR2.out.al (w':=w8) fun b hb=>hb8.block b (HNR2.out.mem b hb).2
     have hsh:=yF d m HTO.out w8 _ _ _ _ _ _ hn1 hn2
     rw[HSD.out]at hsh
     have HSH:=hid hsh
     have c0:=h81.cell0 0 (by simp)
     have c1:=h81.cell0 1 (by simp)
     have c2:=h81.cell0 2 (by simp)
     have c3:=h81.cell0 3 (by simp)
     have c4:=h81.cell0 4 (by simp)
     have c5:=h81.cell0 5 (by simp)
     have c6:=h81.cell0 6 (by simp)
     simp only[Z0,Z1]at c0 c1 c2 c3 c4 c5 c6
     have z0:=h82.cell0 0 (by simp)
     have z1:=h82.cell0 1 (by simp)
     have z2:=h82.cell0 2 (by simp)
     have z3:=h82.cell0 3 (by simp)
     have z4:=h82.cell0 4 (by simp)
     have z5:=h82.cell0 5 (by simp)
     have z6:=h82.cell0 6 (by simp)
     simp only[Z0,Z1]at z0 z1 z2 z3 z4 z5 z6
     obtain⟨bb,hbb⟩:∃bb,bb=decide (u=s):=⟨_,rfl⟩
     rw[← hbb]
     have y1:(u==s)=bb:=by rw[hbb,Bool.eq_iff_iff,beq_iff_eq,decide_eq_true_iff]
     have y2:decide (u=s)=bb:=hbb.symm
     have y3:(bb==bb)=true:=beq_self_eq_true bb
     clear hb8 h81 h82 hn1 hn2 hsh hbb
     go_wp2_with fail
     refine HSH.out.mono ?_
     rintro e w9 ⟨rfl,hb9⟩
     have HB9:=hid (HB8.out.trans (hb9.mono HB8.out.size))
     clear hb9
     go_wp2_with fail
     go_ret
     exact⟨rfl,HB2.out.trans (HB9.out.mono HB2.out.size)⟩
theorem qK(a0 a1 a2:ByteArray)(h0:a0.size≤140737488351232)(h1:a1.size≤140737488351232)(h2:a2.size≤140737488351232)(w:World)(hB:jY w):Calls Tryz.prog 4 #[.string a0,.string a1,.string a2] w fun e w'=>e= .returned (.bool true)∧Below w.heap.size w w':=by
 obtain⟨l,rfl⟩:∃l,a0=aa l:=⟨_,jz a0⟩
 obtain⟨m,rfl⟩:∃m,a1=aa m:=⟨_,jz a1⟩
 obtain⟨k,rfl⟩:∃k,a2=aa k:=⟨_,jz a2⟩
 rw[aq]at h1
 exact wk l m k (by omega) w hB
end
end Go.Proofs.YtlomecfhobehnaaGreatDoor
