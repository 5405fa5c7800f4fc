/- The law FixDrops: called with any arguments it returns true, and each argument reads afterwards as it read before. No condition. -/
import Derived.ProofKit
import Derived.Test.YtlomecfhobehnaaGreatDoorCards
import Derived.Test.YtlomecfhobehnaaGreatDoorTie
import Derived.ShutString
import Derived.Test.YtlomecfhobehnaaGreatDoorMgFixDrops36
set_option linter.all false
set_option maxRecDepth 100000
set_option maxHeartbeats 4000000
namespace Go.Proofs.YtlomecfhobehnaaGreatDoor
open Lib (hid)
section
open Go Go.RowKit
open Rd
open Ly
theorem rM{tys:List Tm.Ty}{root u:Tm.Wd}{d:Nd}(hF:∀t∈tys.reverse,Tm.bg t)(hd:(Fx.wrT tys.reverse root d).isSome=true)(h:Fx.bH Fx.bE tys.reverse root d= .ok u):
  ∃m,aw tys root u=some m∧jc tys root u m=true∧Fx.bH Fx.bE tys.reverse root m= .ok u∧u.length≤4000∧Fx.shp m.kids=Fx.shp d.kids∧m.name=d.name∧m.kind=d.kind∧m.text=d.text∧m.val=d.val:=by
 have hP:=Fx.mL.1 h;obtain⟨m,q,h1,h2,h3,h4,h5⟩:=Fx.zY hF hd hP;obtain⟨p,g1,g2,g3,m',g4,g5⟩:=hP;rw[h1]at g4;injection g4 with g4
 subst g4;refine⟨m,h1,?_,Fx.mL.2 h4,g3,h5,?_,?_,?_,?_⟩
 ·unfold jc;rw[h2];simp only[];rw[h3,beq_self_eq_true]
 ·have h9:=congrArg Nd.name g5;exact h9
 ·have h9:=congrArg Nd.kind g5;exact h9
 ·have h9:=congrArg Nd.text g5;exact h9
 ·have h9:=congrArg Nd.val g5;exact h9
theorem Ee{tys:List Tm.Ty}{root u s:Tm.Wd}{d:Nd}(h:Fx.bH Fx.bE tys.reverse root d= .ok u):jc tys root s d=decide (u=s):=by
 obtain⟨p,g1,g2,g3,m',g4,g5⟩:=Fx.mL.1 h;unfold jc;rw[g1];simp only[];rw[g2]
 by_cases hus:u=s
 ·rw[hus,Z9 rfl,beq_self_eq_true]
 ·rw[Y9 hus,Z8];intro h8;injection h8 with h8
  exact hus h8
theorem Az{w:World}{g:Nat}(h:ae w g 0 3 [.int .i64 2,.int .i64 1,.int .i64 1]):iH w (some ⟨g,0,none⟩) [2,1,1]:=by
 refine .inr ⟨g,0,rfl,fun i hi=> ?_⟩;have:=h.cell i hi
 match i,hi with
 |0,_=>exact this
 |1,_=>exact this
 |2,_=>exact this
theorem tV{q:List Nat}(h:([2,1,1]:List Int)=bf q):q=[2,1,1]:=by
 unfold bf at h
 match q,h with
 |[a,b,c],h=>
  simp only[List.map_cons,List.map_nil,List.cons.injEq,and_true]at h;obtain⟨h1,h2,h3⟩:=h;rw[show a=2 by omega,show b=1 by omega,show c=1 by omega]
 |[],h=>simp at h
 |[a],h=>simp at h
 |[a,b],h=>simp at h
 |a::b::c::e::r,h=>simp at h
theorem Ef(w:World)(hB:ll w):Calls Tryz.prog 11 #[] w fun e w'=>e= .returned (.bool true)∧Below w.heap.size w w':=by
 have HBX:=hid (Dr w hB);clear hB;go_enter Tryz.func11,Tryz.ntmps11;go_wp2_with fail;refine HBX.out.mono ?_;rintro e w1 ⟨hb1,tys,a,cap,vs,hsame,hm,rfl⟩;have hbl:(Tm.cY Tm.ca).length≤3000:=by rw[Tm.po];omega
 have hchk:Tm.chk [] tys=none:=by rw[Tm.wo hsame Tm.jF];exact Tm.Bh
 have hlen:tys.length=2:=by
  have:∀{l m:List Tm.Ty},Tm.cy l m→l.length=m.length:=by
   intro l m h
   induction h with
   |nil=>rfl
   |cons _ _ ih=>simp[ih]
  exact(this hsame).symm
 have hT:=TyF.of hm hbl hchk;have hrl:eS.length≤200000000000000:=by decide
 have hlay:=Aw hsame;have hsd:=Fx.yz hsame;have hwd:(Fx.wrT tys.reverse eS fx).isSome=true:=by
  have:=yw hsame (fun t ht=>(hT.eE t ht).1);unfold Fx.wrT;rw[this];rfl
 obtain⟨m0,hm0,hrt0,_,_,_⟩:=rM hT.rk hwd hsd;have HDN:Hid (∀X,Below w1.heap.size w1 X→Calls Tryz.prog 12 #[.slice a 2 cap,.string (aa eS),.string (aa cG)] X fun e w'=>Below X.heap.size X w'∧e= .returned (.tuple #[.string (aa Fx.u0),.nilIface])):=hid (fun X hX=>by
  have h1:=yj tys eS cG X w.heap.size cap a vs (hT.up hX) hrl (by decide);rw[hlen,hlay]at h1;unfold BH at h1;simp only[]at h1;rw[hsd]at h1;exact h1)
 have HR1:Hid (∀X,Below w1.heap.size w1 X→Calls Tryz.prog 13 #[.slice a 2 cap,.string (aa eS),.string (aa Fx.u0)] X fun e w'=>Below X.heap.size X w'∧e= .returned (.tuple #[.bool true,.nilIface])):=hid (fun X hX=>by
  have h1:=rn tys eS Fx.u0 X w.heap.size cap a vs (hT.up hX) hrl (by decide);rw[hlen,hm0]at h1;unfold An at h1;simp only[]at h1;rw[hrt0]at h1;exact h1)
 have HR2:Hid (∀X,Below w1.heap.size w1 X→Calls Tryz.prog 13 #[.slice a 2 cap,.string (aa eS),.string (aa cG)] X fun e w'=>Below X.heap.size X w'∧e= .returned (.tuple #[.bool false,.nilIface])):=hid (fun X hX=>by
  have h1:=rn tys eS cG X w.heap.size cap a vs (hT.up hX) hrl (by decide);rw[hlen,hlay]at h1;unfold An at h1;simp only[]at h1;rw[Ee hsd,show decide (Fx.u0=cG)=false from by decide]at h1;exact h1)
 have HFI:Hid (∀X g,Below w1.heap.size w1 X→ae X g 0 3 [.int .i64 2,.int .i64 1,.int .i64 1]→Calls Tryz.prog 16 #[.slice a 2 cap,.string (aa eS),.string (aa cG),.slice (some ⟨g,0,none⟩) 3 3,.string (aa [97,98,99])] X fun e w'=>Below X.heap.size X w'∧e= .returned (.tuple #[.string (aa Fx.u1),.nilIface])):=hid (fun X g hX hrow=>by
  have h1:=GC X w.heap.size cap 3 tys a (some ⟨g,0,none⟩) vs eS cG [97,98,99] [2,1,1] (hT.up hX) hrl (by decide) (by decide) (fun Y hY=>(Az (hrow.below hY hrow.lt)).rd) (by decide) (by decide);rw[hlen,hlay]at h1;refine(show Calls Tryz.prog 16 #[.slice a 2 cap,.string (aa eS),.string (aa cG),.slice (some ⟨g,0,none⟩) 3 3,.string (aa [97,98,99])] X _ from h1).mono ?_;rintro e w' ⟨hb,h2⟩;refine⟨hb,?_⟩;obtain⟨x0,hx0,hxk⟩:=Fx.Ed;rcases h2 with⟨hno,_⟩|⟨q,x,hq,hqn,hgx,⟨k,⟨hk2,_⟩,_⟩|⟨d',⟨_,hd',_⟩,_,he⟩⟩
  ·rcases hno [2,1,1] rfl with h3|h3
   ·cases h3
   ·rw[hx0]at h3;cases h3
  ·have:=tV hq;subst this;rw[hx0]at hgx;cases hgx;exact absurd hxk hk2
  ·have:=tV hq;subst this;have hdd:d'=Fx.filled:=hd';rw[hdd,Fx.yA hsame]at he;exact he)
 have HB1:=hid hb1;clear hb1 hsame hm hbl hchk hlen hT hrl hlay hsd hwd hm0 hrt0 HBX;have e3:aa eS={data:= #[98,111,120]}:=rfl;rw[e3]at HDN HR1 HR2 HFI;have e4:aa [97,98,99]={data:= #[97,98,99]}:=rfl;rw[e4]at HFI;clear e3 e4;go_wp2_with fail;refine(gH _).mono ?_;rintro e w9 ⟨rfl,rfl⟩;go_wp2_with fail;refine(HDN.out w1 (Y4 _ _)).mono ?_;rintro e w2 ⟨hb2,rfl⟩;have HB2:=hid hb2;clear hb2;go_wp2_with fail;refine(HR1.out w2 HB2.out).mono ?_;rintro e w3 ⟨hb3,rfl⟩;have HB3:=hid (HB2.out.trans (hb3.mono HB2.out.size));clear hb3;go_wp2_with fail;refine(gH _).mono ?_;rintro e w9 ⟨rfl,rfl⟩;go_wp2_with fail;refine(HR2.out w3 HB3.out).mono ?_;rintro e w4 ⟨hb4,rfl⟩;have HB4:=hid (HB3.out.trans (hb4.mono HB3.out.size));clear hb4;go_wp2_with fail;refine(gH _).mono ?_;rintro e w9 ⟨rfl,rfl⟩;obtain⟨V,hV⟩:∃V,V=w4.alloc (.cells #[.int .i64 2,.int .i64 1,.int .i64 1] 3):=⟨_,rfl⟩;have hbV:Below w4.heap.size w4 V:=by rw[hV];exact(Y4 _ _).alloc (Z5 _) _
 have hrV:ae V w4.heap.size 0 3 [.int .i64 2,.int .i64 1,.int .i64 1]:=by rw[hV];exact ae.new w4 _ _
 have HV:=hid hV;have HBV:=hid (HB4.out.trans (hbV.mono HB4.out.size));have HRV:=hid hrV;clear hV hbV hrV;go_wp2_with fail;rw[← HV.out];refine(HFI.out V w4.heap.size HBV.out HRV.out).mono ?_;rintro e w5 ⟨hb5,rfl⟩;have HB5:=hid (HBV.out.trans (hb5.mono HBV.out.size));clear hb5;have x1:(Fx.u0==cG)=false:=by decide
 have x2:decide (Fx.u0=cG)=false:=by decide
 have l0:Fx.u0.length=12:=rfl;have l1:cG.length=12:=rfl;have l2:Fx.u1.length=15:=rfl;go_wp2_with fail;refine(gH _).mono ?_;rintro e w9 ⟨rfl,rfl⟩;go_wp2_with fail;refine(gH _).mono ?_;rintro e w9 ⟨rfl,rfl⟩;go_wp2_with fail;go_ret;refine⟨?_,HB1.out.trans (HB5.out.mono HB1.out.size)⟩
 first|rfl|kernel_rfl
namespace Fx
theorem GI{X Y:Nds}{k:Nat}{x:Nd}(h:shp X=shp Y)(hx:nth k X=some x):∃y,nth k Y=some y∧y.kind=x.kind∧shp y.kids=shp x.kids:=by
 have h1:=Bx X Y k h;rw[hx]at h1;simp only[Option.map_some]at h1;obtain⟨y,h2,h3⟩:=Option.map_eq_some_iff.1 h1.symm;injection h3 with h4 h5
 injection h5 with h5 h6
 injection h6 with h6 h7
 injection h7 with h7 h8
 exact⟨y,h2,h5,h7⟩
theorem tW:∀(p:List Nat) (d m x:Nd),d.kind=m.kind→shp d.kids=shp m.kids→bX p d=some x→∃y,bX p m=some y∧y.kind=x.kind∧shp y.kids=shp x.kids
 |[],d,m,x,hk,hs,h=>by cases h;exact⟨m,rfl,hk.symm,hs.symm⟩
 |k::p,d,m,x,hk,hs,h=>by
  have h2:(nth k d.kids).bind (bX p)=some x:=h;obtain⟨z,h3,h4⟩:=Option.bind_eq_some_iff.1 h2;obtain⟨z',h5,h6,h7⟩:=GI hs h3;obtain⟨y,h8,h9⟩:=tW p z z' x h6.symm h7.symm h4;refine⟨y,?_,h9⟩;show(nth k m.kids).bind (bX p)=some y;rw[h5];exact h8
theorem AA:∀(k:Nat) (X:Nds),k < X.len→∃x,nth k X=some x
 |k,.nil,h=>absurd h (Nat.not_lt_zero _)
 |0,.cons a b c d e f g r,_=>⟨_,rfl⟩
 |k+1,.cons a b c d e f g r,h=>AA k r (by simp only[Nds.len]at h;omega)
theorem pE:∀(k:Nat) (X:Nds) (x:Nd),nth k X=some x→k < X.len
 |k,.nil,x,h=>by cases k <;> cases h
 |0,.cons a b c d e f g r,x,_=>Nat.succ_pos _
 |k+1,.cons a b c d e f g r,x,h=>Nat.succ_lt_succ (pE k r x h)
theorem BN:∀(k:Nat) (X:Nds),k < X.len→(dK k X).len=X.len+1
 |k,.nil,h=>absurd h (Nat.not_lt_zero _)
 |0,.cons a b c d e f g r,_=>rfl
 |k+1,.cons a b c d e f g r,h=>by
  simp only[Nds.len]at h;simp only[dK,Nds.len,BN k r (by omega)]
theorem AB{d m y x:Nd}{q':List Nat}{j:Nat}(hk3:d.kind=3)(hm3:m.kind=3)(hy:bX q' d=some y)(hy9:y.kind=9)(hx:nth j y.kids=some x)(hs:shp m.kids=shp (bP (dK j) q' 3 d.kids)):
  (∃a,bX (q'++[j]) m=some a)∧(∃b,bX (q'++[j+1]) m=some b)∧∃z,bX q' m=some z∧z.kind=9:=by
 have e:=oz (dK j) q' d y hy hy9;rw[hk3]at e;have g1:=tJ (fun _=>({y with kids:=dK j y.kids}:Nd)) q' d;rw[hy,e]at g1;simp only[Option.map_some]at g1;obtain⟨z,h1,h2,h3⟩:=tW q' _ m _ hm3.symm hs.symm g1;have hlen:z.kids.len=y.kids.len+1:=by
  rw[← uY z.kids,h3,uY];exact BN j y.kids (pE j y.kids x hx)
 have hj:=pE j y.kids x hx;refine⟨?_,?_,z,h1,h2.trans hy9⟩
 ·obtain⟨a,ha⟩:=AA j z.kids (by omega);exact⟨a,by rw[fW j q' m z h1];exact ha⟩
 ·obtain⟨a,ha⟩:=AA (j+1) z.kids (by omega);exact⟨a,by rw[fW (j+1) q' m z h1];exact ha⟩
end Fx
theorem rN{p q:List Nat}(h:bf p=bf q):p=q:=by
 unfold bf at h;exact(List.map_inj_right (f:=fun(k:Nat)=>(k:Int)) (fun a b (e:(a:Int)=(b:Int))=>by omega)).1 h
def dnE:Fx.Dn→Ending:=fun r=>match r with
 | .ok u=> .returned (.tuple #[.string (aa u),.nilIface])
 | .bad k=> .returned (.tuple #[.string {data:= #[]},.iface 48 (.int .i64 (DV k))])
theorem GJ{w w':World}{tys:List Tm.Ty}{root u:Tm.Wd}{d m y x:Nd}{q':List Nat}{j k:Nat}{e:Ending}(hF:∀t∈tys.reverse,Tm.bg t)(hd:(Fx.wrT tys.reverse root d).isSome=true)(hy:Fx.bX q' d=some y)(hy9:y.kind=9)(hx:Fx.nth j y.kids=some x)(hk:k=j∨k=j+1)
  (hu:Fx.bH Fx.bE tys.reverse root {d with kids:=Fx.bP (Fx.dK j) q' 3 d.kids}= .ok u)(hw:(Fx.wrT tys.reverse root {d with kids:=Fx.bP (Fx.dK j) q' 3 d.kids}).isSome=true)(hm:aw tys root u=some m)(hsh:Fx.shp m.kids=Fx.shp (Fx.bP (Fx.dK j) q' 3 d.kids))(hmk:m.kind=d.kind)
  (h:eI w tys root (bf (q'++[k])) (some m) dB (eW Fx.dJ) e w'):Below w.heap.size w w'∧e=dnE (Fx.bH Fx.bE tys.reverse root d):=by
 have hk3:d.kind=3:=(Fx.cC hd).2.2;obtain⟨b1,b2,z,z1,z2⟩:=Fx.AB hk3 (hmk.trans hk3) hy hy9 hx hsh;have hb:∃c,Fx.bX (q'++[k]) m=some c:=by
  rcases hk with rfl|rfl
  ·exact b1
  ·exact b2
 obtain⟨c,hc⟩:=hb;obtain⟨h1,h2⟩:=h;refine⟨h1,?_⟩;rcases h2 with⟨hno,_⟩|⟨q,x2,hq,hq0,hx2,⟨kk,⟨_,qa,ja,ya,hqa,hya,hy9a⟩,_⟩|⟨d2,⟨qa,ja,ya,hqa,hya,hy9a,hna,rfl⟩,hw2,he⟩⟩
 ·exfalso;rcases hno (q'++[k]) rfl with h3|h3
  ·simp at h3
  ·rw[hc]at h3;cases h3
 ·exfalso;have e1:=rN hq;rw[hqa]at e1;obtain⟨e2,e3⟩:=List.append_inj' e1 rfl;subst e2;rw[z1]at hya;injection hya with hya
  exact hy9a (by rw[← hya];exact z2)
 ·have e1:=rN hq;rw[hqa]at e1;obtain⟨e2,e3⟩:=List.append_inj' e1 rfl;injection e3 with e3
  subst e2 e3;have h5:=Fx.DF hF hd q' j k hk hu hm;rw[h5.2]at he;rw[he];unfold dnE;cases Fx.bH Fx.bE tys.reverse root d <;> rfl
theorem GK:(Tryz.prog.info? 3).map (fun i=>(i.zero,i.size,i.bytes))=some (some (.int .i64 0),1,8):=by kernel_rfl
theorem AD(w:World)(n cap:Nat)(x:Addr)(ps:List Int)(hr:RdI w (some x) ps)(hl:ps.length=n)(hc:n≤cap)(hn:n≤100000):
  Calls Tryz.prog 19 #[.slice (some x) n cap] w fun e w'=>Below w.heap.size w w'∧∃a' cap',e= .returned (.slice a' n cap')∧ak w' w.heap.size 3 1 a' n cap' (cO ps):=by
 have hb:∀V,Sem.run Tryz.prog (binOp .eql 40 (.slice (some x) n cap) (.slice none 0 0)) V= .ok (.bool false) V:=fun V=>by kernel_rfl
 have HB:=hid hb;have hrc:uF (w.alloc (.cells #[] 3)) (some x) n cap 1 (cO ps):=by
  refine⟨by rw[fF,hl,Nat.mul_one],fun u hu=> ?_,(fun h=>by cases h),fun y hy j u hj=> ?_⟩
  ·unfold cO at hu;obtain⟨z,_,rfl⟩:=List.mem_map.1 hu;rfl
  ·cases hy;have hjl:j < (cO ps).length:=(List.getElem?_eq_some_iff.1 hj).1;rw[Y1 hjl]at hj;rw[fF]at hjl;obtain⟨x',h1,h2,h3⟩:=hr j hjl;cases h1;rw[World.cell?_of_block (w:=w) (w':=w.alloc (.cells #[] 3)) (Below.heap_alloc _ _ _ (by rw[Addr.cH];exact h2)),h3,← hj,sD]
 have HRC:=hid hrc;have HN:=hid hn;clear hb hrc hr hl;go_enter Tryz.func19,Tryz.ntmps19;go_wp2_with fail;rw[HB.out];have ho0:ak (w.alloc (.cells #[] 3)) w.heap.size 3 1 (some ⟨w.heap.size,0,none⟩) 0 0 []:=ak.nA (n:=0) (cap:=0) (size:=1) (xs:=[]) rfl (w.alloc (.cells #[] 3)) w.heap.size #[] (Z5 _) (heap_alloc_new w _) rfl (Z5 _) (by decide) rfl;have HOO:=hid ho0;have HSM:=hid (show 0+n≤maxLen∧(0+n) * 8≤140737488355328 from⟨by have:=HN.out;show 0+n≤9223372036854775807;omega,by have:=HN.out;omega⟩);clear ho0;go_wp2_with (refine jB _ (by rfl) _ _ 40 (by rfl) w.heap.size 3 _ 1 8 (by rfl) GK rfl (by decide) (some ⟨w.heap.size,0,none⟩) 0 0 [] (by rfl) HOO.out (some x) n cap (cO ps) (by rfl) HRC.out HSM.out.1 HSM.out.2 (by simp) ?_;intro a4 c4 w4 ho4 hg4 hb4 hl4);go_ret;exact⟨((Y4 _ _).alloc (Z5 _) _).trans (hb4.mono (Z5 _)),a4,c4,rfl,by rw[Nat.zero_add]at ho4;simpa using ho4⟩
theorem eI.KG{w w':World}{tys:List Tm.Ty}{root:Tm.Wd}{ps:List Int}{o:Option Nd}{E:List Nat→Nd→Nd→Int→Prop}{O:List Nat→Nd→Nd→Nd→Prop}{e:Ending}(h:eI w tys root ps o E O e w'):Below w.heap.size w w'∧((∃u t v,e= .returned (.tuple #[.string u,.iface t v]))∨
  ∃d q x d' u,o=some d∧ps=bf q∧q≠[]∧Fx.bX q d=some x∧O q d x d'∧(Fx.wrT tys.reverse root d').isSome=true∧Fx.bH Fx.bE tys.reverse root d'= .ok u∧e= .returned (.tuple #[.string (aa u),.nilIface])):=by
 obtain⟨h1,h2⟩:=h;refine⟨h1,?_⟩;cases o with
 |none=>obtain⟨t,v,rfl⟩:=h2;exact .inl ⟨_,_,_,rfl⟩
 |some d=>
  rcases h2 with⟨_,rfl⟩|⟨q,x,hq,hq0,hx,⟨k,_,rfl⟩|⟨d',hO,hw,he⟩⟩
  ·exact .inl ⟨_,_,_,rfl⟩
  ·exact .inl ⟨_,_,_,rfl⟩
  ·cases hd:Fx.bH Fx.bE tys.reverse root d' with
   |bad k=>rw[hd]at he;exact .inl ⟨_,_,_,he⟩
   |ok u=>rw[hd]at he;exact .inr ⟨d,q,x,d',u,rfl,hq,hq0,hx,hO,hw,hd,he⟩
theorem yB(t root s:List UInt8)(pa:Option Addr)(pc:Nat)(ps:List Int)(hr:root.length≤200000000000000)(hpc:ps.length≤pc)(hpm:pc≤140737488351232)(hsm:s.length≤140737488351232)(w:World)(hB:ll w)(hps:∀X,Below w.heap.size w X→RdI X pa ps):Calls Tryz.prog 6 #[.string (aa t),.string (aa root),.string (aa s),.slice pa ps.length pc] w fun e w'=>e= .returned (.bool true)∧Below w.heap.size w w':=by
 have HFX:=hid (Ef w hB);have HB:=hid hB;have HPS:=hid hps;have HPC:=hid hpc;obtain⟨pn,hpn⟩:∃pn,pn=ps.length:=⟨_,rfl⟩;have HPN:=hid hpn;rw[← hpn]at hpc⊢;clear hB hps hpn;go_enter Tryz.func6,Tryz.ntmps6;go_wp2_with fail;refine HFX.out.mono ?_;rintro e w1 ⟨rfl,hb1⟩;have HB1:=hid hb1;have HRI:=hid (Ea t w1 (HB.out.up HB1.out));clear hb1 HFX;go_wp2_with fail;refine HRI.out.mono ?_;unfold nj;rintro e w2 ⟨hb2,⟨a0,n0,c0,rfl⟩|⟨s2,tys,a,cap,vs,hs2,hm,hchk,rfl⟩⟩
 ·have HB2:=hid (HB1.out.trans (hb2.mono HB1.out.size));clear hb2 HRI;go_wp2_with fail;go_ret;exact⟨rfl,HB2.out⟩
 have HB2:=hid (HB1.out.trans (hb2.mono HB1.out.size))
 by_cases hs6:600 < s.length
 ·have qs1:decide ((600:Int) < (s.length:Int))=true:=Z9 (by omega);have qs2:decide (600 < s.length)=true:=Z9 hs6;clear hb2 HRI hm hchk;go_wp2_with fail;go_ret;exact⟨rfl,HB2.out⟩
 have qs1:decide ((600:Int) < (s.length:Int))=false:=Y9 (by omega);have qs2:decide (600 < s.length)=false:=Y9 hs6
 by_cases hp12:12 < pn
 ·have qp1:decide ((12:Int) < (pn:Int))=true:=Z9 (by omega);have qp2:decide (12 < pn)=true:=Z9 hp12;clear hb2 HRI hm hchk;go_wp2_with fail;go_ret;exact⟨rfl,HB2.out⟩
 have qp1:decide ((12:Int) < (pn:Int))=false:=Y9 (by omega);have qp2:decide (12 < pn)=false:=Y9 hp12;have hT:=TyF.of hm hs2 hchk;obtain⟨n,hn⟩:∃n,n=tys.length:=⟨_,rfl⟩;have hs4:s.length≤4000:=by omega
 have HDB:=hid (At w2 w1.heap.size cap pc tys a pa vs root s ps hT hr hs4 (fun X hX=>HPS.out X (HB2.out.trans (hX.mono HB2.out.size))) (by rw[← HPN.out];omega) HPC.out);have HDR:Hid (∀X (u:Tm.Wd) (m:Nd) (qa:Option Addr) (qc:Nat) (qs:List Int),Below w2.heap.size w2 X→u.length≤4000→aw tys root u=some m→(∀Y,Below X.heap.size X Y→RdI Y qa qs)→qs.length=pn→pn≤qc→Calls Tryz.prog 20 #[.slice a n cap,.string (aa root),.string (aa u),.slice qa pn qc] X (eI X tys root qs (some m) dB (eW Fx.dJ))):=hid (fun X u m qa qc qs hX hu hm hq hl hc=>by
  have h1:=GD X w1.heap.size cap qc tys a qa vs root u qs (hT.up hX) hr hu hq (by omega) (by omega);rw[hm,← hn,hl]at h1;exact h1)
 have HDN:Hid (∀X,Below w2.heap.size w2 X→Calls Tryz.prog 12 #[.slice a n cap,.string (aa root),.string (aa s)] X (BH X tys root (aw tys root s))):=hid (fun X hX=>by
  rw[hn];exact yj tys root s X w1.heap.size cap a vs (hT.up hX) hr hs4)
 have HFR:=hid hT.rk;have HRF:Hid (∀d,aw tys root s=some d→(Fx.wrT tys.reverse root d).isSome=true):=hid (fun d hd=>by
  obtain⟨d1,d2,d3⟩:=dL hT hs4 hd;unfold Fx.wrT;rw[d3];rfl)
 have HJB:Hid (∀(d y x:Nd) (q':List Nat) (j:Nat),aw tys root s=some d→Fx.bX q' d=some y→Fx.nth j y.kids=some x→j≤8000):=hid (fun d y x q' j hd hy hx=>by
  have h1:=(dL hT hs4 hd).2.1;have h2:=Fx.jT q' d y hy;have h3:=Fx.pE j y.kids x hx;have h4:=fR y.kids;have h5:y.tot=y.text.length+8+y.kids.tot:=rfl;omega)
 rw[← hn,← HPN.out]at HDB;rw[← hn];clear hb2 HRI hm hchk hT hn hs4;go_wp2_with fail;refine HDB.out.mono ?_;intro e w3 hc3;obtain⟨hb3,h3⟩:=hc3.KG;have HB3:=hid (HB2.out.trans (hb3.mono HB2.out.size));have HW3:=hid hb3;clear hc3 hb3 HDB;rcases h3 with⟨ua,ta,va,rfl⟩|⟨d,q,x,d',u,ha1,ha2,ha3,ha4,⟨q',j,y,hqj,hy,hy9,hnx,rfl⟩,ha6,ha7,rfl⟩
 ·go_wp2_with fail;go_ret;exact⟨rfl,HB3.out⟩
 obtain⟨m,g1,g2,g3,g4,g5,g6,g7,g8,g9⟩:=rM HFR.out ha6 ha7;have hwd:=HRF.out d ha1;have hj8:=HJB.out d y _ q' j ha1 hy hnx;rw[ha1]at HDN;have HOUT:Hid (∀(k:Nat) (X X':World) (e:Ending),(k=j∨k=j+1)→eI X tys root (bf (q'++[k])) (some m) dB (eW Fx.dJ) e X'→Below X.heap.size X X'∧e=dnE (Fx.bH Fx.bE tys.reverse root d)):=hid (fun k X X' e hk h=>GJ HFR.out hwd hy hy9 hnx hk ha7 ha6 g1 g5 g7 h);obtain⟨pm,hpm1⟩:∃pm,pm=q'.length:=⟨_,rfl⟩;have hpsq:ps=bf (q'++[j]):=by rw[ha2,hqj]
 have hpl:pn=pm+1:=by rw[HPN.out,hpsq];unfold bf;rw[List.length_map,Z7,hpm1];rfl
 obtain⟨px,hpx⟩:∃px,pa=some px:=by
  obtain⟨x1,h1,_⟩:=HPS.out w (Y4 _ _) 0 (by rw[← HPN.out];omega);exact⟨x1,h1⟩
 subst hpx;have HCL:=hid (AD w3 pn pc px ps (HPS.out w3 HB3.out) HPN.out.symm hpc (by omega));have HD1:Hid (∀X,Below w3.heap.size w3 X→Calls Tryz.prog 20 #[.slice a n cap,.string (aa root),.string (aa u),.slice (some px) pn pc] X (eI X tys root (bf (q'++[j])) (some m) dB (eW Fx.dJ))):=hid (fun X hX=>by
  have h1:=HDR.out X u m (some px) pc ps (HW3.out.trans (hX.mono HW3.out.size)) g4 g1 (fun Y hY=>HPS.out Y (HB3.out.trans ((hX.trans (hY.mono hX.size)).mono HB3.out.size))) HPN.out.symm (by rw[HPN.out];exact HPC.out);rw[hpsq]at h1;exact h1)
 have HD2:Hid (∀X (qa:Option Addr) (qc:Nat),Below w3.heap.size w3 X→(∀Y,Below X.heap.size X Y→RdI Y qa (bf (q'++[j+1])))→pn≤qc→Calls Tryz.prog 20 #[.slice a n cap,.string (aa root),.string (aa u),.slice qa pn qc] X (eI X tys root (bf (q'++[j+1])) (some m) dB (eW Fx.dJ))):=hid (fun X qa qc hX hq hc=>HDR.out X u m qa qc _ (HW3.out.trans (hX.mono HW3.out.size)) g4 g1 hq (by rw[hpl];unfold bf;rw[List.length_map,Z7,hpm1];rfl) hc);have HD3:Hid (∀X,Below w3.heap.size w3 X→Calls Tryz.prog 12 #[.slice a n cap,.string (aa root),.string (aa s)] X fun e w'=>Below X.heap.size X w'∧e=dnE (Fx.bH Fx.bE tys.reverse root d)):=hid (fun X hX=>(HDN.out X (HW3.out.trans (hX.mono HW3.out.size))).mono fun e w' h=>⟨h.1,by
  have h2:=h.2;simp only[]at h2;unfold dnE;cases hR:Fx.bH Fx.bE tys.reverse root d with
  |ok v=>rw[hR]at h2;exact h2
  |bad k=>rw[hR]at h2;exact h2⟩)
 have HPL:=hid hpl;have HPSQ:=hid hpsq;have HPM:=hid hpm1;have hpn1:1≤pn:=by omega
 have hpn13:pn≤12:=by omega
 clear ha1 ha2 ha3 ha4 hqj hy hy9 hnx ha6 ha7 g1 g2 g3 g4 g5 g6 g7 g8 g9 hwd hpsq hpl hpm1 HDR HDN HRF HJB;go_wp2_with fail;refine HCL.out.mono ?_;rintro e w4 ⟨hb4,ac,cc,rfl,ho4⟩;obtain⟨g,rfl⟩:∃g,ac=some ⟨g,0,none⟩:=by
  cases ac with
  |none=>have:=ho4.aS.1;omega
  |some x=>exact⟨x.block,by rw[ho4.row.1]⟩
 have hpml:pm < ps.length:=by rw[← HPN.out,HPL.out];omega
 have hgd:ps.getD pm 0=(j:Int):=by rw[HPSQ.out,HPM.out];have:=lQ q' j;rw[Z7,List.length_singleton,Nat.add_sub_cancel]at this;exact this
 have hcell:=ho4.int pm hpml;rw[hgd]at hcell;have hfz:=ho4.row.2.2.2.2.frozen0 pm (by rw[fF];exact hpml);have hset:=ho4.set pm (by rw[fF];exact hpml) (.int .i64 ((j:Int)+1));rw[BT,show ps.set pm ((j:Int)+1)=bf (q'++[j+1]) by rw[HPSQ.out,HPM.out];unfold bf;rw[List.map_append,List.map_append];simp]at hset;have hb5:Below w3.heap.size w3 (w4.setCell ⟨g,pm,none⟩ (.int .i64 ((j:Int)+1))):=hb4.setCell (p:=⟨g,pm,none⟩) ho4.lt.1 _;have HB5:=hid hb5;have HSET:=hid hset;have hcc:pn≤cc:=ho4.row.2.2.1;have r2:(pn:Int) - 1=(pm:Int):=by rw[HPL.out];omega
 have r1:wrap64 (pm:Int)=(pm:Int):=IntWalk.wrap64_in _ ⟨by omega,by have:=HPL.out;omega⟩;have r4:(pm:Int) < (pn:Int):=by rw[HPL.out];omega
 have r5:pm < pn:=by rw[HPL.out];omega
 have r6:wrap64 ((j:Int)+1)=(j:Int)+1:=IntWalk.wrap64_in _ ⟨by omega,by omega⟩;clear hb4 ho4 hset hb5 hgd hpml;go_wp2_with fail;generalize w4.setCell ⟨g,pm,none⟩ (.int .i64 ((j:Int)+1))=w5 at HB5 HSET⊢;obtain⟨R,hR⟩:∃R,R=Fx.bH Fx.bE tys.reverse root d:=⟨_,rfl⟩;rw[← hR]at HOUT HD3;clear hR hcell hfz;refine(HD1.out w5 HB5.out).mono ?_;intro e w6 h6;obtain⟨hb6,rfl⟩:=HOUT.out j _ _ e (.inl rfl) h6;have HB6:=hid (HB5.out.trans (hb6.mono HB5.out.size));have HQ6:Hid (∀Y,Below w6.heap.size w6 Y→RdI Y (some ⟨g,0,none⟩) (bf (q'++[j+1]))):=hid (fun Y hY=>by
  have h1:=HSET.out.below (hb6.trans (hY.mono hb6.size)) (Z5 _);intro i hi;have h2:=h1.int i hi;exact⟨⟨g,0,none⟩,rfl,h1.lt.2,by rw[add_lit,Nat.zero_add];exact h2⟩)
 have HD2b:=hid (HD2.out w6 (some ⟨g,0,none⟩) cc HB6.out HQ6.out hcc);clear h6 hb6 HD2 HD1 HSET HQ6;cases R with
 |ok v=>
  unfold dnE;simp only[];go_wp2_with fail;refine HD2b.out.mono ?_;intro e w7 h7;obtain⟨hb7,he7⟩:=HOUT.out (j+1) _ _ e (.inr rfl) h7;unfold dnE at he7;simp only[]at he7;subst he7;have HB7:=hid (HB6.out.trans (hb7.mono HB6.out.size));clear h7 hb7 HD2b;go_wp2_with fail;refine(HD3.out w7 HB7.out).mono ?_;rintro e w8 ⟨hb8,he8⟩;unfold dnE at he8;simp only[]at he8;subst he8;have HB8:=hid (HB3.out.trans ((HB7.out.trans (hb8.mono HB7.out.size)).mono HB3.out.size));have l1:(v==v)=true:=beq_self_eq_true v;have l2:decide (v=v)=true:=Z9 rfl;clear hb8 HD3;go_wp2_with fail;go_ret;exact⟨rfl,HB8.out⟩
 |bad k=>
  unfold dnE;simp only[];go_wp2_with fail;refine HD2b.out.mono ?_;intro e w7 h7;obtain⟨hb7,he7⟩:=HOUT.out (j+1) _ _ e (.inr rfl) h7;unfold dnE at he7;simp only[]at he7;subst he7;have HB7:=hid (HB6.out.trans (hb7.mono HB6.out.size));clear h7 hb7 HD2b;go_wp2_with fail;refine(HD3.out w7 HB7.out).mono ?_;rintro e w8 ⟨hb8,he8⟩;unfold dnE at he8;simp only[]at he8;subst he8;have HB8:=hid (HB3.out.trans ((HB7.out.trans (hb8.mono HB7.out.size)).mono HB3.out.size));have HTE:=hid (fun V (hV:eB V)=>pS (DV k) V hV);obtain⟨ek,hek⟩:∃ek,ek=DV k:=⟨_,rfl⟩;rw[← hek]at HTE⊢;have l1:(ek==ek)=true:=beq_self_eq_true ek;have l2:decide (ek=ek)=true:=Z9 rfl;clear hb8 HD3 hek HOUT;go_wp2_with fail;refine(HTE.out w8 (HB.out.up HB8.out).env.er).mono ?_;rintro e w9 ⟨rfl,hb9⟩;have HB9:=hid (HB8.out.trans (hb9.mono HB8.out.size));clear hb9;go_wp2_with fail;refine(HTE.out w9 (HB.out.up HB9.out).env.er).mono ?_;rintro e w10 ⟨rfl,hb10⟩;have HB10:=hid (HB9.out.trans (hb10.mono HB9.out.size));clear hb10;go_wp2_with fail;go_ret;exact⟨rfl,HB10.out⟩
theorem sA(w:World)(a0 a1 a2:ByteArray)(A3:Option Addr)(len3 cap3:Nat)(z3:List Int)(h0:a0.size≤140737488351232)(h1:a1.size≤140737488351232)(h2:a2.size≤140737488351232)(h3:gW .i64 w A3 len3 cap3 z3)(hB:ll w):Calls Tryz.prog 6 #[.string a0,.string a1,.string a2,.slice A3 len3 cap3] w fun e w'=>e= .returned (.bool true)∧Below w.heap.size w w':=by
 obtain⟨l,rfl⟩:∃l,a0=aa l:=⟨_,jV a0⟩;obtain⟨m,rfl⟩:∃m,a1=aa m:=⟨_,jV a1⟩;obtain⟨k,rfl⟩:∃k,a2=aa k:=⟨_,jV a2⟩;rw[aq]at h1 h2;obtain⟨l1,l2,l3⟩:=h3.len;have hl:=h3.take_len;have h:=yB l m k A3 cap3 (z3.take len3) (by omega) (by omega) (by omega) (by omega) w hB (fun X hX=>h3.rd.below hX (Z5 _));rw[hl]at h;exact h
end
section
open Go.ChangeShapes Go.WideShapes Go.ChangeAt Go.RowKit
namespace ExprLaid
theorem gm:Tryz.prog.globalNamed "escritoire/lex.marks"=some 1:=by kernel_rfl
theorem gt:(Tryz.prog.globals[1]?).map (·.type)=some 225:=by kernel_rfl
theorem gl:Tryz.prog.globalNamed "escritoire/expr.levels"=some 2:=by kernel_rfl
theorem glt:(Tryz.prog.globals[2]?).map (·.type)=some 237:=by kernel_rfl
theorem cs1:Tryz.prog.cellsOf 9=1:=by kernel_rfl
theorem KH:Tryz.prog.cellsOf 225=18:=by kernel_rfl
theorem KI:Tryz.prog.cellsOf 105=1:=by kernel_rfl
theorem cs3:Tryz.prog.cellsOf 237=3:=by kernel_rfl
theorem et:Tryz.prog.globalNamed "errors.errorType"=some 0:=by kernel_rfl
theorem rt:(Tryz.prog.cutTypes.find? (·.1== "internal/reflectlite.rtype")).map (·.2)=some 175:=by kernel_rfl
theorem Ke:((List.range 268).filter fun t=>Tryz.prog.rowNamed t [101,114,114,111,114])=[30]:=by kernel_rfl
theorem size:Tryz.prog.types.size=268:=by kernel_rfl
def laid:List (String×DataW Unit):=[("errors.errorType",Rows.laid_errors_errorType),("escritoire/lex.marks",Rows.laid_escritoire_lex_marks),("escritoire/expr.levels",Rows.laid_escritoire_expr_levels)]
theorem jU{W:World}(h:laidMetH Tryz.prog laid W):eB W:=by
 have h':=(laidMetH_iff.1 h).2;obtain⟨name,u,ty,e1,e2,e3,e4,e5⟩:=h' ("errors.errorType",Rows.laid_errors_errorType) (by simp[laid,Rows.laid_errors_errorType,DataW.handleName?]);have en:name=[101,114,114,111,114]:=(Option.some.inj e1).symm;subst en;obtain rfl:=Option.some.inj (rt.symm.trans e2);have hm:ty∈(List.range 268).filter fun t=>Tryz.prog.rowNamed t [101,114,114,111,114]:=List.mem_filter.2 ⟨List.mem_range.2 (by rw[← size];exact e3),e4⟩
 rw[Ke]at hm;obtain rfl:=List.mem_singleton.1 hm;have hh:typeHandle Tryz.prog 30=hdl 30:=by kernel_rfl
 rw[hh]at e5;simpa[eB]using World.var?_cell et e5 0
theorem GL{α β:Type}{f:α→Option β}:∀{l:List α} {r:List β},l.mapM f=some r→∀(i:Nat) (h:i < l.length),∃y,r[i]? =some y∧f l[i]=some y:=by
 intro l
 induction l with
 |nil=>intro r _ i h;cases h
 |cons x xs ih=>
  intro r h i hi;simp only[List.mapM_cons,Option.bind_eq_bind,Option.bind_eq_some_iff,Option.pure_def,Option.some.injEq]at h;obtain⟨y,h1,ys,h2,rfl⟩:=h;cases i with
  |zero=>exact⟨y,rfl,h1⟩
  |succ i=>exact ih h2 i (by simpa using hi)
theorem yC{H:Type}{enc:TypeId×Value→H}{W:World}{base:Nat}{sp:Nat→Bool}{held:Bool}{n:Nat}{c:Value}{bs:List UInt8}{ps:List MemPlace}
  (h:DataW.trod enc Tryz.prog W base sp held n 9 [c]=some (.lit (.string bs),ps)):c= .string (aa bs):=by
 cases n with
 |zero=>simp[DataW.trod]at h
 |succ n=>
  rw[DataW.trod_step]at h;unfold DataW.trodStep at h;rw[Tryz.underlying9]at h;cases c with
  |string s=>
   simp only at h;split at h
   ·simp only[Option.some.injEq,Prod.mk.injEq,DataW.lit.injEq,Lit.string.injEq]at h;rw[← h.1];exact congrArg _ (jV s)
   ·cases h
  |_=>cases h
theorem nu{H:Type}{enc:TypeId×Value→H}{W:World}{base:Nat}{sp:Nat→Bool}{held:Bool}{n:Nat}{t e:TypeId}{m:Nat}{l:List Value}{ds:List (DataW H)}{ps:List MemPlace}
  (ht:Tryz.prog.underlying t=some (.array m e))(hc:Tryz.prog.cellsOf e=1)(hm:Tryz.prog.cellsOf t=m)(h:DataW.trod enc Tryz.prog W base sp held n t l=some (.agg ds,ps))(j:Nat)(hj:j < m):
  ∃k d qs,l[j]? =some k∧ds[j]? =some d∧∃n',DataW.trod enc Tryz.prog W base sp held n' e [k]=some (d,qs):=by
 cases n with
 |zero=>simp[DataW.trod]at h
 |succ n=>
  rw[DataW.trod_step]at h;unfold DataW.trodStep at h;rw[ht]at h;simp only[hc,hm]at h;split at h
  ·rename_i hl
   simp only[Option.map_eq_some_iff]at h;obtain⟨xs,hm,hx⟩:=h;obtain⟨y,hy,hf⟩:=GL hm j (by simpa using hj);simp only[Prod.mk.injEq,DataW.agg.injEq]at hx;simp only[Nat.mul_one,List.getElem_range]at hf;have hjl:j < l.length:=by
    have h0:l.length=m:=hl;omega
   have e3:(l.drop j).take 1=[l[j]]:=by
    rw[List.drop_eq_getElem_cons hjl];rfl
   rw[e3]at hf;obtain⟨y1,y2⟩:=y;refine⟨l[j],y1,y2,Y1 hjl,?_,_,hf⟩;rw[← hx.1,List.getElem?_map,hy];rfl
  ·cases h
theorem sB{W:World}(h:laidMetH Tryz.prog laid W):ej W:=by
 have h':laidMet Tryz.prog [("escritoire/lex.marks",Rows.laid_escritoire_lex_marks),("escritoire/expr.levels",Rows.laid_escritoire_expr_levels)] W:=(laidMetH_iff.1 h).1;obtain⟨ps,⟨g,t,cs,fuel,p,q,hg,ht,hvar,hd,_,_⟩,_⟩:=h';obtain rfl:=Option.some.inj (gm.symm.trans hg);obtain rfl:=Option.some.inj (gt.symm.trans ht);intro j hj;obtain⟨l⟩:=cs;rw[World.var?_cell hg hvar j];obtain⟨k,d,qs,e1,e2,n',e3⟩:=nu (m:=18) Tryz.underlying225 cs1 KH hd j hj;have hd2:((Lex.marks.map fun m=>(DataW.lit (.string m):DataW Unit))[j]?)=some d:=e2;rw[List.getElem?_map]at hd2;have e4:Lex.marks[j]? =some (Lex.marks.getD j []):=by
  rw[List.getD_eq_getElem?_getD,Y1 (by exact hj)];rfl
 rw[e4]at hd2;have hd3:=Option.some.inj hd2;subst hd3;have:=yC e3;subst this;simpa using e1
theorem Jd{H:Type}{enc:TypeId×Value→H}{W:World}{base:Nat}{sp:Nat→Bool}{held:Bool}{n:Nat}{v:Value}{L:List (List UInt8)}{ps:List MemPlace}(hL:L≠[])
  (h:DataW.trod enc Tryz.prog W base sp held n 105 [v]=some (.slice (L.map fun s=> .lit (.string s)) [],ps)):∃(a:Addr) (cap:Nat),v= .slice (some a) L.length cap∧a.block < W.heap.size∧∀j,j < L.length→W.cell? (a.add j)=some (.string (aa (L.getD j []))):=by
 rcases open_strings Tryz.underlying105 Tryz.underlying9 cs1 h with⟨_,h2⟩|⟨a,len,cap,ss,h1,_,hlc,_,hss,hx,hcell,_⟩
 ·cases h2
 ·obtain rfl:=List.cons.inj h1 |>.1;simp only[Prod.mk.injEq,DataW.slice.injEq]at hx;have hx1:(L.map fun s=>(DataW.lit (.string s):DataW H))=strs (ss.take len):=hx.1.1;have hlen:L.length=(ss.take len).length:=by
   have:=congrArg List.length hx1;simpa[strs]using this
  have hls:len≤ss.length:=by rw[hss];split <;> omega
  have hl2:L.length=len:=by rw[hlen,List.length_take];omega
  have hget:∀j,j < L.length→ss.getD j ByteArray.empty=aa (L.getD j []):=by
   intro j hj;have e1:(L.map fun s=>(DataW.lit (.string s):DataW H))[j]? =(strs (ss.take len))[j]? :=by rw[hx1]
   have hjs:j < ss.length:=by omega
   rw[List.getElem?_map,Y1 hj,strs,List.getElem?_map,List.getElem?_take_of_lt (by omega),Y1 hjs]at e1;simp only[Option.map_some,Option.some.injEq,DataW.lit.injEq,Lit.string.injEq]at e1;rw[List.getD_eq_getElem?_getD,Y1 hjs,List.getD_eq_getElem?_getD,Y1 hj];simp only[Option.getD_some];rw[e1];exact jV _
  have hc:∀j,j < L.length→W.cell? (a.add j)=some (.string (aa (L.getD j []))):=fun j hj=>by
   rw[hcell j (by omega),hget j hj]
  have hpos:0 < L.length:=List.length_pos_iff.2 hL;refine⟨a,cap,by rw[hl2],?_,hc⟩;have:=World.block_lt_of_cell? W _ (hc 0 hpos);rwa[Addr.cH]at this
theorem rO{W:World}(h:laidMetH Tryz.prog laid W):Rd.da W W.heap.size:=by
 have h':laidMet Tryz.prog [("escritoire/lex.marks",Rows.laid_escritoire_lex_marks),("escritoire/expr.levels",Rows.laid_escritoire_expr_levels)] W:=(laidMetH_iff.1 h).1;obtain⟨ps,⟨g,t,cs,fuel,p,q,hg,ht,hvar,hd,hrest,_⟩,_⟩:=h';obtain⟨g2,t2,cs2,fuel2,p2,q2,hg2,ht2,hvar2,hd2,_,_⟩:=hrest;obtain rfl:=Option.some.inj (gl.symm.trans hg2);obtain rfl:=Option.some.inj (glt.symm.trans ht2);obtain⟨l⟩:=cs2;have key:∀k,k < 3→∃(a:Addr) (cap:Nat),W.cell? ⟨2,k,none⟩=some (.slice (some a) (Ex.levels k).length cap)∧a.block < W.heap.size∧∀j,j < (Ex.levels k).length→W.cell? (a.add j)=some (.string (aa ((Ex.levels k).getD j []))):=by
  intro k hk;obtain⟨v,d,qs,e1,e2,n',e3⟩:=nu (m:=3) Tryz.underlying237 KI cs3 hd2 k hk;have hd3:d= .slice ((Ex.levels k).map fun s=> .lit (.string s)) []:=by
   rcases(by omega:k=0∨k=1∨k=2)with rfl|rfl|rfl
   ·exact(Option.some.inj e2).symm
   ·exact(Option.some.inj e2).symm
   ·exact(Option.some.inj e2).symm
  rw[hd3]at e3;have hne:Ex.levels k≠[]:=by
   rcases(by omega:k=0∨k=1∨k=2)with rfl|rfl|rfl <;> simp[Ex.levels]
  obtain⟨a,cap,rfl,hb,hc⟩:=Jd hne e3;refine⟨a,cap,?_,hb,hc⟩;rw[World.var?_cell hg2 hvar2 k];simpa using e1
 obtain⟨a,cap,hc0,_⟩:=key 0 (by omega);exact⟨World.block_lt_of_cell? W _ hc0,key⟩
theorem nv{W:World}(h:laidMetH Tryz.prog laid W):ll W:=
 ⟨⟨rO h,jU h,(jU h).lt⟩,sB h⟩
theorem oR{H:Type}{enc:TypeId×Value→H}{C:Checked}{os:Os}{f:FuncId}{fn:Func}{s:ChangeSpec}{conds:List PathCond}{apart:Bool}{X:World→Array Value→Prop}(w0:World)(args:Array Value)(fuel:Nat)(hos:w0.os=os)
  (hv:(w0.forCall (fun _ _=>0) ⟨#[],args,[]⟩).variablesRefB C.prog=true)
  (hr:((w0.forCall (fun _ _=>0) ⟨#[],args,[]⟩).heap.toList.drop C.prog.globals.size).take ((begin C.prog (fun _ _=>0) default).world.heap.size - C.prog.globals.size)=(begin C.prog (fun _ _=>0) default).world.heap.toList.drop C.prog.globals.size)
  (hok:Input.okWideB C.prog (w0.forCall (fun _ _=>0) ⟨#[],args,[]⟩) f ⟨#[],args,[]⟩=true)
  (hpre:s.preB enc C.prog fn conds apart (w0.forCall (fun _ _=>0) ⟨#[],args,[]⟩).memory args fuel=true)
  (hsz:s.sizedB enc C.prog fn apart (w0.forCall (fun _ _=>0) ⟨#[],args,[]⟩).memory args fuel=true)
  (hx:X (w0.forCall (fun _ _=>0) ⟨#[],args,[]⟩).memory args):
  ∃(w:World) (tape:Tape) (i:Input),w.os=os∧(w.forCall tape i).Shaped C.prog∧i.vars=[]∧Input.okWide C.prog (w.forCall tape i) .any w.heap.size f i∧
   ((s.pre enc C.prog fn conds apart (w.forCall tape i).memory i.args∧X (w.forCall tape i).memory i.args)∧sizedMet enc C.prog fn (OpenSpec.ofChange s) apart (w.forCall tape i).memory i.args)∧({modest:=false}:Assume).holds C.prog (lone (Frame.enter C.prog f i.args .normal) [] (w.forCall tape i)):=
 ⟨w0,fun _ _=>0,⟨#[],args,[]⟩,hos,World.shaped_of_RefB hv hr,(Input.okWide_of_okWideB (base:=0) hok).1,(Input.okWide_of_okWideB hok).2,⟨⟨ChangeSpec.pre_of_preB hpre,hx⟩,sizedMet_of_sizedB hsz⟩,by
  simp only[Assume.holds];exact⟨by simp,by simp,fun h=>by simp at h,by simp,by simp⟩⟩
noncomputable def oB(os:Os):World:=
 let w0:=World.holding Tryz.prog os ⟨#[],#[],[]⟩
 let put (h:Array Obj) (g:Nat) (cs:Array Value):Array Obj:=h.modify g fun
  | .cells _ t frozen=> .cells cs t frozen
  |o=>o
 let n:=w0.heap.size
 let h1:=put w0.heap 1 tZ
 let h2:=put h1 0 #[.iface 175 (.agg #[hdl 30])]
 let h3:=put h2 2 #[.slice (some ⟨n,0,none⟩) 4 4,.slice (some ⟨n+1,0,none⟩) 3 3,.slice (some ⟨n+2,0,none⟩) 2 2]
 let h4:=h3.push (.cells #[.string (aa [61,61]),.string (aa [33,61]),.string (aa [60]),.string (aa [62])] 9 (0,0))
 let h5:=h4.push (.cells #[.string (aa [43]),.string (aa [45]),.string (aa [124])] 9 (0,0))
 let h6:=h5.push (.cells #[.string (aa [42]),.string (aa [38])] 9 (0,0))
 {w0 with heap:=h6}
theorem lg(os:Os)(args:Array Value):laidMetH Tryz.prog laid ((oB os).forCall (fun _ _=>0) ⟨#[],args,[]⟩).memory:=
 laidMetH_of_parts (laidMet_of_run' 8 (by kernel_rfl) (by kernel_rfl)) (by kernel_rfl)
end ExprLaid
end
section
open Go.ChangeShapes Go.WideShapes Go.ChangeAt Go.RowKit
open Go.ChangeMaps (open_string shut_string)
namespace FixDropsProof
theorem own:ownKnob Tryz.prog.godebug=none:=by kernel_rfl
theorem laidOut:laidOutB Tryz.prog=true:=by kernel_rfl
open ExprLaid (oB lg nv oR)
theorem lifted(os:Os)(started:os.Started)(H:Type)(enc:TypeId×Value→H):
  ReturnsInHanded {} Tryz.checked os 6 .any (fun w args=>(Rows.fixDropsSpec.pre enc Tryz.prog Tryz.f6 [] false w args∧laidMetH Tryz.prog Rows.fixDropsRow.laid w)∧sizedMet enc Tryz.prog Tryz.f6 (OpenSpec.ofChange Rows.fixDropsSpec) false w args)
   (Rows.fixDropsSpec.post enc Tryz.prog Tryz.f6 false true false false):=by
 refine returnsInHanded_of_change_and (C:=Tryz.checked) (X:=fun w _=>laidMetH Tryz.prog Rows.fixDropsRow.laid w) (fun _ _ _ hh h=>h.of_heap hh) own started (by kernel_rfl) Tryz.func6
  (oR (enc:=enc) (C:=Tryz.checked) (os:=os) (X:=fun w _=>laidMetH Tryz.prog Rows.fixDropsRow.laid w) (oB os) #[.string ByteArray.empty,.string ByteArray.empty,.string ByteArray.empty,.slice none 0 0] 8 rfl (by kernel_rfl) (by kernel_rfl) (by kernel_rfl) (by kernel_rfl) (by kernel_rfl) (lg os _)) ?_
 intro W base args ds gs before hval0 hW hcnd hsz0 hL _;have hval:∀(j:Nat) t v,Tryz.f6.params[j]? =some t→args[j]? =some v→Value.okWide Tryz.prog W .any base t v:=hval0;have hsz:(DataW.weightsEach Tryz.prog (Tryz.f6.params.toList++Rows.fixDropsSpec.plain.varTypes Tryz.prog) (ds++gs)).all (· ≤reachBytes)=true:=hsz0;have hW':=hW;obtain⟨p,q,hA0,hV,rfl,hfz,hnd⟩:=hW;have hA:DataW.TrodAll enc Tryz.prog W 0 (fun _=>true) true Tryz.f6.params.toList args.toList ds p:=hA0;rw[Tryz.params6]at hA hval hsz;obtain⟨v0,vs0,d0,ds0,p0,q0,hargs,rfl,rfl,h0,r0⟩:=trodAll_cons hA;obtain⟨v1,vs1,d1,ds1,p1,q1,rfl,rfl,rfl,h1,r1⟩:=trodAll_cons r0;obtain⟨v2,vs2,d2,ds2,p2,q2,rfl,rfl,rfl,h2,r2⟩:=trodAll_cons r1;obtain⟨v3,vs3,d3,ds3,p3,q3,rfl,rfl,rfl,h3,r3⟩:=trodAll_cons r2;obtain⟨rfl,rfl,rfl⟩:=trodAll_nil r3;obtain rfl:args= #[v0,v1,v2,v3]:=by cases args;simp_all
 have hg:ll W:=nv hL;obtain⟨rfl,rfl⟩:=trodVars_none hV;obtain⟨a0,rfl,rfl,rfl,w0⟩:=open_string Tryz.underlying9 (hval 0 9 v0 rfl rfl) h0;have s0:a0.size≤140737488351232:=by have:=sized_string hsz (j:=0) rfl rfl;rw[gO]at this;simpa[reachBytes]using this
 obtain⟨a1,rfl,rfl,rfl,w1⟩:=open_string Tryz.underlying9 (hval 1 9 v1 rfl rfl) h1;have s1:a1.size≤140737488351232:=by have:=sized_string hsz (j:=1) rfl rfl;rw[gO]at this;simpa[reachBytes]using this
 obtain⟨a2,rfl,rfl,rfl,w2⟩:=open_string Tryz.underlying9 (hval 2 9 v2 rfl rfl) h2;have s2:a2.size≤140737488351232:=by have:=sized_string hsz (j:=2) rfl rfl;rw[gO]at this;simpa[reachBytes]using this
 obtain⟨A3,len3,cap3,rfl⟩:=okWide_slice Tryz.underlying40 (hval 3 40 v3 rfl rfl);have k3:=h3;have lt3:∀x∈p3,x.block < W.heap.size:=by obtain⟨m,hm⟩:=k3;exact DataW.trod_lt m _ _ _ hm
 obtain⟨z3,w3⟩:∃zs,gW .i64 W A3 len3 cap3 zs:=by
  obtain⟨fuel,hf⟩:=h3;rcases open_ints Tryz.underlying40 Tryz.underlying3 (by kernel_rfl) hf with⟨hcs,_⟩|⟨x,l,c,zs,hcs,_,hl,hm,hz,hx,hcell,hwz⟩
  ·simp[Value.cells]at hcs;obtain⟨rfl,rfl,rfl⟩:=hcs;exact⟨[],.inl ⟨rfl,rfl,rfl,rfl⟩⟩
  ·simp[Value.cells]at hcs;obtain⟨rfl,rfl,rfl⟩:=hcs;have hz':zs.length=cap3:=by simpa using hz
   cases hx;have hsl:=sized_slice hsz (j:=3) (e:=3) rfl rfl Tryz.underlying40;rw[show Tryz.prog.bytesOf 3=8 from by kernel_rfl]at hsl;simp[lits,reachBytes]at hsl;exact⟨zs,.inr ⟨_,rfl,hl,hm,hz',hcell,hwz,by omega⟩⟩
 clear hA0 hval0;simp only[List.append_nil]at hW';refine(sA W a0 a1 a2 A3 len3 cap3 z3 s0 s1 s2 w3 hg).mono fun e W' ⟨he,bel⟩=> ?_
 subst he;exact⟨_,rfl,_,_,_,[],_,[],hW',trodAll_mk1 (shut_bool Tryz.underlying4 _),(trodAll_cons_mk (shut_string Tryz.underlying9 w0) (trodAll_cons_mk (shut_string Tryz.underlying9 w1) (trodAll_cons_mk (shut_string Tryz.underlying9 w2) (trodAll_cons_mk (Below.trod laidOut (by kernel_rfl) (of_decide_eq_true (by kernel_rfl)) k3 bel lt3) trodAll_mk0)))),rfl,bel.frame _,fun h=>by cases h⟩
theorem Kf:Rows.FixDropsSaid:=
 OpenClaim.holds_of_wide 6 Tryz.f6 rfl rfl rfl rfl rfl rfl rfl ⟨rfl,rfl,rfl,rfl,rfl⟩ rfl rfl rfl rfl rfl (by kernel_rfl) Tryz.func6 (by kernel_rfl)
  (of_decide_eq_true (by kernel_rfl)) (by unfold Func.isWrapper;first|(rw[if_pos (by decide+kernel)];kernel_rfl)|(rw[if_neg (by decide+kernel)];exact⟨rfl,rfl⟩))
  (fun os started H enc _=>lifted os started H enc)
theorem proved:Rows.FixDropsCardSaid:=
 Claim7.holds_tied_plain_at .later [] [.handle,.data,.widerDeep] true Rows.fixDropsCard.stood.harness true
  Kf (fun _ h=>by cases h) (by kernel_rfl) (fun _ h=>by cases h) fixDrops_row_tie rfl ⟨rfl,rfl⟩ (by kernel_rfl) rfl
  (fun f fn hf hfn=>by
   obtain rfl:f=6:=Option.some.inj ((show Tryz.prog.funcNamed "escritoire/escritoirekeep.FixDrops"=some 6 by kernel_rfl).symm.trans hf) |>.symm;obtain rfl:fn=Tryz.f6:=(Option.some.inj (Tryz.func6.symm.trans hfn)).symm;exact⟨by kernel_rfl,fun j t ht=>by
    rw[Tryz.params6]at ht;have h3:t=40∨t=9:=by
     rcases j with _|_|_|_|j
     ·simp at ht;subst ht;simp
     ·simp at ht;subst ht;simp
     ·simp at ht;subst ht;simp
     ·simp at ht;subst ht;simp
     ·simp at ht
    rcases h3 with rfl|rfl
    ·exact(show Tryz.prog.wantsStandIn 40=false by kernel_rfl)
    ·exact(show Tryz.prog.wantsStandIn 9=false by kernel_rfl)⟩)
  (by kernel_rfl)
#print axioms proved
end FixDropsProof
end
end Go.Proofs.YtlomecfhobehnaaGreatDoor
