import Derived.Test.YtlomecfhobehnaaGreatDoorMgFixSets30
set_option linter.unusedVariables false
set_option linter.unusedSimpArgs false
set_option maxRecDepth 100000
set_option maxHeartbeats 2000000
namespace Go.Proofs.YtlomecfhobehnaaGreatDoor
open Lib (hid)
section
open Go Go.RowKit
open Rd
open Ly
def dh(w:World)(u:Tm.Wd)(e:Ending)(w':World):Prop:=Below w.heap.size w w'∧e= .returned (.string (aa u))
namespace Ly
theorem ik{W:Wri}{h:Tm.Hd}{d:Nd}{u:Tm.Wd}(ho:aY W h d=some u):d.name=h.name∧d.kind=kNo h.k∧(match h.k with
 | .scalar w=>(if cz w d.val then some (py w d.val)else none)
 | .bytes=>some d.text
 | .struct t=>W t d.kids)=some u:=by
 unfold aY at ho;split at ho
 ·cases ho
 ·rename_i hno
  rw[not_or]at hno;exact⟨Classical.not_not.1 hno.1,Classical.not_not.1 hno.2,ho⟩
end Ly
theorem yH(fv sv cv:Value)(gn on g o:Nat)(W:Wri)(h:Tm.Hd)(d:Nd)(u:Tm.Wd)(w:World)(hk:h.k= .bytes)(ho:aY W h d=some u)(hr:ad w g o 70 (Tm.ag h cv))(hn:ad w gn on 28 (ae d.name d.kind d.at_ d.size d.val d.text sv)):
  Calls Tryz.prog 33 #[fv,.pointer (some ⟨g,o,none⟩),.pointer (some ⟨gn,on,none⟩)] w (dh w u):=by
 obtain⟨hnm,hkd,hu⟩:=ik ho;rw[hk]at hkd hu;have hkd:d.kind=2:=hkd;have hu2:d.text=u:=by injection hu
 subst hu2;clear ho hu;have n0:=hn.cell 0 (by simp[ae]);have n1:=hn.cell 1 (by simp[ae]);have k0:=hr.cell 0 (by simp[Tm.aj]);have k2:=hr.cell 2 (by simp[Tm.aj]);simp only[ae,Z0,Z1,Y2]at n0 n1;simp only[Tm.ag,hk,Tm.aI,Z0,Z1,Y2]at k0 k2;have HR:=hid hr;have HN:=hid hn;rw[hnm]at n0;rw[hkd]at n1;clear hr hn hnm hkd;go_enter Tryz.func33,Tryz.ntmps33;go_wp2_with fail;go_still_tail 20,(by kernel_rfl);change wpList _ _ _ _ _ w.drew;go_wp2_with fail;refine(ep _).mono ?_;rintro e w1 ⟨rfl,rfl⟩;clear n0 n1 k2;obtain⟨V,hV⟩:∃V,V=w.drew:=⟨_,rfl⟩;rw[← hV];have hbV:Below w.heap.size w V:=by rw[hV];exact(Y4 _ _).drew
 have hrV:=HR.out.below hbV HR.out.lt;have hnV:=HN.out.below hbV HN.out.lt;have k0:=hrV.cell 0 (by simp[Tm.aj]);have n5:=hnV.cell 5 (by simp[ae]);simp only[Tm.ag,hk,Tm.aI,ae,Z0,Z1,Y2]at k0 n5;have HBV:=hid hbV;clear hV hbV hrV hnV;go_wp2_with fail;go_ret;exact⟨HBV.out,rfl⟩
theorem DH{wd:Tm.Wd}{v:Int}(h:cz wd v=true):(eF wd=true→(gZ (eZ v) (bj wd)==v)=true)∧(eF wd=false→(decide (0≤v)&&(((i' (eZ v) (bj wd):Nat):Int)==((eZ v:Nat):Int)))=true):=by
 unfold cz at h;constructor
 ·intro hs;rw[hs,if_pos rfl]at h;rw[beq_iff_eq];exact of_decide_eq_true h
 ·intro hs;rw[hs,if_neg (by decide)]at h;rw[Bool.and_eq_true]at h⊢;refine⟨h.1,?_⟩;rw[beq_iff_eq];have:=of_decide_eq_true h.2;omega
theorem vH(fv sv cv:Value)(gn on g o:Nat)(W:Wri)(h:Tm.Hd)(wd:Tm.Wd)(d:Nd)(u:Tm.Wd)(w:World)(hk:h.k= .scalar wd)(hkw:(Tm.kindOf wd).isSome=true)(hv:Ex.InR d.val)(ho:aY W h d=some u)(hr:ad w g o 70 (Tm.ag h cv))(hn:ad w gn on 28 (ae d.name d.kind d.at_ d.size d.val d.text sv)):
  Calls Tryz.prog 33 #[fv,.pointer (some ⟨g,o,none⟩),.pointer (some ⟨gn,on,none⟩)] w (dh w u):=by
 obtain⟨hnm,hkd,hu⟩:=ik ho;rw[hk]at hkd hu;have hkd:d.kind=1:=hkd;have hu1:(if cz wd d.val=true then some (py wd d.val)else none)=some u:=hu;have hfit:cz wd d.val=true:=by
  cases hf:cz wd d.val with
  |true=>rfl
  |false=>rw[hf]at hu1;cases hu1
 rw[if_pos hfit]at hu1;have hu2:py wd d.val=u:=by injection hu1
 obtain⟨kv1,kv2,kv3⟩:=lI hkw;obtain⟨wo1,wo2,wo3⟩:=lK hkw;obtain⟨fy1,fy2⟩:=DH hfit;have HU:=hid hu2;clear ho hu hu1 hu2 hfit;have n0:=hn.cell 0 (by simp[ae]);have n1:=hn.cell 1 (by simp[ae]);have k0:=hr.cell 0 (by simp[Tm.aj]);have k2:=hr.cell 2 (by simp[Tm.aj]);simp only[ae,Z0,Z1,Y2]at n0 n1;simp only[Tm.ag,hk,Tm.aI,Z0,Z1,Y2]at k0 k2;have HR:=hid hr;have HN:=hid hn;rw[hnm]at n0;rw[hkd]at n1;clear hr hn hnm hkd;go_enter Tryz.func33,Tryz.ntmps33;go_wp2_with fail;go_still_tail 20,(by kernel_rfl);change wpList _ _ _ _ _ w.drew;go_wp2_with fail;refine(ep _).mono ?_;rintro e w1 ⟨rfl,rfl⟩;clear n0 n1 k2;obtain⟨V,hV⟩:∃V,V=w.drew:=⟨_,rfl⟩;rw[← hV];have hbV:Below w.heap.size w V:=by rw[hV];exact(Y4 _ _).drew
 have hrV:=HR.out.below hbV HR.out.lt;have hnV:=HN.out.below hbV HN.out.lt;have k0:=hrV.cell 0 (by simp[Tm.aj]);have k4:=hrV.cell 4 (by simp[Tm.aj]);have k5:=hrV.cell 5 (by simp[Tm.aj]);have k6:=hrV.cell 6 (by simp[Tm.aj]);have n4:=hnV.cell 4 (by simp[ae]);simp only[Tm.ag,hk,Tm.aI,Tm.bo,ae,Z0,Z1,Y2]at k0 k4 k5 k6 n4;rw[kv1]at k4;rw[kv2]at k5;rw[kv3]at k6;have HFT:=hid (fun W=>rJ d.val (bj wd) W hv.1 hv.2 (by omega) (by omega));have HFF:=hid (fun W=>pC d.val (bj wd) W hv.1 hv.2 (by omega) (by omega));have HPUT:=hid (fun W=>E3 (eZ d.val) (bj wd) (fR wd) W wo1 wo2);have HBV:=hid hbV;have HRV:=hid hrV;have HNV:=hid hnV;have wu:IntKind.u64.wrap d.val=((eZ d.val:Nat):Int):=mN d.val;obtain⟨dv,hdv⟩:∃dv,dv=d.val:=⟨_,rfl⟩;rw[← hdv]at n4 HFT HFF HPUT fy1 fy2 wu;have HDV:=hid hdv;clear hV hbV hrV hnV hv hdv wo1 wo2 wo3;have hFIT:∀W,Calls Tryz.prog 39 #[.int .i64 dv,.int .i64 (bj wd:Nat),.bool (eF wd)] W fun e w'=>e= .returned (.bool true)∧W=w':=by
  intro W;cases hs:eF wd with
  |true=>have:=HFT.out W;rw[fy1 hs]at this;exact this
  |false=>have:=HFF.out W;rw[fy2 hs]at this;exact this
 have HFIT:=hid hFIT;clear hFIT fy1 fy2;go_wp2_with fail;go_quiet (first|(go_at_call 39;with_reducible exact Calls.quiet_of_same (qG (HFIT.out _)))|(go_at_call 66;with_reducible exact Calls.quiet_of_same (qG (ep _))));obtain⟨V2,hV2⟩:∃V2,V2=V.drewN nq:=⟨_,rfl⟩;rw[← hV2];have hb2:Below w.heap.size w V2:=by rw[hV2];exact ey HBV.out _
 have hr2:ad V2 g o 70 (Tm.ag h cv):=by rw[hV2];exact HRV.out.drewN _
 have hn2:ad V2 gn on 28 (ae d.name d.kind d.at_ d.size d.val d.text sv):=by rw[hV2];exact HNV.out.drewN _
 have hSS:∀W,Below w.heap.size w W→ad W g o 70 (Tm.ag h cv)→ad W gn on 28 (ae d.name d.kind d.at_ d.size d.val d.text sv)→W.cell? ⟨gn,on+4,none⟩=some (.int .i64 dv)∧W.cell? ⟨g,o+4,none⟩=some (.int .i64 (bj wd:Nat))∧W.cell? ⟨g,o+5,none⟩=some (.int .i64 (fR wd:Nat))∧Hid (Below w.heap.size w W∧ad W g o 70 (Tm.ag h cv)∧ad W gn on 28 (ae d.name d.kind d.at_ d.size d.val d.text sv)):=by
  intro W hb hr hn;have k4:=hr.cell 4 (by simp[Tm.aj]);have k5:=hr.cell 5 (by simp[Tm.aj]);have n4:=hn.cell 4 (by simp[ae]);simp only[Tm.ag,hk,Tm.bo,ae,Z0,Z1,Y2]at k4 k5 n4;rw[kv1]at k4;rw[kv2]at k5;rw[← HDV.out]at n4;exact⟨n4,k4,k5,hid ⟨hb,hr,hn⟩⟩
 have hS0:=hSS V2 hb2 hr2 hn2;have hS1:=hSS V2.drew hb2.drew hr2.drew hn2.drew;have HSS:=hid hSS;clear hV2 hb2 hr2 hn2 hSS k0 k4 k5 k6 n4;have k4:=hS0.2.1;have k5:=hS0.2.2.1;have n4:=hS0.1;go_wp2_with fail;go_region_held3 (fun W=>W.cell? ⟨gn,on+4,none⟩=some (.int .i64 dv)∧W.cell? ⟨g,o+4,none⟩=some (.int .i64 (bj wd:Nat))∧W.cell? ⟨g,o+5,none⟩=some (.int .i64 (fR wd:Nat))∧Hid (Below w.heap.size w W∧ad W g o 70 (Tm.ag h cv)∧ad W gn on 28 (ae d.name d.kind d.at_ d.size d.val d.text sv)))
  (first
   |exact hS1
   |assumption)
  (first
   |(go_at_call 67;(with_reducible refine(HPUT.out _).mono ?_);(rintro e w6 ⟨rfl,hb6⟩);(have hS6:=HSS.out w6 (hS1.2.2.2.out.1.trans (hb6.mono hS1.2.2.2.out.1.size)) (hS1.2.2.2.out.2.1.below hb6 hS1.2.2.2.out.2.1.lt) (hS1.2.2.2.out.2.2.below hb6 hS1.2.2.2.out.2.2.lt))))
 all_goals
  go_wp2_with fail;go_ret;refine⟨hS6.2.2.2.out.1,?_⟩;rw[← HU.out];unfold py;rw[← HDV.out];rfl
def kA(A:List Tm.Ty)(W:Wri)(l:Tm.Its):Prop:=∀(U w:World) (rb fb cap gcap B:Nat) (ga gk:Option Addr) (bs vs:List Value) (ks:Nds) (b1:List Nat) (u:Tm.Wd),Below U.heap.size U w→bR U w rb fb A→an U (rb+1) 70 13 ga l.len cap bs→Tm.bp U rb l bs→
 an w B 28 7 gk ks.len gcap vs→aW w B ks b1 vs→ks.ok→ks.tot≤1000000→aH W l ks=some u→
 Calls Tryz.prog 68 #[.map (some fb),.slice ga l.len cap,.slice gk ks.len gcap] w (dh w u)
def tB(A:List Tm.Ty)(W:Wri)(nm:Tm.Wd):Prop:=∃t∈A,t.name=nm∧t.name.length≤100000∧∃W',(∀ks,W t.name ks=aH W' t.items ks)∧kA A W' t.items
theorem nT(A:List Tm.Ty)(W W':Wri)(t:Tm.Ty)(ht:t∈A)(hW:∀ks,W t.name ks=aH W' t.items ks)(hI:kA A W' t.items)(htl:t.name.length≤100000)(cv:Value)(gn on g o:Nat)(h:Tm.Hd)(d:Nd)(u:Tm.Wd)(U w:World)(rb fb B gcap:Nat)(gk:Option Addr)(vs:List Value)(b1:List Nat)
  (hU:Below U.heap.size U w)(hfm:bR U w rb fb A)(hk:h.k= .struct t.name)(ho:aY W h d=some u)(hr:ad w g o 70 (Tm.ag h cv))(hn:ad w gn on 28 (ae d.name d.kind d.at_ d.size d.val d.text (.slice gk d.kids.len gcap)))
  (hok:d.kids.ok)(htot:d.kids.tot≤1000000)(hkO:an w B 28 7 gk d.kids.len gcap vs)(hkE:aW w B d.kids b1 vs):
  Calls Tryz.prog 33 #[.map (some fb),.pointer (some ⟨g,o,none⟩),.pointer (some ⟨gn,on,none⟩)] w (dh w u):=by
 obtain⟨hnm,hkd,hu⟩:=ik ho;rw[hk]at hkd hu;have hkd:d.kind=3:=hkd;have hu2:aH W' t.items d.kids=some u:=(hW d.kids).symm.trans hu;obtain⟨ga,cap,bs,hoi,hen,hlk⟩:=hfm.look ht htl;have hC:=fun X (hX:Below w.heap.size w X)=>hI U X rb fb cap gcap B ga gk bs vs d.kids b1 u (hU.trans (hX.mono hU.size)) (hfm.al (hX.block _ hfm.lt)) hoi hen (hkO.below hX (Z5 _)) (hkE.al _ _ _ (fun b hb=>hX.block b (hkE.mem _ _ _ b hb).2)) hok htot hu2
 have HC:=hid hC;have hlk0:∀j,(Instr.lookup 59 (.map (some fb)) (.string (aa t.name)) false).run Tryz.prog (w.drewN j)= .ok (.slice ga t.items.len cap) (w.drewN j):=fun j=>hlk _ rfl
 have HLK:=hid hlk;have HFL:=hid hfm.lt;clear ho hu hu2 hfm hC hlk hlk0 hoi hen hkO hkE hU hW;have n0:=hn.cell 0 (by simp[ae]);have n1:=hn.cell 1 (by simp[ae]);have k0:=hr.cell 0 (by simp[Tm.aj]);have k2:=hr.cell 2 (by simp[Tm.aj]);simp only[ae,Z0,Z1,Y2]at n0 n1;simp only[Tm.ag,hk,Tm.aI,Z0,Z1,Y2]at k0 k2;have HR:=hid hr;have HN:=hid hn;rw[hnm]at n0;rw[hkd]at n1;clear hr hn hnm hkd;go_enter Tryz.func33,Tryz.ntmps33;go_wp2_with fail;go_still_tail 20,(by kernel_rfl);change wpList _ _ _ _ _ w.drew;go_wp2_with fail;refine(ep _).mono ?_;rintro e w1 ⟨rfl,rfl⟩;clear n0 n1 k2;obtain⟨V,hV⟩:∃V,V=w.drew:=⟨_,rfl⟩;rw[← hV];have hbV:Below w.heap.size w V:=by rw[hV];exact(Y4 _ _).drew
 have hrV:=HR.out.below hbV HR.out.lt;have hnV:=HN.out.below hbV HN.out.lt;have k0:=hrV.cell 0 (by simp[Tm.aj]);have k3:=hrV.cell 3 (by simp[Tm.aj]);have n6:=hnV.cell 6 (by simp[ae]);simp only[Tm.ag,hk,Tm.aI,Tm.bu,ae,Z0,Z1,Y2]at k0 k3 n6;have hfl:=HFL.out;have hSS:∀W,Below V.heap.size V W→W.cell? ⟨g,o+3,none⟩=some (.string (aa t.name))∧(Instr.lookup 59 (.map (some fb)) (.string (aa t.name)) false).run Tryz.prog W= .ok (.slice ga t.items.len cap) W∧W.cell? ⟨gn,on+6,none⟩=some (.slice gk d.kids.len gcap)∧Hid (Below V.heap.size V W):=by
  intro W hb;exact⟨(hb.cell (World.block_lt_of_cell? _ _ k3)).trans k3,HLK.out W ((hb.block _ (Nat.lt_of_lt_of_le hfl hbV.size)).trans (hbV.block _ hfl)),(hb.cell (World.block_lt_of_cell? _ _ n6)).trans n6,hid hb⟩
 have hS1:=hSS V.drew (Y4 _ _).drew;have HSS:=hid hSS;have HBV:=hid hbV;have HC2:=hid (fun W (hW:Below V.heap.size V W)=>HC.out W (hbV.trans (hW.mono hbV.size)));clear hV hbV hrV hnV hSS k3 n6 hfl;go_wp2_with fail;go_region_held3 (fun W=>W.cell? ⟨g,o+3,none⟩=some (.string (aa t.name))∧(Instr.lookup 59 (.map (some fb)) (.string (aa t.name)) false).run Tryz.prog W= .ok (.slice ga t.items.len cap) W∧W.cell? ⟨gn,on+6,none⟩=some (.slice gk d.kids.len gcap)∧Hid (Below V.heap.size V W))
  (first
   |exact hS1
   |assumption)
  (first
   |(go_at_call 68;(with_reducible refine(HC2.out _ ?_).mono ?_);(next=>exact(Y4 _ _).drew);(rintro e w6 ⟨hb6,rfl⟩);(have hS6:=HSS.out w6 (Below.trans (Y4 V.heap.size V).drew hb6))))
 all_goals
  go_wp2_with fail;go_ret;exact⟨HBV.out.trans (hS6.2.2.2.out.mono HBV.out.size),rfl⟩
theorem BT(A:List Tm.Ty)(W:Wri)(body:Tm.Its)(hI:kA A W body)(cv:Value)(gn on g o ai:Nat)(d:Nd)(u:Tm.Wd)(U w:World)(rb fb B gcap capi:Nat)(gi gk:Option Addr)(bs vs:List Value)(b1:List Nat)
  (hU:Below U.heap.size U w)(hfm:bR U w rb fb A)(hnm:d.name=[])(hkd:d.kind=4)(hu:ky W body d.val d.kids=some u)(hoi:an U (rb+1) 70 13 gi body.len capi bs)(hen:Tm.bp U rb body bs)(hr:ad w g o 70 (Tm.au ai cv (.slice gi body.len capi)))(hn:ad w gn on 28 (ae d.name d.kind d.at_ d.size d.val d.text (.slice gk d.kids.len gcap)))
  (hok:d.kids.ok)(htot:d.kids.tot≤1000000)(hkO:an w B 28 7 gk d.kids.len gcap vs)(hkE:aW w B d.kids b1 vs):
  Calls Tryz.prog 33 #[.map (some fb),.pointer (some ⟨g,o,none⟩),.pointer (some ⟨gn,on,none⟩)] w (dh w u):=by
 have hC:=fun X (hX:Below w.heap.size w X) (hv:aH W body d.kids=some u)=>hI U X rb fb capi gcap B gi gk bs vs d.kids b1 u (hU.trans (hX.mono hU.size)) (hfm.al (hX.block _ hfm.lt)) hoi hen (hkO.below hX (Z5 _)) (hkE.al _ _ _ (fun b hb=>hX.block b (hkE.mem _ _ _ b hb).2)) hok htot hv
 have HC:=hid hC;obtain⟨dv,hdv⟩:∃dv,dv=d.val:=⟨_,rfl⟩;have HDV:=hid hdv;have HU:=hid hu;clear hC hoi hen hkO hkE hU hfm hu hdv;have n0:=hn.cell 0 (by simp[ae]);have n1:=hn.cell 1 (by simp[ae]);have k0:=hr.cell 0 (by simp[Tm.bf]);have k2:=hr.cell 2 (by simp[Tm.bf]);simp only[ae,Z0,Z1,Y2]at n0 n1;simp only[Tm.au,Z0,Z1,Y2]at k0 k2;have HR:=hid hr;have HN:=hid hn;rw[hnm]at n0;rw[hkd]at n1;clear hr hn hnm hkd;go_enter Tryz.func33,Tryz.ntmps33;go_wp2_with fail;go_still_tail 20,(by kernel_rfl);change wpList _ _ _ _ _ w.drew;go_wp2_with fail;refine(ep _).mono ?_;rintro e w1 ⟨rfl,rfl⟩;clear n0 n1 k2;obtain⟨V,hV⟩:∃V,V=w.drew:=⟨_,rfl⟩;rw[← hV];have hbV:Below w.heap.size w V:=by rw[hV];exact(Y4 _ _).drew
 have hrV:=HR.out.below hbV HR.out.lt;have hnV:=HN.out.below hbV HN.out.lt;have k0:=hrV.cell 0 (by simp[Tm.bf]);have k12:=hrV.cell 12 (by simp[Tm.bf]);have n4:=hnV.cell 4 (by simp[ae]);have n6:=hnV.cell 6 (by simp[ae]);simp only[Tm.au,ae,Z0,Z1,Y2]at k0 k12 n4 n6;rw[← HDV.out]at n4;have HBV:=hid hbV
 by_cases hv0:dv=0
 ·have hk0:d.kids= .nil∧u=[]:=by
   have:=HU.out;unfold ky at this;rw[← HDV.out,if_pos hv0]at this;cases hk:d.kids with
   |nil=>rw[hk]at this;injection this with h;exact⟨rfl,h.symm⟩
   |cons=>rw[hk]at this;cases this
  obtain⟨hk1,rfl⟩:=hk0;rw[hk1]at n6;subst hv0;have n6':V.cell? ⟨gn,on+6,none⟩=some (.slice gk 0 gcap):=n6;clear hV hbV hrV hnV n6 hk1;go_wp2_with fail;refine(ep _).mono ?_;rintro e w2 ⟨rfl,rfl⟩;go_wp2_with fail;go_ret;exact⟨HBV.out,rfl⟩
 ·have hvd:decide (dv=0)=false:=Y9 hv0;have hvb:(dv==0)=false:=Z8.2 hv0;have hv1:aH W body d.kids=some u:=by
   have:=HU.out;unfold ky at this;rw[← HDV.out,if_neg hv0]at this;exact this
  have hSS:∀W,Below V.heap.size V W→W.cell? ⟨g,o+12,none⟩=some (.slice gi body.len capi)∧W.cell? ⟨gn,on+6,none⟩=some (.slice gk d.kids.len gcap)∧Hid (Below V.heap.size V W):=by
   intro W hb;exact⟨(hb.cell (World.block_lt_of_cell? _ _ k12)).trans k12,(hb.cell (World.block_lt_of_cell? _ _ n6)).trans n6,hid hb⟩
  have hS1:=hSS V.drew (Y4 _ _).drew;have HSS:=hid hSS;have HC2:=hid (fun W (hW:Below V.heap.size V W)=>HC.out W (hbV.trans (hW.mono hbV.size)) hv1);clear hV hbV hrV hnV hSS k12 n6 hv0 hv1;go_wp2_with fail;go_region_held3 (fun W=>W.cell? ⟨g,o+12,none⟩=some (.slice gi body.len capi)∧W.cell? ⟨gn,on+6,none⟩=some (.slice gk d.kids.len gcap)∧Hid (Below V.heap.size V W))
   (first
    |exact hS1
    |assumption)
   (first
    |(go_at_call 68;(with_reducible refine(HC2.out _ ?_).mono ?_);(next=>exact(Y4 _ _).drew);(rintro e w6 ⟨hb6,rfl⟩);(have hS6:=HSS.out w6 (Below.trans (Y4 V.heap.size V).drew hb6))))
  all_goals
   go_wp2_with fail;go_ret;exact⟨HBV.out.trans (hS6.2.2.out.mono HBV.out.size),rfl⟩
namespace Ly
theorem aW.at_{w:World}{B:Nat}:∀(i:Nat) (l:Nds) (bl:List Nat) (vs:List Value),aW w B l bl vs→∃us b2,aW w B (l.drop i) b2 us∧us=vs.drop (i * 7)
 |0,l,bl,vs,h=>⟨vs,bl,by cases l <;> exact h,by simp⟩
 |i+1,.nil,bl,vs,h=>⟨[],[],⟨rfl,rfl⟩,by rw[h.1];simp⟩
 |i+1,.cons nm kd a sz v tx ks r,bl,vs,h=>by
  obtain⟨ga,cap,bs,us,b1,b2,rfl,h1,h3,rfl,h5⟩:=h;obtain⟨ys,b3,g1,g2⟩:=aW.at_ i r b2 us h5;refine⟨ys,b3,g1,?_⟩;rw[g2,show(i+1) * 7=(ae nm kd a sz v tx (.slice ga ks.len cap)).length+i * 7 by show _=7+i * 7;omega,Tm.lO]
theorem aW.nd{w:World}{B i cap:Nat}{l r:Nds}{bl:List Nat}{vs:List Value}{x:Addr}{d:Nd}(ho:an w B 28 7 (some x) l.len cap vs)(he:aW w B l bl vs)(hd:l.drop i=d.put r):
  ∃ga cap2 bs b1,ad w x.block (i * 7) 28 (ae d.name d.kind d.at_ d.size d.val d.text (.slice ga d.kids.len cap2))∧an w B 28 7 ga d.kids.len cap2 bs∧aW w B d.kids b1 bs:=by
 obtain⟨us,b2,h1,h2⟩:=aW.at_ i l bl vs he;rw[hd]at h1;obtain⟨ga,cap2,bs,ys,b3,b4,_,g1,g2,g3,_⟩:=h1;refine⟨ga,cap2,bs,b3,?_,g1,g2⟩;have:=ho.row.2.2.2.2.part (i * 7) 7;rw[← h2,g3,Nat.zero_add]at this;exact this
end Ly
def DI(A:List Tm.Ty)(W:Wri)(h:Tm.Hd):Prop:=∀(U w:World) (rb fb B gcap g o gn on:Nat) (cv:Value) (gk:Option Addr) (vs:List Value) (b1:List Nat) (d:Nd) (u:Tm.Wd),Below U.heap.size U w→bR U w rb fb A→ad w g o 70 (Tm.ag h cv)→
 ad w gn on 28 (ae d.name d.kind d.at_ d.size d.val d.text (.slice gk d.kids.len gcap))→an w B 28 7 gk d.kids.len gcap vs→aW w B d.kids b1 vs→d.ok→d.tot≤1000000→aY W h d=some u→
 Calls Tryz.prog 33 #[.map (some fb),.pointer (some ⟨g,o,none⟩),.pointer (some ⟨gn,on,none⟩)] w (dh w u)
theorem DJ(A:List Tm.Ty)(W:Wri)(h:Tm.Hd)(hf:Tm.fO h)(hst:∀t,h.k= .struct t→tB A W t):DI A W h:=by
 intro U w rb fb B gcap g o gn on cv gk vs b1 d u hU hfm hr hn hkO hkE hok htot ho;cases hk:h.k with
 |scalar wd=>exact vH _ _ cv gn on g o W h wd d u w hk (by have:=hf.1;rw[hk]at this;exact this) hok.1 ho hr hn
 |bytes=>exact yH _ _ cv gn on g o W h d u w hk ho hr hn
 |struct t=>
  obtain⟨ty,h1,h2,h3,W',h4,h5⟩:=hst t hk;rw[← h2]at hk;exact nT A W W' ty h1 h4 h5 h3 cv gn on g o h d u U w rb fb B gcap gk vs b1 hU hfm hk ho hr hn hok.2 (by unfold Nd.tot at htot;omega) hkO hkE
theorem BU{W:Wri}{h:Tm.Hd}{d:Nd}{u:Tm.Wd}(hm:Tm.ba h=false)(ho:bc W h d=some u):aY W h d=some u:=by
 unfold bc at ho;rw[← lT,hm,if_neg (by decide)]at ho;exact ho
theorem yI{W:Wri}{h:Tm.Hd}{d:Nd}{u:Tm.Wd}(hm:Tm.ba h=true)(ho:bc W h d=some u):d.name=h.name∧d.kind=9∧cO (aY W h) d.kids=some u:=by
 unfold bc at ho;rw[← lT,hm,if_pos rfl]at ho;split at ho
 ·cases ho
 ·rename_i hno
  rw[not_or]at hno;exact⟨Classical.not_not.1 hno.1,Classical.not_not.1 hno.2,ho⟩
theorem Fm{f:Nd→Option Tm.Wd}{d:Nd}{r:Nds}{u:Tm.Wd}(h:cO f (d.put r)=some u):∃a b,f d=some a∧cO f r=some b∧u=a++b:=by
 have h2:(f d).bind (fun u=>(cO f r).map (u++ ·))=some u:=h;cases h3:f d with
 |none=>rw[h3]at h2;cases h2
 |some a=>
  rw[h3]at h2;cases h4:cO f r with
  |none=>rw[h4]at h2;cases h2
  |some b=>rw[h4]at h2;injection h2 with h2;exact⟨a,b,rfl,rfl,h2.symm⟩
theorem vI(A:List Tm.Ty)(W:Wri)(h:Tm.Hd)(hO:DI A W h)(hmb:Tm.ba h=false)(U w:World)(rb fb B gcap g o gn on:Nat)(cv:Value)(gk:Option Addr)(vs:List Value)(b1:List Nat)(d:Nd)(u:Tm.Wd)(hU:Below U.heap.size U w)(hfm:bR U w rb fb A)(hr:ad w g o 70 (Tm.ag h cv))
  (hn:ad w gn on 28 (ae d.name d.kind d.at_ d.size d.val d.text (.slice gk d.kids.len gcap)))(hkO:an w B 28 7 gk d.kids.len gcap vs)(hkE:aW w B d.kids b1 vs)(hok:d.ok)(htot:d.tot≤1000000)(ho:bc W h d=some u):
  Calls Tryz.prog 96 #[.map (some fb),.pointer (some ⟨g,o,none⟩),.pointer (some ⟨gn,on,none⟩)] w (dh w u):=by
 have HC:=hid (hO U w rb fb B gcap g o gn on cv gk vs b1 d u hU hfm hr hn hkO hkE hok htot (BU hmb ho));have k7:=hr.cell 7 (by simp[Tm.aj]);simp only[Tm.ag,Z0,Z1,Y2,hmb]at k7;clear hO hU hfm hr hn hkO hkE hok htot ho hmb;go_enter Tryz.func96,Tryz.ntmps96;go_wp2_with fail;refine HC.out.mono ?_;rintro e w1 ⟨hb,rfl⟩;have HB:=hid hb;clear hb;go_wp2_with fail;go_ret;exact⟨HB.out,rfl⟩
theorem Fo{w:World}{B n cap:Nat}{a:Option Addr}{xs:List Value}{size:Nat}{e:TypeId}(h:an w B e size a n cap xs):n≤maxLen:=by
 cases a with
 |none=>have:=h.aO.1;omega
 |some x=>exact Nat.le_trans h.row.2.2.1 h.row.2.2.2.1
theorem rZ{i n:Nat}(h:i < n)(hn:n≤maxLen):wrap64 ((i:Int)+1)=((i+1:Nat):Int):=by
 have:n≤9223372036854775807:=hn;exact(IntWalk.wrap64_in _ ⟨by omega,by omega⟩).trans (by omega)
theorem m7{a b:Tm.Wd}(h:a.length+b.length≤1000000):¬(9223372036854775807 < (aa a).size+(aa b).size):=by rw[aq,aq];omega
theorem se(A:List Tm.Ty)(W:Wri)(hWl:fi W)(h:Tm.Hd)(hO:DI A W h)(hmb:Tm.ba h=true)(U w:World)(rb fb B gcap g o gn on:Nat)(cv:Value)(gk:Option Addr)(vs:List Value)(b1:List Nat)(d:Nd)(u:Tm.Wd)(hU:Below U.heap.size U w)(hfm:bR U w rb fb A)(hr:ad w g o 70 (Tm.ag h cv))
  (hn:ad w gn on 28 (ae d.name d.kind d.at_ d.size d.val d.text (.slice gk d.kids.len gcap)))(hkO:an w B 28 7 gk d.kids.len gcap vs)(hkE:aW w B d.kids b1 vs)(hok:d.ok)(htot:d.tot≤1000000)(ho:bc W h d=some u):
  Calls Tryz.prog 96 #[.map (some fb),.pointer (some ⟨g,o,none⟩),.pointer (some ⟨gn,on,none⟩)] w (dh w u):=by
 obtain⟨hnm,hkd,hrep⟩:=yI hmb ho;have k7:=hr.cell 7 (by simp[Tm.aj]);have k2:=hr.cell 2 (by simp[Tm.aj]);simp only[Tm.ag,Z0,Z1,Y2,hmb]at k7 k2;have n0:=hn.cell 0 (by simp[ae]);have n1:=hn.cell 1 (by simp[ae]);simp only[ae,Z0,Z1,Y2]at n0 n1;rw[hnm]at n0;rw[hkd]at n1;have hkt:d.kids.tot≤1000000:=by unfold Nd.tot at htot;omega
 have hul:u.length≤d.kids.tot:=tA (fun d u h=>oC hWl h) _ _ hrep;have hcap:d.kids.len≤gcap:=aT hkO;obtain⟨ks,hks⟩:∃ks,ks=d.kids:=⟨_,rfl⟩;have hok2:=hok.2;rw[← hks]at hn hkO hkE hrep hkt hul hcap hok2;obtain⟨nk,hnk⟩:∃nk,nk=ks.len:=⟨_,rfl⟩;rw[← hnk]at hn hkO hcap;have HNK:=hid hnk;have HR:=hid hr;have HN:=hid hn;have HO:=hid hO;have HU:=hid hU;have HFM:=hid hfm;have HKO:=hid hkO;have HKE:=hid hkE;have HREP:=hid hrep;have HKT:=hid hkt;have HOK:=hid hok2;have HUL:=hid hul;have HCAP:=hid (show nk≤maxLen from Fo hkO);clear hr hn hO hU hfm hkO hkE hok htot ho hmb hnm hkd hrep hks hnk hok2 hul;go_enter Tryz.func96,Tryz.ntmps96;go_wp2_with fail;go_still_tail 16,(by kernel_rfl);change wpList _ _ _ _ _ w.drew;go_wp2_with fail;refine(ep _).mono ?_;rintro e w1 ⟨rfl,rfl⟩;clear n0 n1 k2 k7;obtain⟨V,hV⟩:∃V,V=w.drew:=⟨_,rfl⟩;rw[← hV];have hbV:Below w.heap.size w V:=by rw[hV];exact(Y4 _ _).drew
 have hnV:=HN.out.below hbV HN.out.lt;have n6:=hnV.cell 6 (by simp[ae]);simp only[ae,Z0,Z1,Y2]at n6;have HBV:=hid hbV;clear hV hbV hnV;go_wp2_with fail;go_loopw [7,40] (fun v7 v40 wr=>∃(i:Nat) (acc:Tm.Wd),v7= .string (aa acc)∧v40= .int .i64 (i:Nat)∧i≤nk∧Hid (Below V.heap.size V wr)∧Hid (∃rest,cO (aY W h) (ks.drop i)=some rest∧u=acc++rest)) (fun _ v40 _=>nk - (intOf v40).toNat)
 case atStart=>exact⟨0,[],rfl,rfl,Nat.zero_le _,hid (Y4 _ _),hid ⟨u,by rw[show ks.drop 0=ks by cases ks <;> rfl];exact HREP.out,rfl⟩⟩
 case round=>
  obtain⟨i,acc,rfl,rfl,hi,HB,HQ⟩:=hrel
  by_cases hin:i < nk
  ·have q1:decide ((i:Int) < (nk:Int))=true:=Z9 (by omega);have q2:decide (i < nk)=true:=Z9 hin;have hii:(i:Int) < (nk:Int):=by omega
   have HLT:=hid hin;obtain⟨x,rfl⟩:∃x,gk=some x:=by
    cases gk with
    |none=>have:=HKO.out.aO.1;omega
    |some x=>exact⟨x,rfl⟩
   obtain⟨gb,rfl⟩:∃gb,x=⟨gb,0,none⟩:=⟨x.block,HKO.out.row.1⟩;obtain⟨d2,r2,hd1,hd2⟩:=ks.cE i (by rw[← HNK.out];exact hin);have hko:=HKO.out;rw[HNK.out]at hko;obtain⟨g3,c3,bs3,b3,e1,e2,e3⟩:=aW.nd hko HKE.out hd1;have hbw:Below w.heap.size w wr:=HBV.out.trans (HB.out.mono HBV.out.size);obtain⟨rest,hr1,hr2⟩:=HQ.out;rw[hd1]at hr1;obtain⟨a2,b2,f1,f2,f3⟩:=Fm hr1;have ht2:d2.tot≤ks.tot:=by have:=ks.jt i;rw[hd1,fI]at this;omega
   have hok2:d2.ok:=by have:=ks.oB i HOK.out;rw[hd1]at this;exact(pV this).1
   have HC:=hid (HO.out U wr rb fb B c3 g o gb (i * 7) cv g3 bs3 b3 d2 a2 (HU.out.trans (hbw.mono HU.out.size)) (HFM.out.al (hbw.block _ HFM.out.lt)) (HR.out.below hbw HR.out.lt) (e1.below hbw e1.lt) (e2.below hbw (Z5 _)) (e3.al _ _ _ (fun b hb=>hbw.block b (e3.mem _ _ _ b hb).2)) hok2 (by have:=HKT.out;omega) f1);have HQ2:=hid (show cO (aY W h) (ks.drop (i+1))=some b2∧u=(acc++a2)++b2 from⟨by rw[hd2];exact f2,by rw[hr2,f3,List.append_assoc]⟩);have hlen:(acc++a2).length≤u.length:=by rw[HQ2.out.2];simp
   have hss:=m7 (a:=acc) (b:=a2) (by rw[← Z7];have:=HUL.out;have:=HKT.out;omega);have n6b:=((HN.out.below hbw HN.out.lt).cell 6 (by simp[ae]));simp only[ae,Z0,Z1,Y2]at n6b;clear hin hi hd1 hd2 hko e1 e2 e3 hbw hr1 hr2 f1 f2 f3 ht2 hok2 hlen;go_wp2_with fail;refine HC.out.mono ?_;rintro e w5 ⟨hb5,rfl⟩;have HB5:=hid hb5;clear hb5;go_wp2_with fail;go_roundw
   case rel=>exact⟨i+1,acc++a2,by first|rfl|rw[gz],by first|rfl|rw[rZ HLT.out HCAP.out],by have:=HLT.out;omega,hid (HB.out.trans (HB5.out.mono HB.out.size)),hid ⟨b2,HQ2.out⟩⟩
   case measure=>(try rw[rZ HLT.out HCAP.out]);simp only[intOf];have:=HLT.out;omega
  ·have q1:decide ((i:Int) < (nk:Int))=false:=Y9 (by omega);have q2:decide (i < nk)=false:=Y9 hin;have hEQ:i=nk:=by omega
   have HEQ:=hid hEQ;clear hin hi hEQ;go_wp2_with fail;go_ret;refine⟨HBV.out.trans (HB.out.mono HBV.out.size),?_⟩;obtain⟨rest,hr1,hr2⟩:=HQ.out;rw[HEQ.out,HNK.out,ks.de]at hr1;have:rest=[]:=by injection hr1 with h;exact h.symm
   rw[hr2,this,List.append_nil];rfl
theorem sf(A:List Tm.Ty)(W:Wri)(body:Tm.Its)(hI:kA A W body)(cv:Value)(gn on g o ai:Nat)(d:Nd)(u:Tm.Wd)(U w:World)(rb fb B gcap capi:Nat)(gi gk:Option Addr)(bs vs:List Value)(b1:List Nat)
  (hU:Below U.heap.size U w)(hfm:bR U w rb fb A)(hnm:d.name=[])(hkd:d.kind=4)(hu:ky W body d.val d.kids=some u)(hoi:an U (rb+1) 70 13 gi body.len capi bs)(hen:Tm.bp U rb body bs)(hr:ad w g o 70 (Tm.au ai cv (.slice gi body.len capi)))(hn:ad w gn on 28 (ae d.name d.kind d.at_ d.size d.val d.text (.slice gk d.kids.len gcap)))
  (hok:d.kids.ok)(htot:d.kids.tot≤1000000)(hkO:an w B 28 7 gk d.kids.len gcap vs)(hkE:aW w B d.kids b1 vs):
  Calls Tryz.prog 96 #[.map (some fb),.pointer (some ⟨g,o,none⟩),.pointer (some ⟨gn,on,none⟩)] w (dh w u):=by
 have HC:=hid (BT A W body hI cv gn on g o ai d u U w rb fb B gcap capi gi gk bs vs b1 hU hfm hnm hkd hu hoi hen hr hn hok htot hkO hkE);have k7:=hr.cell 7 (by simp[Tm.bf]);simp only[Tm.au,Z0,Z1,Y2]at k7;clear hI hU hfm hnm hkd hu hoi hen hr hn hok htot hkO hkE;go_enter Tryz.func96,Tryz.ntmps96;go_wp2_with fail;refine HC.out.mono ?_;rintro e w1 ⟨hb,rfl⟩;have HB:=hid hb;clear hb;go_wp2_with fail;go_ret;exact⟨HB.out,rfl⟩
theorem Fp{W:Wri}{h:Tm.Hd}{l:Tm.Its}{d:Nd}{r:Nds}{u:Tm.Wd}(ho:aH W (.cons h l) (d.put r)=some u):∃a b,bc W h d=some a∧aH W l r=some b∧u=a++b:=by
 have h2:(bc W h d).bind (fun u=>(aH W l r).map (u++ ·))=some u:=ho;cases h3:bc W h d with
 |none=>rw[h3]at h2;cases h2
 |some a=>
  rw[h3]at h2;cases h4:aH W l r with
  |none=>rw[h4]at h2;cases h2
  |some b=>rw[h4]at h2;injection h2 with h2;exact⟨a,b,rfl,rfl,h2.symm⟩
theorem DK{W:Wri}{ai:Nat}{c:Ex.X}{body l:Tm.Its}{d:Nd}{r:Nds}{u:Tm.Wd}(ho:aH W (.when ai c body l) (d.put r)=some u):∃a b,d.name=[]∧d.kind=4∧ky W body d.val d.kids=some a∧aH W l r=some b∧u=a++b:=by
 have h2:aH W (.when ai c body l) (.cons d.name d.kind d.at_ d.size d.val d.text d.kids r)=some u:=ho;rw[bF]at h2;split at h2
 ·cases h2
 ·rename_i hno
  rw[not_or]at hno;cases h3:ky W body d.val d.kids with
  |none=>rw[h3]at h2;cases h2
  |some a=>
   rw[h3]at h2;simp only[Option.bind_some]at h2;cases h4:aH W l r with
   |none=>rw[h4]at h2;cases h2
   |some b=>rw[h4]at h2;injection h2 with h2;exact⟨a,b,Classical.not_not.1 hno.1,Classical.not_not.1 hno.2,rfl,rfl,h2.symm⟩
theorem ay{i n:Nat}(h:i < n)(hn:n≤100000):wrap64 ((i:Int)+1)=((i+1:Nat):Int):=(IntWalk.wrap64_in _ ⟨by omega,by omega⟩).trans (by omega)
theorem tC(A:List Tm.Ty)(W:Wri)(hWl:fi W)(l:Tm.Its)(hF:Tm.bB l)(hlen0:l.len≤100000)(hW:∀i a c b r,l.drop i= .when a c b r→kA A W b)
  (hSt:∀i h r t,l.drop i= .cons h r→h.k= .struct t→tB A W t):kA A W l:=by
 intro U w rb fb cap gcap B ga gk bs vs ks b1 u hU hfm ho hen hkO hkE hok htot hu;have hcap:l.len≤cap:=aT ho;have hgcap:ks.len≤gcap:=aT hkO;have hll:=pW l ks u hu;have hul:=jU hWl l ks u hu;obtain⟨n,hn⟩:∃n,n=l.len:=⟨_,rfl⟩;rw[← hll]at hkO hgcap⊢;rw[← hn]at hcap ho hlen0 hkO hgcap⊢;have hlt0:((n:Int)==(n:Int))=true:=by rw[beq_iff_eq]
 have HN:=hid hn;have HLL:=hid hll;have HU:=hid hU;have HFM:=hid hfm;have HOI:=hid ho;have HEN:=hid hen;have HKO:=hid hkO;have HKE:=hid hkE;have HOK:=hid hok;have HTOT:=hid htot;have HF:=hid hF;have HW:=hid hW;have HST:=hid hSt;have HUL:=hid hul;have HQ0:=hid hu;clear hn hll hU hfm ho hen hkO hkE hok htot hF hW hSt hul hu;go_enter Tryz.func68,Tryz.ntmps68;go_wp2_with fail;refine(ep _).mono ?_;rintro e w1 ⟨rfl,rfl⟩;go_wp2_with fail;go_loopw [7,17] (fun v7 v17 wr=>∃(i:Nat) (acc:Tm.Wd),v7= .string (aa acc)∧v17= .int .i64 (i:Nat)∧i≤n∧Hid (Below w.heap.size w wr)∧Hid (∃rest,aH W (l.drop i) (ks.drop i)=some rest∧u=acc++rest)) (fun _ v17 _=>n - (intOf v17).toNat)
 case atStart=>exact⟨0,[],rfl,rfl,Nat.zero_le _,hid (Y4 _ _),hid ⟨u,by rw[show ks.drop 0=ks by cases ks <;> rfl,show l.drop 0=l by cases l <;> rfl];exact HQ0.out,rfl⟩⟩
 case round=>
  obtain⟨i,acc,rfl,rfl,hi,HB,HQ⟩:=hrel
  by_cases hin:i < n
  ·have q1:decide ((i:Int) < (n:Int))=true:=Z9 (by omega);have q2:decide (i < n)=true:=Z9 hin;have hii:(i:Int) < (n:Int):=by omega
   have hi0:(0:Int)≤(i:Int):=by omega
   have HLT:=hid hin;obtain⟨x,rfl⟩:∃x,gk=some x:=by
    cases gk with
    |none=>have:=HKO.out.aO.1;omega
    |some x=>exact⟨x,rfl⟩
   obtain⟨gb,rfl⟩:∃gb,x=⟨gb,0,none⟩:=⟨x.block,HKO.out.row.1⟩;obtain⟨y,rfl⟩:∃y,ga=some y:=by
    cases ga with
    |none=>have:=HOI.out.aO.1;omega
    |some y=>exact⟨y,rfl⟩
   obtain⟨gi,rfl⟩:∃gi,y=⟨gi,0,none⟩:=⟨y.block,HOI.out.row.1⟩;obtain⟨d2,r2,hd1,hd2⟩:=ks.cE i (by rw[← HLL.out,← HN.out];exact hin);have hko:=HKO.out;rw[HN.out,HLL.out]at hko;obtain⟨g3,c3,bs3,b3,e1,e2,e3⟩:=aW.nd hko HKE.out hd1;have hoi:=HOI.out;rw[HN.out]at hoi;obtain⟨rest,hr1,hr2⟩:=HQ.out;rw[hd1]at hr1;have ht2:d2.tot≤ks.tot:=by have:=ks.jt i;rw[hd1,fI]at this;omega
   have hok2:d2.ok:=by have:=ks.oB i HOK.out;rw[hd1]at this;exact(pV this).1
   have hfd:=Tm.df i l HF.out;have hkt:=HTOT.out;have key:∃a2 b2,(∀X,Below w.heap.size w X→Calls Tryz.prog 96 #[.map (some fb),.pointer (some ⟨gi,i * 13,none⟩),.pointer (some ⟨gb,i * 7,none⟩)] X (dh X a2))∧aH W (l.drop (i+1)) (ks.drop (i+1))=some b2∧rest=a2++b2:=by
    rcases Tm.cE l i (by rw[← HN.out];exact hin)with⟨h,r,hdr⟩|⟨a,c,bd,r,hdr⟩
    ·rw[hdr]at hr1 hfd;obtain⟨cv,hcv,hrow,hnx⟩:=Tm.bp.hd hoi HEN.out hdr;obtain⟨a2,b2,f1,f2,f3⟩:=Fp hr1;refine⟨a2,b2,fun X hX=> ?_,by rw[hnx,hd2];exact f2,f3⟩;have hO:=DJ A W h hfd.1 (fun t ht=>HST.out i h r t hdr ht);have hUX:Below U.heap.size U X:=HU.out.trans (hX.mono HU.out.size);have hrX:=hrow.below hUX hrow.lt;cases hmb:Tm.ba h with
     |true=>exact se A W hWl h hO hmb U X rb fb B c3 gi (i * 13) gb (i * 7) cv g3 bs3 b3 d2 a2 hUX (HFM.out.al (hX.block _ HFM.out.lt)) hrX (e1.below hX e1.lt) (e2.below hX (Z5 _)) (e3.al _ _ _ (fun b hb=>hX.block b (e3.mem _ _ _ b hb).2)) hok2 (by omega) f1
     |false=>exact vI A W h hO hmb U X rb fb B c3 gi (i * 13) gb (i * 7) cv g3 bs3 b3 d2 a2 hUX (HFM.out.al (hX.block _ HFM.out.lt)) hrX (e1.below hX e1.lt) (e2.below hX (Z5 _)) (e3.al _ _ _ (fun b hb=>hX.block b (e3.mem _ _ _ b hb).2)) hok2 (by omega) f1
    ·rw[hdr]at hr1 hfd;obtain⟨cb,gc,capc,bsc,hxc,hoc,hec,hrow,hnx⟩:=Tm.bp.wh hoi HEN.out hdr;obtain⟨a2,b2,p1,p2,f1,f2,f3⟩:=DK hr1;refine⟨a2,b2,fun X hX=> ?_,by rw[hnx,hd2];exact f2,f3⟩;have hUX:Below U.heap.size U X:=HU.out.trans (hX.mono HU.out.size);exact sf A W bd (HW.out i a c bd r hdr) _ gb (i * 7) gi (i * 13) a d2 a2 U X rb fb B c3 capc gc g3 bsc bs3 b3 hUX (HFM.out.al (hX.block _ HFM.out.lt)) p1 p2 f1 hoc hec (hrow.below hUX hrow.lt) (e1.below hX e1.lt) hok2.2 (by unfold Nd.tot at ht2;omega) (e2.below hX (Z5 _)) (e3.al _ _ _ (fun b hb=>hX.block b (e3.mem _ _ _ b hb).2))
   obtain⟨a2,b2,hC,f2,f3⟩:=key;have HC:=hid (hC wr.drew HB.out.drew);have HQ2:=hid (show aH W (l.drop (i+1)) (ks.drop (i+1))=some b2∧u=(acc++a2)++b2 from⟨f2,by rw[hr2,f3,List.append_assoc]⟩);have hlen:(acc++a2).length≤u.length:=by rw[HQ2.out.2];simp
   have hss:=m7 (a:=acc) (b:=a2) (by rw[← Z7];have:=HUL.out;omega);have hs2:¬(9223372036854775807 < acc.length+a2.length):=by rw[← Z7];have:=HUL.out;omega
   have hs3:decide (9223372036854775807 < acc.length+a2.length)=false:=Y9 hs2;have HL9:=hid (show n≤100000 from hlen0);clear hin hi hd1 hd2 hko e1 e2 e3 hoi hr1 hr2 f2 f3 ht2 hok2 hlen hC hfd hkt;go_wp2_with fail;go_region_held3 (fun _=>True) (trivial)
    (first
     |(go_at_call 96;(refine HC.out.mono ?_);(rintro e w5 ⟨hb5,rfl⟩)))
   all_goals
    have HB5:=hid (show Below w.heap.size w w5 from HB.out.trans (Below.trans (Y4 _ _).drew (hb5.mono HB.out.size)));clear hb5;go_wp2_with fail;go_roundw
    case rel=>exact⟨i+1,acc++a2,by first|rfl|rw[gz],by first|rfl|rw[ay HLT.out HL9.out],by have:=HLT.out;omega,HB5,hid ⟨b2,HQ2.out⟩⟩
    case measure=>(try rw[ay HLT.out HL9.out]);simp only[intOf];have:=HLT.out;omega
  ·have q1:decide ((i:Int) < (n:Int))=false:=Y9 (by omega);have q2:decide (i < n)=false:=Y9 hin;have hEQ:i=n:=by omega
   have HEQ:=hid hEQ;clear hin hi hEQ;go_wp2_with fail;go_ret;refine⟨HB.out,?_⟩;obtain⟨rest,hr1,hr2⟩:=HQ.out;have e1:ks.drop i= .nil:=by rw[HEQ.out,HN.out,HLL.out];exact ks.de
   have e2:l.drop i= .nil:=by rw[HEQ.out,HN.out];exact Tm.de l
   rw[e1,e2]at hr1;have:rest=[]:=by injection hr1 with h;exact h.symm
   rw[hr2,this,List.append_nil];rfl
end
end Go.Proofs.YtlomecfhobehnaaGreatDoor
