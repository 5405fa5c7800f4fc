import Derived.Test.YtlomecfhobehnaaGreatDoorMgFixSets42
set_option linter.unusedVariables false
set_option linter.unusedSimpArgs false
set_option maxRecDepth 100000
set_option maxHeartbeats 4000000
namespace Go.Proofs.YtlomecfhobehnaaGreatDoor
open Lib (hid)
section
open Go Go.RowKit
open Rd
open Ly
namespace Fx
open Ly Tm
theorem zd{C:Wd→Nat}{L:List Ty}{root:Wd}{d:Nd}(h:dj C L root d.kids=none):bW C L root d= .bad 0:=by
 unfold bW;rw[h]
theorem ze{C:Wd→Nat}{L:List Ty}{root u:Wd}{d:Nd}{p:Nds}(h:dj C L root d.kids=some p)(h2:wrT L root {d with kids:=p}=some u)(h3:4000 < u.length):bW C L root d= .bad 1:=by
 unfold bW;rw[h];simp only[];unfold vT;rw[h2];simp only[];rw[if_pos h3]
theorem zf{C:Wd→Nat}{L:List Ty}{root u:Wd}{d:Nd}{p:Nds}(h:dj C L root d.kids=some p)(h2:wrT L root {d with kids:=p}=some u)(h3:¬4000 < u.length)(h4:rdT L root u=none):bW C L root d= .bad 2:=by
 unfold bW;rw[h];simp only[];unfold vT;rw[h2];simp only[];rw[if_neg h3,h4]
theorem qq{C:Wd→Nat}{L:List Ty}{root u:Wd}{d m:Nd}{p:Nds}(h:dj C L root d.kids=some p)(h2:wrT L root {d with kids:=p}=some u)(h3:¬4000 < u.length)(h4:rdT L root u=some m):bW C L root d=if dT {d with kids:=p} m=true then .ok u else .bad 2:=by
 unfold bW;rw[h];simp only[];unfold vT;rw[h2];simp only[];rw[if_neg h3,h4];simp only[]
 by_cases hs:dT {d with kids:=p} m=true
 ·rw[if_pos hs,if_pos ((so _ _).1 hs).symm]
 ·rw[if_neg hs,if_neg (fun e=>hs ((so _ _).2 e.symm))]
end Fx
def GW:Nat→Int
 |0=>2
 |1=>12
 |_=>13
def oH(w:World)(r:Fx.Dn)(e:Ending)(w':World):Prop:=Below w.heap.size w w'∧match r with
 | .ok u=>e= .returned (.tuple #[.string (aa u),.nilIface])
 | .bad k=>e= .returned (.tuple #[.string {data:= #[]},.iface 48 (.int .i64 (GW k))])
theorem nF(tys:List Tm.Ty)(root u0:Tm.Wd)(d:Nd)(w:World)(B cap Bn:Nat)(a:Option Addr)(vs:List Value)(v:Value)(bl:List Nat)(hT:TyF w B tys a cap vs)(hr:root.length≤200000000000000)(hd:NdV w Bn bl d v)(hok:d.ok)(htot:d.tot≤800000)(hw:aY (wrS tys.reverse) (cf root) d=some u0):
  Calls Tryz.prog 34 #[.agg #[.slice a tys.length cap],.string (aa root),v] w (oH w (Fx.bW Fx.bJ tys.reverse root d)):=by
 obtain⟨gk,gcap,ksv,b1,hv,hbl,hkO,hkE⟩:=hd;have hv2:v= .agg #[.string (aa d.name),.int .i64 (d.kind:Nat),.int .i64 (d.at_:Nat),.int .i64 (d.size:Nat),.int .i64 d.val,.string (aa d.text),.slice gk d.kids.len gcap]:=hv;subst hv2;obtain⟨m0,hm0⟩:∃m0,m0=d.kids.len:=⟨_,rfl⟩;obtain⟨n,hn⟩:∃n,n=tys.length:=⟨_,rfl⟩;rw[← hm0];obtain⟨V1,hV1⟩:∃V1,V1=(w.alloc (.cells #[.slice a n cap] 75)).alloc (.cells #[.string (aa d.name),.int .i64 (d.kind:Nat),.int .i64 (d.at_:Nat),.int .i64 (d.size:Nat),.int .i64 d.val,.string (aa d.text),.slice gk m0 gcap] 28):=⟨_,rfl⟩;have hb1:Below w.heap.size w V1:=by rw[hV1];exact((Y4 _ _).alloc (Z5 _) _).alloc (by simp) _
 have hz1:V1.heap.size=w.heap.size+2:=by rw[hV1];simp
 have hr3:ad V1 w.heap.size 0 75 [.slice a n cap]:=by rw[hV1];exact(ad.new w _ _).alloc _
 have hr5:ad V1 (w.heap.size+1) 0 28 [.string (aa d.name),.int .i64 (d.kind:Nat),.int .i64 (d.at_:Nat),.int .i64 (d.size:Nat),.int .i64 d.val,.string (aa d.text),.slice gk m0 gcap]:=by rw[hV1];exact ad.ix _ _ (by simp) _ _
 have hF:∀t∈tys,Tm.aZ t∧Tm.Its.sz t.items≤100000:=hT.ew;have hnd1:NdV V1 Bn bl d (.agg #[.string (aa d.name),.int .i64 (d.kind:Nat),.int .i64 (d.at_:Nat),.int .i64 (d.size:Nat),.int .i64 d.val,.string (aa d.text),.slice gk m0 gcap]):=⟨gk,gcap,ksv,b1,by rw[hm0];rfl,hbl,hkO.below hb1 (Z5 _),hkE.al _ _ _ fun b hb=>hb1.block b (hkE.mem _ _ _ b hb).2⟩;have hFX:=Al tys root u0 d V1 B cap Bn a vs _ bl (hT.up hb1) hr hnd1 hok htot hw;obtain⟨fo,hfo⟩:∃fo,fo=Fx.dj Fx.bJ tys.reverse root d.kids:=⟨_,rfl⟩;rw[← hfo]at hFX;obtain⟨r,hrr⟩:∃r,r=Fx.bW Fx.bJ tys.reverse root d:=⟨_,rfl⟩;have hwd:(Fx.wrT tys.reverse root d).isSome=true:=by unfold Fx.wrT;rw[hw];rfl
 have HP:Hid (∀p,fo=some p→∃u,aY (wrS tys.reverse) (cf root) {d with kids:=p}=some u∧Nd.ok {d with kids:=p}∧Nd.tot {d with kids:=p}=d.tot∧u.length≤d.tot):=hid (fun p hp=>by
  rw[hfo]at hp;obtain⟨k1,k2,k3⟩:=Fx.dO hwd;have h1:=Fx.fJ tys.reverse hT.jC root d.kids p hp k1;have h2:=Fx.mm Fx.iR tys.reverse hT.jC root d.kids p hp k1 hok.2 (by unfold Nd.tot at htot;omega);obtain⟨u,hu⟩:=Option.isSome_iff_exists.1 h1;have h3:aY (wrS tys.reverse) (cf root) {d with kids:=p}=some u:=by
   unfold aY;simp only[];rw[if_neg (by rw[not_or];exact⟨fun h=>h k2,fun h=>h k3⟩)];exact hu
  have h4:Nd.tot {d with kids:=p}=d.tot:=by unfold Nd.tot;simp only[];omega
  have h5:=oC (mZ tys.reverse) h3;exact⟨u,h3,⟨hok.1,h2.1⟩,h4,by omega⟩)
 have HWR:Hid (∀X p u Bq bq g c,Below w.heap.size w X→fo=some p→aY (wrS tys.reverse) (cf root) {d with kids:=p}=some u→Nd.ok {d with kids:=p}→Nd.tot {d with kids:=p}=d.tot→NdV X Bq bq {d with kids:=p} (.agg #[.string (aa d.name),.int .i64 (d.kind:Nat),.int .i64 (d.at_:Nat),.int .i64 (d.size:Nat),.int .i64 d.val,.string (aa d.text),.slice g p.len c])→Calls Tryz.prog 10 #[.slice a n cap,.string (aa root),.agg #[.string (aa d.name),.int .i64 (d.kind:Nat),.int .i64 (d.at_:Nat),.int .i64 (d.size:Nat),.int .i64 d.val,.string (aa d.text),.slice g p.len c]] X fun e w'=>Below X.heap.size X w'∧e= .returned (.tuple #[.string (aa u),.nilIface])):=hid (fun X p u Bq bq g c hX hp hu ho ht hnv=>by
  have h9:=hT.up hX;rw[hn];exact iN tys root u _ X B cap B Bq a vs _ bq h9.own h9.enc hF hT.few hT.chain hr hnv ho (by omega) hu)
 have HRD:Hid (∀X (u:Tm.Wd),Below w.heap.size w X→u.length≤4000→Calls Tryz.prog 9 #[.slice a n cap,.string (aa root),.string (aa u)] X (cQ X (aB tys root u))):=hid (fun X u hX hu=>by
  have h9:=hT.up hX;rw[hn];exact eO tys root u X B cap B a vs h9.own h9.enc hF hT.few hT.chain hr (by omega))
 have HR0:Hid (fo=none→r= .bad 0):=hid (fun h=>by rw[hrr];exact Fx.zd (by rw[← hfo];exact h));have HR1:Hid (∀p u,fo=some p→aY (wrS tys.reverse) (cf root) {d with kids:=p}=some u→4000 < u.length→r= .bad 1):=hid (fun p u h1 h2 h3=>by rw[hrr];exact Fx.ze (by rw[← hfo];exact h1) h2 h3);have HR2:Hid (∀p u,fo=some p→aY (wrS tys.reverse) (cf root) {d with kids:=p}=some u→¬4000 < u.length→aB tys root u=none→r= .bad 2):=hid (fun p u h1 h2 h3 h4=>by rw[hrr];exact Fx.zf (by rw[← hfo];exact h1) h2 h3 h4);have HR3:Hid (∀p u m,fo=some p→aY (wrS tys.reverse) (cf root) {d with kids:=p}=some u→¬4000 < u.length→aB tys root u=some m→r=if Fx.dT {d with kids:=p} m=true then .ok u else .bad 2):=hid (fun p u m h1 h2 h3 h4=>by rw[hrr];exact Fx.qq (by rw[← hfo];exact h1) h2 h3 h4);have HTT:=hid htot;rw[← hrr];rw[← hn]at hFX⊢;have HFX:=hid hFX;have q1:=hr3.cell0 0 (by simp);simp only[Z0]at q1;have c0:=hr5.cell0 0 (by simp);have c1:=hr5.cell0 1 (by simp);have c2:=hr5.cell0 2 (by simp);have c3:=hr5.cell0 3 (by simp);have c4:=hr5.cell0 4 (by simp);have c5:=hr5.cell0 5 (by simp);have c6:=hr5.cell0 6 (by simp);simp only[Z0,Z1]at c0 c1 c2 c3 c4 c5 c6;rw[hV1]at q1 c0 c1 c2 c3 c4 c5 c6;have HV1:=hid hV1;have HB1:=hid hb1;have HR3b:=hid hr3;have HR5:=hid hr5;have HZ1:=hid hz1;clear hT hr hok htot hw hv hbl hkO hkE hnd1 hF hfo hrr hwd hV1 hb1 hr3 hr5 hz1 hm0 hn hFX;go_enter Tryz.func34,Tryz.ntmps34;go_wp2_with fail;rw[← HV1.out];refine HFX.out.mono ?_;rintro e w2 ⟨hb2,hv2⟩;have hr32:=HR3b.out.below hb2 HR3b.out.lt;have hr52:=HR5.out.below hb2 HR5.out.lt;have hbw2:Below w.heap.size w w2:=HB1.out.trans (hb2.mono HB1.out.size);have hsz2:w.heap.size+2≤w2.heap.size:=by have:=hb2.size;have:=HZ1.out;omega
 clear q1 c0 c1 c2 c3 c4 c5 c6 hb2 HFX;cases fo with
 |none=>
  simp only[]at hv2;subst hv2;have HRR:=hid (HR0.out rfl);have HBE:=hid (eg hbw2 (show w.heap.size≤w.heap.size+1 by omega) (.string {data:= #[]}) (.int .i64 0) (.int .i64 0) (.int .i64 0) (.int .i64 0) (.string {data:= #[]}) (.slice none 0 0));have y0:=hr52.cell0 0 (by simp);have z0:=hr52.frozen0 0 (by simp);have y1:=hr52.cell0 1 (by simp);have z1:=hr52.frozen0 1 (by simp);have y2:=hr52.cell0 2 (by simp);have z2:=hr52.frozen0 2 (by simp);have y3:=hr52.cell0 3 (by simp);have z3:=hr52.frozen0 3 (by simp);have y4:=hr52.cell0 4 (by simp);have z4:=hr52.frozen0 4 (by simp);have y5:=hr52.cell0 5 (by simp);have z5:=hr52.frozen0 5 (by simp);have y6:=hr52.cell0 6 (by simp);have z6:=hr52.frozen0 6 (by simp);simp only[Z0,Z1]at y0 y1 y2 y3 y4 y5 y6;clear hr32 hr52 hbw2 hsz2;go_wp2_with fail;go_ret2;rw[HRR.out];exact⟨HBE.out,rfl⟩
 |some p=>
  simp only[]at hv2;obtain⟨g2,cc2,bl2,vs2,rfl,hk2⟩:=hv2;obtain⟨u,hu,hpo,hpt,hul⟩:=HP.out p rfl;obtain⟨np,hnp⟩:∃np,np=p.len:=⟨_,rfl⟩;rw[← hnp];obtain⟨P,hP⟩:∃P,P=st7 w2 (w.heap.size+1) (.string (aa d.name)) (.int .i64 (d.kind:Nat)) (.int .i64 (d.at_:Nat)) (.int .i64 (d.size:Nat)) (.int .i64 d.val) (.string (aa d.text)) (.slice g2 np cc2):=⟨_,rfl⟩;have hbP:Below w.heap.size w P:=by rw[hP];exact eg hbw2 (by omega) _ _ _ _ _ _ _
  have hPs:P.heap.size=w2.heap.size:=by rw[hP];exact pz _ _ _ _ _ _ _
  have hP5:ad P (w.heap.size+1) 0 28 [.string (aa d.name),.int .i64 (d.kind:Nat),.int .i64 (d.at_:Nat),.int .i64 (d.size:Nat),.int .i64 d.val,.string (aa d.text),.slice g2 np cc2]:=by rw[hP];exact lH hr52 rfl _ _ _ _ _ _ _
  have hP3:ad P w.heap.size 0 75 [.slice a n cap]:=hr32.of_heap (by rw[hP];exact cY _ _ _ _ _ _ _ _ (by omega));have hfar:∀b,b≠w.heap.size+1→P.heap[b]? =w2.heap[b]? :=fun b hb=>by rw[hP];exact cY _ _ _ _ _ _ _ _ hb
  have hkP:aQ P V1.heap.size p g2 cc2 bl2 vs2:=hk2.al fun b h1 h2=>hfar b (by have:=HZ1.out;omega)
  have hnvP:∀X,Below P.heap.size P X→NdV X V1.heap.size (aU g2++bl2) {d with kids:=p} (.agg #[.string (aa d.name),.int .i64 (d.kind:Nat),.int .i64 (d.at_:Nat),.int .i64 (d.size:Nat),.int .i64 d.val,.string (aa d.text),.slice g2 np cc2]):=fun X hX=>by
   have:=(hkP.al (w':=X) fun b h1 h2=>hX.block b h2).nd d.name d.kind d.at_ d.size d.val d.text;rw[hnp];exact this
  have HW2:=hid (by
   have h9:=HWR.out P p u V1.heap.size (aU g2++bl2) g2 cc2 hbP rfl hu hpo hpt;rw[← hnp]at h9;exact h9 (hnvP P (Y4 _ _)))
  have HNV:=hid hnvP;have HPD:=hid (And.intro hu hpt);have HUL:=hid hul;have HP3:=hid hP3;have HP5:=hid hP5;have HBP:=hid hbP;have HP:=hid hP;have HSZ2:=hid hsz2;have HPS:=hid hPs;have y0:=hr52.cell0 0 (by simp);have z0:=hr52.frozen0 0 (by simp);have y1:=hr52.cell0 1 (by simp);have z1:=hr52.frozen0 1 (by simp);have y2:=hr52.cell0 2 (by simp);have z2:=hr52.frozen0 2 (by simp);have y3:=hr52.cell0 3 (by simp);have z3:=hr52.frozen0 3 (by simp);have y4:=hr52.cell0 4 (by simp);have z4:=hr52.frozen0 4 (by simp);have y5:=hr52.cell0 5 (by simp);have z5:=hr52.frozen0 5 (by simp);have y6:=hr52.cell0 6 (by simp);have z6:=hr52.frozen0 6 (by simp);simp only[Z0,Z1]at y0 y1 y2 y3 y4 y5 y6;have p0:=hr52.aw 0 (by simp) (.string (aa d.name));have r0:=p0.cell0 0 (by simp);have p1:=p0.aw 1 (by simp) (.int .i64 (d.kind:Nat));have r1:=p1.cell0 1 (by simp);have p2:=p1.aw 2 (by simp) (.int .i64 (d.at_:Nat));have r2:=p2.cell0 2 (by simp);have p3:=p2.aw 3 (by simp) (.int .i64 (d.size:Nat));have r3:=p3.cell0 3 (by simp);have p4:=p3.aw 4 (by simp) (.int .i64 d.val);have r4:=p4.cell0 4 (by simp);have p5:=p4.aw 5 (by simp) (.string (aa d.text));have r5:=p5.cell0 5 (by simp);have p6:=p5.aw 6 (by simp) (.slice g2 np cc2);have r6:=p6.cell0 6 (by simp);simp only[Z2,Z3,Z0,Z1]at r0 r1 r2 r3 r4 r5 r6;clear p0 p1 p2 p3 p4 p5 p6;have j3:=hP3.cell0 0 (by simp);simp only[Z0]at j3;rw[HP.out]at j3;have j2:=hr32.cell0 0 (by simp);simp only[Z0]at j2;clear hr32 hr52 hbw2 hsz2 hk2 hkP hnvP hfar hP3 hP5 hbP hPs hu hpo hpt hul hP hnp;go_wp2_with fail;rw[show(((((((w2.setCell ⟨w.heap.size+1,0,none⟩ (.string (aa d.name))).setCell ⟨w.heap.size+1,1,none⟩ (.int .i64 (d.kind:Nat))).setCell ⟨w.heap.size+1,2,none⟩ (.int .i64 (d.at_:Nat))).setCell ⟨w.heap.size+1,3,none⟩ (.int .i64 (d.size:Nat))).setCell ⟨w.heap.size+1,4,none⟩ (.int .i64 d.val)).setCell ⟨w.heap.size+1,5,none⟩ (.string (aa d.text))).setCell ⟨w.heap.size+1,6,none⟩ (.slice g2 np cc2))=P from HP.out.symm];refine HW2.out.mono ?_;rintro e w3 ⟨hb3,rfl⟩;have HB3:=hid hb3;have HBW3:=hid (HBP.out.trans (hb3.mono HBP.out.size));have hr33:=HP3.out.below hb3 HP3.out.lt;have hr53:=HP5.out.below hb3 HP5.out.lt;have HR33:=hid hr33;have HR53:=hid hr53;have q1:=hr33.cell0 0 (by simp);simp only[Z0]at q1;clear j3 j2 hr33 hr53 hb3 HW2 y0 y1 y2 y3 y4 y5 y6 z0 z1 z2 z3 z4 z5 z6 r0 r1 r2 r3 r4 r5 r6
  by_cases hful:4000 < u.length
  ·have x1:decide ((4000:Int) < (u.length:Int))=true:=Z9 (by omega);have x2:decide (4000 < u.length)=true:=Z9 hful;have HRR:=hid (HR1.out p u rfl HPD.out.1 hful);clear hful;go_wp2_with fail;go_ret2;rw[HRR.out];exact⟨HBW3.out,rfl⟩
  ·have x1:decide ((4000:Int) < (u.length:Int))=false:=Y9 (by omega);have x2:decide (4000 < u.length)=false:=Y9 hful;have HRD3:=hid (HRD.out w3 u HBW3.out (by omega));obtain⟨o,ho⟩:∃o,o=aB tys root u:=⟨_,rfl⟩;rw[← ho]at HRD3;have HO:=hid ho;have HFUL:=hid hful;clear hful ho;go_wp2_with fail;refine HRD3.out.mono ?_;unfold cQ;rintro e w4 ⟨hb4,hv4⟩;have HB4:=hid hb4;have HBW4:=hid (HBW3.out.trans (hb4.mono HBW3.out.size));have hr34:=HR33.out.below hb4 HR33.out.lt;have hr54:=HR53.out.below hb4 HR53.out.lt;have HR54:=hid hr54;clear q1 hb4;cases o with
   |none=>
    obtain⟨ty,vv,rfl⟩:=hv4;have HRR:=hid (HR2.out p u rfl HPD.out.1 HFUL.out HO.out.symm);clear hr34 hr54;go_wp2_with fail;go_ret2;rw[HRR.out];exact⟨HBW4.out.alloc HBW4.out.size _,rfl⟩
   |some m=>
    obtain⟨v4,bl4,rfl,hnd4,hnp4⟩:=hv4;obtain⟨g4,cc4,hv4e⟩:=hnd4.cells;subst hv4e;obtain⟨ml,hml⟩:∃ml,ml=m.kids.len:=⟨_,rfl⟩;rw[← hml]at hnd4⊢;obtain⟨Q,hQ⟩:∃Q,Q=w4.alloc (.cells #[.string (aa m.name),.int .i64 (m.kind:Nat),.int .i64 (m.at_:Nat),.int .i64 (m.size:Nat),.int .i64 m.val,.string (aa m.text),.slice g4 ml cc4] 28):=⟨_,rfl⟩;have hbQ:Below w4.heap.size w4 Q:=by rw[hQ];exact(Y4 _ _).alloc (Z5 _) _
    have hq0:ad Q w4.heap.size 0 28 [.string (aa m.name),.int .i64 (m.kind:Nat),.int .i64 (m.at_:Nat),.int .i64 (m.size:Nat),.int .i64 m.val,.string (aa m.text),.slice g4 ml cc4]:=by rw[hQ];exact ad.new w4 _ _
    have hq5:=hr54.below hbQ hr54.lt;have hndQ:=hnd4.al (w':=Q) fun b hb=>hbQ.block b (hnd4.mem b hb).2
    have hbPQ:Below P.heap.size P Q:=(HB3.out.trans (HB4.out.mono HB3.out.size)).trans (hbQ.mono (Nat.le_trans HB3.out.size HB4.out.size));have hsm:=Ec {d with kids:=p} m (by rw[HPD.out.2];exact HTT.out) Q V1.heap.size w3.heap.size _ bl4 _ _ (HNV.out Q hbPQ) hndQ;have hrs:=HR3.out p u m rfl HPD.out.1 HFUL.out HO.out.symm;obtain⟨sd,hsd⟩:∃sd,sd=Fx.dT {d with kids:=p} m:=⟨_,rfl⟩;rw[← hsd]at hsm hrs;have HSM:=hid hsm;have HRS:=hid hrs;have HBQ:=hid (HBW4.out.trans (hbQ.mono HBW4.out.size));have c0:=hq5.cell0 0 (by simp);have c1:=hq5.cell0 1 (by simp);have c2:=hq5.cell0 2 (by simp);have c3:=hq5.cell0 3 (by simp);have c4:=hq5.cell0 4 (by simp);have c5:=hq5.cell0 5 (by simp);have c6:=hq5.cell0 6 (by simp);simp only[Z0,Z1]at c0 c1 c2 c3 c4 c5 c6;have m0:=hq0.cell0 0 (by simp);have m1:=hq0.cell0 1 (by simp);have m2:=hq0.cell0 2 (by simp);have m3:=hq0.cell0 3 (by simp);have m4:=hq0.cell0 4 (by simp);have m5:=hq0.cell0 5 (by simp);have m6:=hq0.cell0 6 (by simp);simp only[Z0,Z1]at m0 m1 m2 m3 m4 m5 m6;have HQ:=hid hQ;rw[hQ]at c0 c1 c2 c3 c4 c5 c6 m0 m1 m2 m3 m4 m5 m6;clear hr34 hr54 hnd4 hnp4 hQ hbQ hq0 hq5 hndQ hbPQ hsm hrs hsd hml;go_wp2_with fail;rw[← HQ.out];refine HSM.out.mono ?_;rintro e w6 ⟨rfl,hb6⟩;have HBE:=hid (HBQ.out.trans (hb6.mono HBQ.out.size));clear hb6;cases sd with
    |false=>
     have HRR:=hid (show r= .bad 2 by rw[HRS.out];rfl);go_wp2_with fail;go_ret2;rw[HRR.out];exact⟨HBE.out,rfl⟩
    |true=>
     have HRR:=hid (show r= .ok u by rw[HRS.out];rfl);go_wp2_with fail;go_ret2;rw[HRR.out];exact⟨HBE.out,rfl⟩
end
section
open Ly
theorem FU{w u:Tm.Wd}:Ex.InR (mO w u):=by
 cases hk:Tm.kindOf w with
 |some k=>exact rT (by rw[hk];rfl)
 |none=>
  unfold mO bj fR eF;rw[hk];simp[Ex.InR,fG]
namespace Ly
def Am(S:Sub):Prop:=∀nm st ks st',S nm st=some (ks,st')→ks.ok∧ks.tot+st.at_+8 * st.n≤st'.at_+8 * st'.n
theorem tQ{s u:Tm.Wd}{k:Int}{st st':St}(h:tak s k st=some (u,st')):u.length+st.at_≤st'.at_∧st'.n=st.n:=by
 unfold tak at h;split at h
 ·cases h
 ·cases h;refine⟨?_,rfl⟩;rw[List.length_take];show min k.toNat _+st.at_≤st.at_+k.toNat;omega
theorem zg{st st':St}(h:nod st=some st'):st'.at_=st.at_∧st'.n=st.n+1:=⟨kO h,nN h⟩
theorem one_le{S:Sub}(hS:Am S){s:Tm.Wd}{N:Ex.Names}{h:Tm.Hd}{st st':St}{d:Nd}(ho:bI S s N h st=some (d,st')):d.ok∧d.tot+st.at_+8 * st.n≤st'.at_+8 * st'.n:=by
 unfold bI at ho;cases hn:nod st with
 |none=>rw[hn]at ho;cases ho
 |some st1=>
  obtain⟨a1,a2⟩:=zg hn;rw[hn]at ho;simp only[Option.bind_some]at ho;cases hk:h.k with
  |scalar w=>
   rw[hk]at ho;simp only[]at ho;cases ht:tak s (bj w:Nat) st1 with
   |none=>rw[ht]at ho;cases ho
   |some p=>
    obtain⟨u,st2⟩:=p;obtain⟨b1,b2⟩:=tQ ht;rw[ht]at ho;simp only[Option.map_some,Option.some.injEq,Prod.mk.injEq]at ho;obtain⟨rfl,rfl⟩:=ho;refine⟨⟨FU,trivial⟩,?_⟩;show 0+8+0+st.at_+8 * st.n≤_;omega
  |bytes=>
   rw[hk]at ho;simp only[]at ho;cases hc:h.cnt.bind (Ex.ev N)with
   |none=>rw[hc]at ho;cases ho
   |some k=>
    rw[hc]at ho;simp only[Option.bind_some]at ho;cases ht:tak s k st1 with
    |none=>rw[ht]at ho;cases ho
    |some p=>
     obtain⟨u,st2⟩:=p;obtain⟨b1,b2⟩:=tQ ht;rw[ht]at ho;simp only[Option.map_some,Option.some.injEq,Prod.mk.injEq]at ho;obtain⟨rfl,rfl⟩:=ho;refine⟨⟨(by unfold Ex.InR;simp),trivial⟩,?_⟩;show u.length+8+0+st.at_+8 * st.n≤_;omega
  |struct t=>
   rw[hk]at ho;simp only[]at ho;cases ht:S t st1 with
   |none=>rw[ht]at ho;cases ho
   |some p=>
    obtain⟨ks,st2⟩:=p;obtain⟨b1,b2⟩:=hS _ _ _ _ ht;rw[ht]at ho;simp only[Option.map_some,Option.some.injEq,Prod.mk.injEq]at ho;obtain⟨rfl,rfl⟩:=ho;refine⟨⟨(by unfold Ex.InR;simp),b1⟩,?_⟩;show 0+8+ks.tot+st.at_+8 * st.n≤_;omega
theorem Ee{f:St→Option (Nd×St)}(hf:∀st st' d,f st=some (d,st')→d.ok∧d.tot+st.at_+8 * st.n≤st'.at_+8 * st'.n):∀(k:Nat) (st st':St) (ks:Nds),Ly.rep f k st=some (ks,st')→ks.ok∧ks.tot+st.at_+8 * st.n≤st'.at_+8 * st'.n
 |0,st,st',ks,h=>by
  cases h;exact⟨trivial,by show 0+_+_≤_;omega⟩
 |k+1,st,st',ks,h=>by
  have h2:(f st).bind (fun p=>(Ly.rep f k p.2).map fun q=>(p.1.put q.1,q.2))=some (ks,st'):=h;cases h3:f st with
  |none=>rw[h3]at h2;cases h2
  |some p=>
   obtain⟨d,st1⟩:=p;rw[h3]at h2;simp only[Option.bind_some]at h2;cases h4:Ly.rep f k st1 with
   |none=>rw[h4]at h2;cases h2
   |some q=>
    obtain⟨r,st2⟩:=q;rw[h4]at h2;simp only[Option.map_some,Option.some.injEq,Prod.mk.injEq]at h2;obtain⟨rfl,rfl⟩:=h2;obtain⟨a1,a2⟩:=hf _ _ _ h3;obtain⟨b1,b2⟩:=Ee hf k _ _ _ h4;exact⟨⟨a1.1,a1.2,b1⟩,by rw[fI];omega⟩
theorem Hh{S:Sub}(hS:Am S){s:Tm.Wd}{N:Ex.Names}{h:Tm.Hd}{st st':St}{d:Nd}(ho:hdR S s N h st=some (d,st')):d.ok∧d.tot+st.at_+8 * st.n≤st'.at_+8 * st'.n:=by
 unfold hdR at ho;split at ho
 ·unfold hH at ho;cases hn:nod st with
  |none=>rw[hn]at ho;cases ho
  |some st1=>
   obtain⟨a1,a2⟩:=zg hn;rw[hn]at ho;simp only[Option.bind_some]at ho;cases hc:h.cnt.bind (Ex.ev N)with
   |none=>rw[hc]at ho;cases ho
   |some k=>
    rw[hc]at ho;simp only[Option.bind_some]at ho;split at ho
    ·cases ho
    ·cases hr:Ly.rep (bI S s N h) k.toNat st1 with
     |none=>rw[hr]at ho;cases ho
     |some p=>
      obtain⟨ks,st2⟩:=p;obtain⟨b1,b2⟩:=Ee (fun _ _ _=>one_le hS) _ _ _ _ hr;rw[hr]at ho;simp only[Option.map_some,Option.some.injEq,Prod.mk.injEq]at ho;obtain⟨rfl,rfl⟩:=ho;refine⟨⟨(by unfold Ex.InR;simp),b1⟩,?_⟩;show 0+8+ks.tot+st.at_+8 * st.n≤_;omega
 ·exact one_le hS ho
theorem tR{S:Sub}(hS:Am S)(s:Tm.Wd):∀(l:Tm.Its) (N N':Ex.Names) (st st':St) (ks:Nds),bM S s l N st=some (ks,N',st')→ks.ok∧ks.tot+st.at_+8 * st.n≤st'.at_+8 * st'.n
 | .nil,N,N',st,st',ks,h=>by
  cases h;exact⟨trivial,by show 0+_+_≤_;omega⟩
 | .cons h l,N,N',st,st',ks,ho=>by
  cases h1:hdR S s N h st with
  |none=>rw[fV h1]at ho;cases ho
  |some p=>
   obtain⟨d,st1⟩:=p;rw[pP h1]at ho;cases h2:bM S s l (if Tm.single h then upd N h.name d.val else N) st1 with
   |none=>rw[h2]at ho;cases ho
   |some q=>
    obtain⟨r,N2,st2⟩:=q;rw[h2]at ho;simp only[Option.map_some,Option.some.injEq,Prod.mk.injEq]at ho;obtain⟨rfl,rfl,rfl⟩:=ho;obtain⟨a1,a2⟩:=Hh hS h1;obtain⟨b1,b2⟩:=tR hS s l _ _ _ _ _ h2;exact⟨⟨a1.1,a1.2,b1⟩,by rw[fI];omega⟩
 | .when a c b l,N,N',st,st',ks,ho=>by
  rw[jm]at ho;unfold fe at ho;cases hn:nod st with
  |none=>rw[hn]at ho;cases ho
  |some st1=>
   obtain⟨a1,a2⟩:=zg hn;rw[hn]at ho;simp only[Option.bind_some]at ho;cases hc:Ex.ev N c with
   |none=>rw[hc]at ho;cases ho
   |some v=>
    rw[hc]at ho;simp only[Option.bind_some]at ho;cases hb:(if v=0 then some (Nds.nil,N,st1)else bM S s b N st1)with
    |none=>rw[hb]at ho;cases ho
    |some p=>
     obtain⟨kb,Nb,stb⟩:=p;have hkb:kb.ok∧kb.tot+st1.at_+8 * st1.n≤stb.at_+8 * stb.n:=by
      split at hb
      ·cases hb;exact⟨trivial,by show 0+_+_≤_;omega⟩
      ·exact tR hS s b _ _ _ _ _ hb
     rw[hb]at ho;simp only[Option.map_some,Option.bind_some]at ho;cases h2:bM S s l Nb stb with
     |none=>rw[h2]at ho;cases ho
     |some q=>
      obtain⟨r,N2,st2⟩:=q;rw[h2]at ho;simp only[Option.map_some,Option.some.injEq,Prod.mk.injEq]at ho;obtain⟨rfl,rfl,rfl⟩:=ho;obtain⟨b1,b2⟩:=tR hS s l _ _ _ _ _ h2;refine⟨⟨(by show Ex.InR (if v=0 then 0 else 1);split <;> (unfold Ex.InR;simp)),hkb.1,b1⟩,?_⟩;show 0+8+kb.tot+r.tot+st.at_+8 * st.n≤_;omega
theorem zh(s:Tm.Wd):∀l:List Tm.Ty,Am (rdS s l)
 |[],nm,st,ks,st',h=>by cases h
 |t::r,nm,st,ks,st',h=>by
  by_cases hn:t.name=nm
  ·subst hn;rw[tv]at h;cases h1:bM (rdS s r) s t.items (fun _=>none) st with
   |none=>rw[h1]at h;cases h
   |some p=>
    obtain⟨k2,N2,st2⟩:=p;rw[h1]at h;simp only[Option.map_some,Option.some.injEq,Prod.mk.injEq]at h;obtain⟨rfl,rfl⟩:=h;exact tR (zh s r) s _ _ _ _ _ _ h1
  ·rw[jr hn]at h;exact zh s r nm st ks st' h
def tS(S:Sub):Prop:=∀nm st ks st',S nm st=some (ks,st')→(st.n≤400→st'.n≤400)
theorem tT{st st':St}(h:nod st=some st'):st.n≤400→st'.n≤400:=by
 intro hn;unfold nod at h;split at h
 ·cases h
 ·cases h;show st.n+1≤400;omega
theorem tU{S:Sub}(hS:tS S){s:Tm.Wd}{N:Ex.Names}{h:Tm.Hd}{st st':St}{d:Nd}(ho:bI S s N h st=some (d,st')):(st.n≤400→st'.n≤400):=by
 unfold bI at ho;cases hn:nod st with
 |none=>rw[hn]at ho;cases ho
 |some st1=>
  have a2:=tT hn;rw[hn]at ho;simp only[Option.bind_some]at ho;cases hk:h.k with
  |scalar w=>
   rw[hk]at ho;simp only[]at ho;cases ht:tak s (bj w:Nat) st1 with
   |none=>rw[ht]at ho;cases ho
   |some p=>
    obtain⟨u,st2⟩:=p;have b2:=(tQ ht).2;rw[ht]at ho;simp only[Option.map_some,Option.some.injEq,Prod.mk.injEq]at ho;obtain⟨rfl,rfl⟩:=ho;intro h400;have:=a2 h400;omega
  |bytes=>
   rw[hk]at ho;simp only[]at ho;cases hc:h.cnt.bind (Ex.ev N)with
   |none=>rw[hc]at ho;cases ho
   |some k=>
    rw[hc]at ho;simp only[Option.bind_some]at ho;cases ht:tak s k st1 with
    |none=>rw[ht]at ho;cases ho
    |some p=>
     obtain⟨u,st2⟩:=p;have b2:=(tQ ht).2;rw[ht]at ho;simp only[Option.map_some,Option.some.injEq,Prod.mk.injEq]at ho;obtain⟨rfl,rfl⟩:=ho;intro h400;have e1:=a2 h400;have e2:=b2;first|omega|(exact b2 e1)|(exact b2 (hkb e1))
  |struct t=>
   rw[hk]at ho;simp only[]at ho;cases ht:S t st1 with
   |none=>rw[ht]at ho;cases ho
   |some p=>
    obtain⟨ks,st2⟩:=p;have b2:=hS _ _ _ _ ht;rw[ht]at ho;simp only[Option.map_some,Option.some.injEq,Prod.mk.injEq]at ho;obtain⟨rfl,rfl⟩:=ho;intro h400;have e1:=a2 h400;have e2:=b2;first|omega|(exact b2 e1)|(exact b2 (hkb e1))
theorem An{f:St→Option (Nd×St)}(hf:∀st st' d,f st=some (d,st')→(st.n≤400→st'.n≤400)):∀(k:Nat) (st st':St) (ks:Nds),Ly.rep f k st=some (ks,st')→(st.n≤400→st'.n≤400)
 |0,st,st',ks,h=>by
  cases h;exact id
 |k+1,st,st',ks,h=>by
  have h2:(f st).bind (fun p=>(Ly.rep f k p.2).map fun q=>(p.1.put q.1,q.2))=some (ks,st'):=h;cases h3:f st with
  |none=>rw[h3]at h2;cases h2
  |some p=>
   obtain⟨d,st1⟩:=p;rw[h3]at h2;simp only[Option.bind_some]at h2;cases h4:Ly.rep f k st1 with
   |none=>rw[h4]at h2;cases h2
   |some q=>
    obtain⟨r,st2⟩:=q;rw[h4]at h2;simp only[Option.map_some,Option.some.injEq,Prod.mk.injEq]at h2;obtain⟨rfl,rfl⟩:=h2;have a2:=hf _ _ _ h3;have b2:=An hf k _ _ _ h4;exact fun h400=>b2 (a2 h400)
theorem GX{S:Sub}(hS:tS S){s:Tm.Wd}{N:Ex.Names}{h:Tm.Hd}{st st':St}{d:Nd}(ho:hdR S s N h st=some (d,st')):(st.n≤400→st'.n≤400):=by
 unfold hdR at ho;split at ho
 ·unfold hH at ho;cases hn:nod st with
  |none=>rw[hn]at ho;cases ho
  |some st1=>
   have a2:=tT hn;rw[hn]at ho;simp only[Option.bind_some]at ho;cases hc:h.cnt.bind (Ex.ev N)with
   |none=>rw[hc]at ho;cases ho
   |some k=>
    rw[hc]at ho;simp only[Option.bind_some]at ho;split at ho
    ·cases ho
    ·cases hr:Ly.rep (bI S s N h) k.toNat st1 with
     |none=>rw[hr]at ho;cases ho
     |some p=>
      obtain⟨ks,st2⟩:=p;have b2:=An (fun _ _ _=>tU hS) _ _ _ _ hr;rw[hr]at ho;simp only[Option.map_some,Option.some.injEq,Prod.mk.injEq]at ho;obtain⟨rfl,rfl⟩:=ho;intro h400;have e1:=a2 h400;have e2:=b2;first|omega|(exact b2 e1)|(exact b2 (hkb e1))
 ·exact tU hS ho
theorem oI{S:Sub}(hS:tS S)(s:Tm.Wd):∀(l:Tm.Its) (N N':Ex.Names) (st st':St) (ks:Nds),bM S s l N st=some (ks,N',st')→(st.n≤400→st'.n≤400)
 | .nil,N,N',st,st',ks,h=>by
  cases h;exact id
 | .cons h l,N,N',st,st',ks,ho=>by
  cases h1:hdR S s N h st with
  |none=>rw[fV h1]at ho;cases ho
  |some p=>
   obtain⟨d,st1⟩:=p;rw[pP h1]at ho;cases h2:bM S s l (if Tm.single h then upd N h.name d.val else N) st1 with
   |none=>rw[h2]at ho;cases ho
   |some q=>
    obtain⟨r,N2,st2⟩:=q;rw[h2]at ho;simp only[Option.map_some,Option.some.injEq,Prod.mk.injEq]at ho;obtain⟨rfl,rfl,rfl⟩:=ho;have a2:=GX hS h1;have b2:=oI hS s l _ _ _ _ _ h2;exact fun h400=>b2 (a2 h400)
 | .when a c b l,N,N',st,st',ks,ho=>by
  rw[jm]at ho;unfold fe at ho;cases hn:nod st with
  |none=>rw[hn]at ho;cases ho
  |some st1=>
   have a2:=tT hn;rw[hn]at ho;simp only[Option.bind_some]at ho;cases hc:Ex.ev N c with
   |none=>rw[hc]at ho;cases ho
   |some v=>
    rw[hc]at ho;simp only[Option.bind_some]at ho;cases hb:(if v=0 then some (Nds.nil,N,st1)else bM S s b N st1)with
    |none=>rw[hb]at ho;cases ho
    |some p=>
     obtain⟨kb,Nb,stb⟩:=p;have hkb:(st1.n≤400→stb.n≤400):=by
      split at hb
      ·cases hb;exact id
      ·exact oI hS s b _ _ _ _ _ hb
     rw[hb]at ho;simp only[Option.map_some,Option.bind_some]at ho;cases h2:bM S s l Nb stb with
     |none=>rw[h2]at ho;cases ho
     |some q=>
      obtain⟨r,N2,st2⟩:=q;rw[h2]at ho;simp only[Option.map_some,Option.some.injEq,Prod.mk.injEq]at ho;obtain⟨rfl,rfl,rfl⟩:=ho;have b2:=oI hS s l _ _ _ _ _ h2;intro h400;have e1:=a2 h400;have e2:=b2;first|omega|(exact b2 e1)|(exact b2 (hkb e1))
theorem tV(s:Tm.Wd):∀l:List Tm.Ty,tS (rdS s l)
 |[],nm,st,ks,st',h=>by cases h
 |t::r,nm,st,ks,st',h=>by
  by_cases hn:t.name=nm
  ·subst hn;rw[tv]at h;cases h1:bM (rdS s r) s t.items (fun _=>none) st with
   |none=>rw[h1]at h;cases h
   |some p=>
    obtain⟨k2,N2,st2⟩:=p;rw[h1]at h;simp only[Option.map_some,Option.some.injEq,Prod.mk.injEq]at h;obtain⟨rfl,rfl⟩:=h;exact oI (tV s r) s _ _ _ _ _ _ h1
  ·rw[jr hn]at h;exact tV s r nm st ks st' h
theorem re{l:List Tm.Ty}{root s:Tm.Wd}{d:Nd}(h:aB l root s=some d):d.ok∧d.tot≤s.length+3200∧∃st,bI (rdS s l.reverse) s (fun _=>none) (cf root) ⟨0,0⟩=some (d,st)∧st.at_=s.length:=by
 unfold aB at h;cases h1:bI (rdS s l.reverse) s (fun _=>none) (cf root) ⟨0,0⟩with
 |none=>rw[h1]at h;cases h
 |some p=>
  obtain⟨d2,st⟩:=p;rw[h1]at h;simp only[Option.bind_some]at h;split at h
  ·rename_i he
   cases h;obtain⟨a1,a2⟩:=one_le (zh s l.reverse) h1;have a3:=tU (tV s l.reverse) h1 (Nat.zero_le _);simp only[]at a2 a3 he;exact⟨a1,by omega,st,rfl,he⟩
  ·cases h
end Ly
end
section
open Go Go.RowKit
open Rd
open Ly
theorem ea{w:World}{B:Nat}{tys:List Tm.Ty}{a:Option Addr}{cap:Nat}{vs:List Value}(hT:TyF w B tys a cap vs){root s:Tm.Wd}{d:Nd}(hs:s.length≤4000)(h:aB tys root s=some d):d.ok∧d.tot≤8000∧aY (wrS tys.reverse) (cf root) d=some s:=by
 obtain⟨d1,d2,st,d3,d4⟩:=re h;exact⟨d1,by omega,pU hT.jC d3 d4⟩
def Ef(w:World)(tys:List Tm.Ty)(root:Tm.Wd)(o:Option Nd)(e:Ending)(w':World):Prop:=Below w.heap.size w w'∧match o with
 |none=>∃t v,e= .returned (.tuple #[.string {data:= #[]},.iface t v])
 |some d=>match Fx.bW Fx.bJ tys.reverse root d with
  | .ok u=>e= .returned (.tuple #[.string (aa u),.nilIface])
  | .bad k=>e= .returned (.tuple #[.string {data:= #[]},.iface 48 (.int .i64 (GW k))])
theorem Eg(tys:List Tm.Ty)(root s:Tm.Wd)(w:World)(B cap:Nat)(a:Option Addr)(vs:List Value)(hT:TyF w B tys a cap vs)(hr:root.length≤200000000000000)(hs:s.length≤4000):
  Calls Tryz.prog 12 #[.slice a tys.length cap,.string (aa root),.string (aa s)] w (Ef w tys root (aB tys root s)):=by
 have hF:∀t∈tys,Tm.aZ t∧Tm.Its.sz t.items≤100000:=hT.ew;obtain⟨n,hn⟩:∃n,n=tys.length:=⟨_,rfl⟩;have hRD:=eO tys root s w B cap B a vs hT.own hT.enc hF hT.few hT.chain hr (by omega);have HDN:Hid (∀X d Bn bl v,Below w.heap.size w X→aB tys root s=some d→NdV X Bn bl d v→Calls Tryz.prog 34 #[.agg #[.slice a n cap],.string (aa root),v] X (oH X (Fx.bW Fx.bJ tys.reverse root d))):=hid (fun X d Bn bl v hX hd hv=>by
  obtain⟨d1,d2,d3⟩:=ea hT hs hd;rw[hn];exact nF tys root s d X B cap Bn a vs v bl (hT.up hX) hr hv d1 (by omega) d3)
 obtain⟨o,ho⟩:∃o,o=aB tys root s:=⟨_,rfl⟩;rw[← ho]at hRD HDN⊢;rw[← hn]at hRD⊢;have HRD:=hid hRD;clear hT hr hs hF hRD ho hn;go_enter Tryz.func12,Tryz.ntmps12;go_wp2_with fail;refine HRD.out.mono ?_;unfold cQ;rintro e w2 ⟨hb2,hv2⟩;have HB2:=hid hb2;cases o with
 |none=>
  obtain⟨ty,vv,rfl⟩:=hv2;clear hb2;go_wp2_with fail;go_ret2;exact⟨HB2.out.alloc HB2.out.size _,ty,vv,rfl⟩
 |some d=>
  obtain⟨v2,bl2,rfl,hnd2,hnp2⟩:=hv2;obtain⟨g2,cc2,hve⟩:=hnd2.cells;subst hve;obtain⟨ml,hml⟩:∃ml,ml=d.kids.len:=⟨_,rfl⟩;rw[← hml]at hnd2⊢;obtain⟨Q,hQ⟩:∃Q,Q=w2.alloc (.cells #[.string (aa d.name),.int .i64 (d.kind:Nat),.int .i64 (d.at_:Nat),.int .i64 (d.size:Nat),.int .i64 d.val,.string (aa d.text),.slice g2 ml cc2] 28):=⟨_,rfl⟩;have hbQ:Below w2.heap.size w2 Q:=by rw[hQ];exact(Y4 _ _).alloc (Z5 _) _
  have hq0:ad Q w2.heap.size 0 28 [.string (aa d.name),.int .i64 (d.kind:Nat),.int .i64 (d.at_:Nat),.int .i64 (d.size:Nat),.int .i64 d.val,.string (aa d.text),.slice g2 ml cc2]:=by rw[hQ];exact ad.new w2 _ _
  have hndQ:=hnd2.al (w':=Q) fun b hb=>hbQ.block b (hnd2.mem b hb).2
  have hbQw:Below w.heap.size w Q:=hb2.trans (hbQ.mono hb2.size);have HDQ:=hid (HDN.out Q d w.heap.size bl2 _ hbQw rfl hndQ);have c0:=hq0.cell0 0 (by simp);have c1:=hq0.cell0 1 (by simp);have c2:=hq0.cell0 2 (by simp);have c3:=hq0.cell0 3 (by simp);have c4:=hq0.cell0 4 (by simp);have c5:=hq0.cell0 5 (by simp);have c6:=hq0.cell0 6 (by simp);simp only[Z0,Z1]at c0 c1 c2 c3 c4 c5 c6;rw[hQ]at c0 c1 c2 c3 c4 c5 c6;have HQ:=hid hQ;have HBQ:=hid hbQw;clear hb2 hnd2 hnp2 hQ hbQ hq0 hndQ hbQw hml;go_wp2_with fail;rw[← HQ.out];refine HDQ.out.mono ?_;rintro e w3 ⟨hb3,hv3⟩;have HB3:=hid (HBQ.out.trans (hb3.mono HBQ.out.size));unfold Ef;obtain⟨rr,hrr⟩:∃rr,rr=Fx.bW Fx.bJ tys.reverse root d:=⟨_,rfl⟩;simp only[];rw[← hrr]at hv3⊢;have HE:=hid hrr;clear hrr hb3;cases rr with
  |ok u=>
   simp only[]at hv3⊢;subst hv3;go_wp2_with fail;go_ret2;refine⟨HB3.out,?_⟩;simp only[];rw[← HE.out];rfl
  |bad k=>
   simp only[]at hv3⊢;subst hv3;go_wp2_with fail;go_ret2;refine⟨HB3.out,?_⟩;simp only[];rw[← HE.out];rfl
noncomputable def gQ(tys:List Tm.Ty)(root s:Tm.Wd)(d:Nd):Bool:=match Fx.dj Fx.bJ tys.reverse root d.kids with
 |none=>false
 |some p=>Fx.wrT tys.reverse root {d with kids:=p}==some s
def nG(w:World)(tys:List Tm.Ty)(root s:Tm.Wd)(o:Option Nd)(e:Ending)(w':World):Prop:=Below w.heap.size w w'∧match o with
 |none=>∃t v,e= .returned (.tuple #[.bool false,.iface t v])
 |some d=>e= .returned (.tuple #[.bool (gQ tys root s d),.nilIface])
theorem lk(tys:List Tm.Ty)(root s:Tm.Wd)(w:World)(B cap:Nat)(a:Option Addr)(vs:List Value)(hT:TyF w B tys a cap vs)(hr:root.length≤200000000000000)(hs:s.length≤4000):
  Calls Tryz.prog 13 #[.slice a tys.length cap,.string (aa root),.string (aa s)] w (nG w tys root s (aB tys root s)):=by
 have hF:∀t∈tys,Tm.aZ t∧Tm.Its.sz t.items≤100000:=hT.ew;obtain⟨n,hn⟩:∃n,n=tys.length:=⟨_,rfl⟩;have hRD:=eO tys root s w B cap B a vs hT.own hT.enc hF hT.few hT.chain hr (by omega);have HFX:Hid (∀X d Bn bl v,Below w.heap.size w X→aB tys root s=some d→NdV X Bn bl d v→Calls Tryz.prog 35 #[.slice a n cap,.string (aa root),v] X (Ed X d (Fx.dj Fx.bJ tys.reverse root d.kids))):=hid (fun X d Bn bl v hX hd hv=>by
  obtain⟨d1,d2,d3⟩:=ea hT hs hd;rw[hn];exact Al tys root s d X B cap Bn a vs v bl (hT.up hX) hr hv d1 (by omega) d3)
 have HPU:Hid (∀d p,aB tys root s=some d→Fx.dj Fx.bJ tys.reverse root d.kids=some p→∃u,aY (wrS tys.reverse) (cf root) {d with kids:=p}=some u∧Nd.ok {d with kids:=p}∧Nd.tot {d with kids:=p}≤8000):=hid (fun d p hd hp=>by
  obtain⟨d1,d2,d3⟩:=ea hT hs hd;have hwd:(Fx.wrT tys.reverse root d).isSome=true:=by unfold Fx.wrT;rw[d3];rfl
  obtain⟨k1,k2,k3⟩:=Fx.dO hwd;have h1:=Fx.fJ tys.reverse hT.jC root d.kids p hp k1;have h2:=Fx.mm Fx.iR tys.reverse hT.jC root d.kids p hp k1 d1.2 (by unfold Nd.tot at d2;omega);obtain⟨u,hu⟩:=Option.isSome_iff_exists.1 h1;refine⟨u,?_,⟨d1.1,h2.1⟩,by unfold Nd.tot at d2⊢;simp only[];omega⟩;unfold aY;simp only[];rw[if_neg (by rw[not_or];exact⟨fun h=>h k2,fun h=>h k3⟩)];exact hu)
 have HWR:Hid (∀X (d:Nd) u Bq bq v,Below w.heap.size w X→aY (wrS tys.reverse) (cf root) d=some u→d.ok→d.tot≤8000→NdV X Bq bq d v→Calls Tryz.prog 10 #[.slice a n cap,.string (aa root),v] X fun e w'=>Below X.heap.size X w'∧e= .returned (.tuple #[.string (aa u),.nilIface])):=hid (fun X d u Bq bq v hX hu ho ht hnv=>by
  have h9:=hT.up hX;rw[hn];exact iN tys root u d X B cap B Bq a vs v bq h9.own h9.enc hF hT.few hT.chain hr hnv ho (by omega) hu)
 obtain⟨o,ho⟩:∃o,o=aB tys root s:=⟨_,rfl⟩;rw[← ho]at hRD HFX HPU⊢;rw[← hn]at hRD⊢;have HRD:=hid hRD;clear hT hr hs hF hRD ho hn;go_enter Tryz.func13,Tryz.ntmps13;go_wp2_with fail;refine HRD.out.mono ?_;unfold cQ;rintro e w2 ⟨hb2,hv2⟩;have HB2:=hid hb2;cases o with
 |none=>
  obtain⟨ty,vv,rfl⟩:=hv2;clear hb2;go_wp2_with fail;go_ret2;exact⟨HB2.out.alloc HB2.out.size _,ty,vv,rfl⟩
 |some d=>
  obtain⟨v2,bl2,rfl,hnd2,hnp2⟩:=hv2;obtain⟨g2,cc2,hve⟩:=hnd2.cells;subst hve;obtain⟨ml,hml⟩:∃ml,ml=d.kids.len:=⟨_,rfl⟩;rw[← hml]at hnd2⊢;obtain⟨Q,hQ⟩:∃Q,Q=w2.alloc (.cells #[.string (aa d.name),.int .i64 (d.kind:Nat),.int .i64 (d.at_:Nat),.int .i64 (d.size:Nat),.int .i64 d.val,.string (aa d.text),.slice g2 ml cc2] 28):=⟨_,rfl⟩;have hbQ:Below w2.heap.size w2 Q:=by rw[hQ];exact(Y4 _ _).alloc (Z5 _) _
  have hq0:ad Q w2.heap.size 0 28 [.string (aa d.name),.int .i64 (d.kind:Nat),.int .i64 (d.at_:Nat),.int .i64 (d.size:Nat),.int .i64 d.val,.string (aa d.text),.slice g2 ml cc2]:=by rw[hQ];exact ad.new w2 _ _
  have hndQ:=hnd2.al (w':=Q) fun b hb=>hbQ.block b (hnd2.mem b hb).2
  have hbQw:Below w.heap.size w Q:=hb2.trans (hbQ.mono hb2.size);have hfq:=HFX.out Q d w.heap.size bl2 _ hbQw rfl hndQ;obtain⟨fo,hfo⟩:∃fo,fo=Fx.dj Fx.bJ tys.reverse root d.kids:=⟨_,rfl⟩;rw[← hfo]at hfq;have HFQ:=hid hfq;have HFO:=hid hfo;have c0:=hq0.cell0 0 (by simp);have c1:=hq0.cell0 1 (by simp);have c2:=hq0.cell0 2 (by simp);have c3:=hq0.cell0 3 (by simp);have c4:=hq0.cell0 4 (by simp);have c5:=hq0.cell0 5 (by simp);have c6:=hq0.cell0 6 (by simp);simp only[Z0,Z1]at c0 c1 c2 c3 c4 c5 c6;rw[hQ]at c0 c1 c2 c3 c4 c5 c6;have HQ:=hid hQ;have HBQ:=hid hbQw;clear hb2 hnd2 hnp2 hQ hbQ hq0 hndQ hbQw hml hfq hfo;go_wp2_with fail;rw[← HQ.out];refine HFQ.out.mono ?_;rintro e w3 ⟨hb3,hv3⟩;have HB3:=hid (HBQ.out.trans (hb3.mono HBQ.out.size));cases fo with
  |none=>
   simp only[]at hv3;subst hv3;have HRB:=hid (show gQ tys root s d=false by unfold gQ;rw[← HFO.out]);clear hb3;go_wp2_with fail;go_ret2;refine⟨HB3.out.alloc HB3.out.size _,?_⟩;simp only[];rw[HRB.out];rfl
  |some p=>
   simp only[]at hv3;obtain⟨g3,cc3,bl3,vs3,rfl,hk3⟩:=hv3;obtain⟨u,hu,hpo,hpt⟩:=HPU.out d p rfl HFO.out.symm;obtain⟨mp,hmp⟩:∃mp,mp=p.len:=⟨_,rfl⟩;rw[← hmp];obtain⟨R,hR⟩:∃R,R=w3.alloc (.cells #[.string (aa d.name),.int .i64 (d.kind:Nat),.int .i64 (d.at_:Nat),.int .i64 (d.size:Nat),.int .i64 d.val,.string (aa d.text),.slice g3 mp cc3] 28):=⟨_,rfl⟩;have hbR:Below w3.heap.size w3 R:=by rw[hR];exact(Y4 _ _).alloc (Z5 _) _
   have hr0:ad R w3.heap.size 0 28 [.string (aa d.name),.int .i64 (d.kind:Nat),.int .i64 (d.at_:Nat),.int .i64 (d.size:Nat),.int .i64 d.val,.string (aa d.text),.slice g3 mp cc3]:=by rw[hR];exact ad.new w3 _ _
   have hbRw:Below w.heap.size w R:=HB3.out.trans (hbR.mono HB3.out.size);have hndR:NdV R Q.heap.size (aU g3++bl3) {d with kids:=p} (.agg #[.string (aa d.name),.int .i64 (d.kind:Nat),.int .i64 (d.at_:Nat),.int .i64 (d.size:Nat),.int .i64 d.val,.string (aa d.text),.slice g3 mp cc3]):=by
    have:=(hk3.al (w':=R) fun b h1 h2=>hbR.block b h2).nd d.name d.kind d.at_ d.size d.val d.text;rw[hmp];exact this
   have HWQ:=hid (HWR.out R {d with kids:=p} u Q.heap.size _ _ hbRw hu hpo hpt hndR);have HRB:=hid (show gQ tys root s d=decide (u=s) by
    unfold gQ;rw[← HFO.out];simp only[];have h7:Fx.wrT tys.reverse root {d with kids:=p}=some u:=hu;rw[h7]
    by_cases hus:u=s
    ·rw[hus,Z9 rfl,beq_self_eq_true]
    ·rw[Y9 hus,Z8];intro h8;injection h8 with h8
     exact hus h8)
   have h0:=hr0.cell0 0 (by simp);have h1:=hr0.cell0 1 (by simp);have h2:=hr0.cell0 2 (by simp);have h3:=hr0.cell0 3 (by simp);have h4:=hr0.cell0 4 (by simp);have h5:=hr0.cell0 5 (by simp);have h6:=hr0.cell0 6 (by simp);simp only[Z0,Z1]at h0 h1 h2 h3 h4 h5 h6;rw[hR]at h0 h1 h2 h3 h4 h5 h6;have HRR:=hid hR;have HBR:=hid hbRw;clear hb3 hk3 hu hpo hpt hR hbR hr0 hbRw hndR hmp;go_wp2_with fail;rw[← HRR.out];refine HWQ.out.mono ?_;rintro e w5 ⟨hb5,rfl⟩;have HB5:=hid (HBR.out.trans (hb5.mono HBR.out.size));clear hb5
   by_cases hus:u=s
   ·have x1:decide (u=s)=true:=Z9 hus;have x2:(u==s)=true:=beq_iff_eq.2 hus;have HX:=hid x1;clear hus;go_wp2_with fail;go_ret2;refine⟨HB5.out,?_⟩;simp only[];rw[HRB.out,HX.out]
    first|rfl|simp
   ·have x1:decide (u=s)=false:=Y9 hus;have x2:(u==s)=false:=Z8.2 hus;have HX:=hid x1;clear hus;go_wp2_with fail;go_ret2;refine⟨HB5.out,?_⟩;simp only[];rw[HRB.out,HX.out]
    first|rfl|simp
end
section
open Go.RowKit
section
variable{w w':World}{B:Nat}{e:TypeId}{size g off n cap:Nat}{xs:List Value}
end
theorem iS(b:Nat)(e:TypeId)(fz:Nat×Nat):∀(vs:List Value) (o:Nat) (w:World) (cur:Array Value),w.heap[b]? =some (.cells cur e fz)→o+vs.length≤cur.size→
  ∃cur',(w.setCells b o vs).heap[b]? =some (.cells cur' e fz)∧cur'.size=cur.size∧∀k,cur'[k]? =if o≤k∧k < o+vs.length then vs[k - o]? else cur[k]? :=by
 intro vs
 induction vs with
 |nil=>intro o w cur h _;exact⟨cur,h,rfl,fun k=>by rw[if_neg (by simp)]⟩
 |cons v vs ih=>
  intro o w cur h hf;rw[Z6]at hf;have h1:(w.setCell ⟨b,o,none⟩ v).heap[b]? =some (.cells (cur.setIfInBounds o v) e fz):=by simp[World.setCell,Array.getElem?_modify,h]
  obtain⟨cur',a1,a2,a3⟩:=ih (o+1) (w.setCell ⟨b,o,none⟩ v) _ h1 (by simp;omega);refine⟨cur',a1,by simpa using a2,fun k=> ?_⟩;rw[a3 k,Array.getElem?_setIfInBounds,Z6]
  by_cases hk:o=k
  ·subst hk;rw[if_neg (by omega),if_pos rfl,if_pos (by omega),if_pos (by omega),Nat.sub_self];rfl
  ·rw[if_neg hk]
   by_cases hk2:o+1≤k∧k < o+1+vs.length
   ·rw[if_pos hk2,if_pos (by omega),show k - o=(k - (o+1))+1 from by omega,List.getElem?_cons_succ]
   ·rw[if_neg hk2,if_neg (by omega)]
end
end Go.Proofs.YtlomecfhobehnaaGreatDoor
