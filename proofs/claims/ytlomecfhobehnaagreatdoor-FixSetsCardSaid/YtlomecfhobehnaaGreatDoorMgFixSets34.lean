import Derived.Test.YtlomecfhobehnaaGreatDoorMgFixSets33
set_option linter.unusedVariables false
set_option linter.unusedSimpArgs false
set_option maxRecDepth 100000
set_option maxHeartbeats 2000000
namespace Go.Proofs.YtlomecfhobehnaaGreatDoor
open Lib (hid)
section
open Go Go.RowKit
open Rd
open Ly
def tJ(w:World)(d:Nd)(e:Ending)(w':World):Prop:=Below w.heap.size w w'∧∃b2 v,e= .returned v∧NdV w' w.heap.size b2 d v∧b2.Nodup
def DP(d:Nd):Prop:=∀(w:World) (B:Nat) (bl:List Nat) (v:Value),NdV w B bl d v→Calls Tryz.prog 43 #[v] w (tJ w d)
structure CpS(w wr:World)(N0:Nat)(kids:Nds)(i:Nat)(a1:Option Addr)(cap1:Nat)(B:Nat):Prop where
 bel:Below w.heap.size w wr
 ex:∃ks1 rest us ws b1 b2,kids=ks1.app rest∧ks1.len=i∧an wr N0 28 7 a1 kids.len cap1 (us++ws)∧aW wr N0 ks1 b1 us∧aW w B rest b2 ws∧(aU a1++b1).Nodup
theorem FC{α:Type}(xs r:List α)(v:α)(i:Nat)(h:i < xs.length):(xs.set i v).take (i+1)++r++(xs.set i v).drop (i+1+r.length)=xs.take i++v::r++xs.drop (i+(r.length+1)):=by
 have e1:(xs.set i v).take (i+1)=xs.take i++[v]:=by
  rw[List.take_add_one,List.take_set_of_le (Z5 _),List.getElem?_set_self h];rfl
 have e2:(xs.set i v).drop (i+1+r.length)=xs.drop (i+(r.length+1)):=by
  rw[List.drop_set_of_lt (by omega)];congr 1;omega
 rw[e1,e2];simp
theorem an.setCells{B:Nat}{e:TypeId}{size g n cap:Nat}:∀(vs:List Value) (i:Nat) (w:World) (xs:List Value),an w B e size (some ⟨g,0,none⟩) n cap xs→i+vs.length≤xs.length→an (w.setCells g i vs) B e size (some ⟨g,0,none⟩) n cap (xs.take i++vs++xs.drop (i+vs.length))
 |[],i,w,xs,h,_=>by simpa[World.setCells]using h
 |v::r,i,w,xs,h,hl=>by
  rw[Z6]at hl;have h2:=an.setCells r (i+1) _ _ (h.set i (by omega) v) (by rw[List.length_set];omega);rw[FC xs r v i (by omega)]at h2;exact h2
theorem qb{B g:Nat}(hg:B≤g):∀(vs:List Value) (o:Nat) (w:World),Below B w (w.setCells g o vs)
 |[],_,w=>Y4 B w
 |v::r,o,w=>((Y4 B w).setCell (p:=⟨g,o,none⟩) hg v).trans (qb hg r (o+1) _)
theorem gP{g:Nat}{b:Nat}(hb:b≠g):∀(vs:List Value) (o:Nat) (w:World),(w.setCells g o vs).heap[b]? =w.heap[b]?
 |[],_,w=>rfl
 |v::r,o,w=>(gP hb r (o+1) _).trans (Below.heap_setCell w ⟨g,o,none⟩ v b hb)
abbrev GM(w:World)(b o:Nat)(v0 v1 v2 v3 v4 v5 v6:Value):World:=
 (((((((w.setCell ⟨b,o,none⟩ v0).setCell ⟨b,o+1,none⟩ v1).setCell ⟨b,o+2,none⟩ v2).setCell ⟨b,o+3,none⟩ v3).setCell ⟨b,o+4,none⟩ v4).setCell ⟨b,o+5,none⟩ v5).setCell ⟨b,o+6,none⟩ v6)
theorem zY(w:World)(b o:Nat)(v0 v1 v2 v3 v4 v5 v6:Value):w.setCells b o [v0,v1,v2,v3,v4,v5,v6]=GM w b o v0 v1 v2 v3 v4 v5 v6:=by
 simp only[World.setCells,Nat.add_assoc,Nat.reduceAdd]
theorem eu(w:World)(b o:Nat)(v0 v1 v2 v3 v4 v5 v6:Value)(g:Nat)(hg:g≠b):(GM w b o v0 v1 v2 v3 v4 v5 v6).heap[g]? =w.heap[g]? :=by
 rw[← zY];exact gP hg _ _ _
theorem DQ(k1:Nds)(d:Nd)(r:Nds):(k1.app (d.put .nil)).app r=k1.app (d.put r):=Nds.dF _ _ _
theorem CpS.at_{w wr:World}{N0:Nat}{kids:Nds}{i gb cap1 B:Nat}(h:CpS w wr N0 kids i (some ⟨gb,0,none⟩) cap1 B)(hi:i < kids.len)(hB:w.heap.size≤N0):
  ∃(k1:Nds) (d2:Nd) (r:Nds) (bl2:List Nat) (g2:Option Addr) (c2:Nat),kids=k1.app (d2.put r)∧N0≤gb∧ad wr gb (i * 7) 28 (ae d2.name d2.kind d2.at_ d2.size d2.val d2.text (.slice g2 d2.kids.len c2))∧(∀X,Below wr.heap.size wr X→NdV X B bl2 d2 (.agg (ae d2.name d2.kind d2.at_ d2.size d2.val d2.text (.slice g2 d2.kids.len c2)).toArray))∧
   ∀(w5:World) (b3:List Nat) (v:Value),Below wr.heap.size wr w5→NdV w5 wr.heap.size b3 d2 v→b3.Nodup→∃g3 c3,v= .agg #[.string (aa d2.name),.int .i64 (d2.kind:Nat),.int .i64 (d2.at_:Nat),.int .i64 (d2.size:Nat),.int .i64 d2.val,.string (aa d2.text),.slice g3 d2.kids.len c3]∧CpS w (GM w5 gb (i * 7) (.string (aa d2.name)) (.int .i64 (d2.kind:Nat)) (.int .i64 (d2.at_:Nat)) (.int .i64 (d2.size:Nat)) (.int .i64 d2.val) (.string (aa d2.text)) (.slice g3 d2.kids.len c3)) N0 kids (i+1) (some ⟨gb,0,none⟩) cap1 B:=by
 obtain⟨hbel,k1,rest,us,ws,b1,b2,rfl,rfl,ho,he1,he2,hnd⟩:=h;rw[Nds.cX]at hi;cases rest with
 |nil=>exact absurd hi (by show ¬_ < k1.len+0;omega)
 |cons nm kd a sz v tx ks r=>
  obtain⟨g2,c2,bs2,us2,b3,b4,rfl,e1,e3,rfl,e5⟩:=he2;have hlu:=he1.len;have hrow:=ho.row.2.2.2.2.part (k1.len * 7) 7;rw[Nat.zero_add]at hrow;have hseg:((us++(ae nm kd a sz v tx (.slice g2 ks.len c2)++us2)).drop (k1.len * 7)).take 7=ae nm kd a sz v tx (.slice g2 ks.len c2):=by
   rw[← hlu,List.drop_left];rfl
  rw[hseg]at hrow;refine⟨k1,⟨nm,kd,a,sz,v,tx,ks⟩,r,aU g2++b3,g2,c2,rfl,ho.lt.1,hrow,fun X hX=> ?_,fun w5 b5 v5 hb5 hv5 hn5=> ?_⟩
  ·have hwX:=hbel.trans (hX.mono hbel.size);exact⟨g2,c2,bs2,b3,rfl,rfl,e1.below hwX (Z5 _),e3.al _ _ _ fun b hb=>hwX.block b (e3.mem _ _ _ b hb).2⟩
  ·have hmem5:=hv5.mem;obtain⟨g3,c3,bs3,b6,rfl,rfl,f1,f2⟩:=hv5;have hgb:gb < wr.heap.size:=ho.lt.2;have hfar:∀b,b≠gb→(w5.setCells gb (k1.len * 7) (ae nm kd a sz v tx (.slice g3 ks.len c3))).heap[b]? =w5.heap[b]? :=fun b hb=>gP hb _ _ _
   have hne:∀b∈aU g3++b6,b≠gb:=fun b hb e=>by have:=(hmem5 b hb).1;omega
   refine⟨g3,c3,rfl,?_⟩;rw[← zY];refine⟨(hbel.trans (hb5.mono hbel.size)).trans (qb (Nat.le_trans hB ho.lt.1) _ _ _),k1.app (Nd.put ⟨nm,kd,a,sz,v,tx,ks⟩ .nil),r,us++ae nm kd a sz v tx (.slice g3 ks.len c3),us2,b1++(aU g3++b6),b4,(DQ k1 ⟨nm,kd,a,sz,v,tx,ks⟩ r).symm,by rw[Nds.cX];rfl,?_,?_,e5,?_⟩
   ·have h5:an w5 N0 28 7 (some ⟨gb,0,none⟩) (k1.app (Nds.cons nm kd a sz v tx ks r)).len cap1 (us++(ae nm kd a sz v tx (.slice g2 ks.len c2)++us2)):=ho.below hb5 (Z5 _);have h6:=an.setCells (ae nm kd a sz v tx (.slice g3 ks.len c3)) (k1.len * 7) w5 _ h5 (by rw[Z7,hlu];simp[ae]);have e:(us++(ae nm kd a sz v tx (.slice g2 ks.len c2)++us2)).take (k1.len * 7)++ae nm kd a sz v tx (.slice g3 ks.len c3)++(us++(ae nm kd a sz v tx (.slice g2 ks.len c2)++us2)).drop (k1.len * 7+(ae nm kd a sz v tx (.slice g3 ks.len c3)).length)=(us++ae nm kd a sz v tx (.slice g3 ks.len c3))++us2:=by
     rw[← hlu,List.take_left,← List.drop_drop,List.drop_left];rfl
    rw[e]at h6;exact h6
   ·refine aW.app (m:=Nd.put ⟨nm,kd,a,sz,v,tx,ks⟩ .nil) ?_ k1 b1 us (he1.al _ _ _ fun b hb=> ?_)
    ·refine⟨g3,c3,bs3,[],b6,[],by simp,(f1.al fun x hx=>hfar _ (hne _ (by subst hx;simp[aU]))).mono (Nat.le_trans ho.lt.1 (Nat.le_of_lt hgb)),(f2.al _ _ _ fun b hb=>hfar b (hne b (by simp[hb]))).low (Nat.le_trans ho.lt.1 (Nat.le_of_lt hgb)) _ _ _,by rw[List.append_nil],rfl,rfl⟩
    ·have hlt:=(he1.mem _ _ _ b hb).2;exact(hfar b (fun e=>(List.nodup_append.1 hnd).2.2 gb (by simp[aU]) b hb e.symm)).trans (hb5.block b hlt)
   ·rw[← List.append_assoc,List.nodup_append];refine⟨hnd,hn5,fun x hx y hy e=> ?_⟩;subst e;have h7:=(hmem5 x hy).1;rcases List.mem_append.1 hx with h|h
    ·obtain⟨z,hz,rfl⟩:=ia h;cases hz;simp only[]at h7;omega
    ·have:=(he1.mem _ _ _ x h).2;omega
theorem vQ(d:Nd)(hn:d.kids.len≤100000)(hk:∀(k1:Nds) (d2:Nd) (r:Nds),d.kids=k1.app (d2.put r)→DP d2):DP d:=by
 intro w B bl v hv;obtain⟨ga,cap,bs,b1,rfl,rfl,ho,he⟩:=hv;obtain⟨nm,kd,at_,sz,val,tx,kids⟩:=d;simp only[]at hn hk ho he⊢;obtain⟨n,hn'⟩:∃n,n=kids.len:=⟨_,rfl⟩;have HCL:=hid (fun V (hV:Below w.heap.size w V)=>yR V B n cap ga bs (by rw[hn'];exact ho.below hV (Z5 _)) (vP _ _ _ he) (by rw[hn'];exact hn));rw[← hn'];have HO:=hid ho;have HE:=hid he;have HK:=hid hk;have HN:=hid hn';have HN2:=hid hn;obtain⟨V0,hV0⟩:∃V0,V0=(w.alloc (.cells #[.string (aa nm),.int .i64 (kd:Nat),.int .i64 (at_:Nat),.int .i64 (sz:Nat),.int .i64 val,.string (aa tx),.slice ga n cap] 28)).alloc (.cells #[.string {data:= #[]},.int .i64 0,.int .i64 0,.int .i64 0,.int .i64 0,.string {data:= #[]},.slice none 0 0] 28):=⟨_,rfl⟩;have hbA:Below w.heap.size w V0:=by rw[hV0];exact((Y4 w.heap.size w).alloc (Z5 _) _).alloc (by simp) _
 have hr0:ad V0 w.heap.size 0 28 [.string (aa nm),.int .i64 (kd:Nat),.int .i64 (at_:Nat),.int .i64 (sz:Nat),.int .i64 val,.string (aa tx),.slice ga n cap]:=by rw[hV0];exact(ad.new w _ _).alloc _
 have hs0:V0.heap.size=w.heap.size+2:=by rw[hV0];simp
 have hr9:ad V0 (w.heap.size+1) 0 28 [.string {data:= #[]},.int .i64 0,.int .i64 0,.int .i64 0,.int .i64 0,.string {data:= #[]},.slice none 0 0]:=by rw[hV0];exact ad.ix _ _ (by simp) _ _
 have c6:=hr0.cell0 6 (by simp);simp only[Z0,Z1]at c6;rw[hV0]at c6;have HBA:=hid hbA;have HR0:=hid hr0;have HV0:=hid hV0;have HS0:=hid hs0;have HR9:=hid hr9;have hv2:(Value.agg (ae nm kd at_ sz val tx (.slice ga n cap)).toArray)= .agg #[.string (aa nm),.int .i64 (kd:Nat),.int .i64 (at_:Nat),.int .i64 (sz:Nat),.int .i64 val,.string (aa tx),.slice ga n cap]:=rfl;rw[hv2];clear ho he hk hn' hn hbA hr0 hV0 hv2 hs0 hr9;go_enter Tryz.func43,Tryz.ntmps43;go_wp2_with fail;rw[← HV0.out];refine(HCL.out V0 HBA.out).mono ?_;rintro e w1 ⟨hb1,a1,cap1,rfl,ho1⟩;have hr1:=HR0.out.below hb1 HR0.out.lt;have y6:=hr1.cell0 6 (by simp);have z6:=hr1.frozen0 6 (by simp);simp only[Z0,Z1]at y6;have hr2:=hr1.aw 6 (by simp) (.slice a1 n cap1);simp only[Z2,Z3]at hr2;have k6:=hr2.cell0 6 (by simp);simp only[Z0,Z1]at k6;have HR2:=hid hr2;have HB1:=hid hb1;have HO1:=hid ho1;have hbW:=(HBA.out.trans (hb1.mono HBA.out.size)).setCell (p:=⟨w.heap.size,6,none⟩) (Z5 _) (.slice a1 n cap1);have ho2:=ho1.far (p:=⟨w.heap.size,6,none⟩) (fun x hx=>by subst hx;have:=ho1.lt.1;have:=HS0.out;simp only[];omega) (.slice a1 n cap1);have hr9b:=(HR9.out.below hb1 HR9.out.lt).far (p:=⟨w.heap.size,6,none⟩) (show w.heap.size+1≠w.heap.size by omega) (.slice a1 n cap1);have HS:=hid (show CpS w (w1.setCell ⟨w.heap.size,6,none⟩ (.slice a1 n cap1)) (w.heap.size+2) kids 0 a1 cap1 B from⟨hbW,.nil,kids,[],bs,[],b1,rfl,rfl,by rw[← HN.out];exact ho2.mono (by have:=HS0.out;omega),⟨rfl,rfl⟩,HE.out,by cases a1 <;> simp[aU]⟩);have HR9B:=hid hr9b;have hcap1:n≤cap1:=aT ho1;clear hr1 hr2 hb1 ho1 c6 hbW ho2 hr9b;go_wp2_with fail;go_loopw [11] (fun v11 wr=>∃(i:Nat),v11= .int .i64 (i:Nat)∧i≤n∧Hid (CpS w wr (w.heap.size+2) kids i a1 cap1 B)∧Hid (ad wr w.heap.size 0 28 [.string (aa nm),.int .i64 (kd:Nat),.int .i64 (at_:Nat),.int .i64 (sz:Nat),.int .i64 val,.string (aa tx),.slice a1 n cap1])∧Hid (ad wr (w.heap.size+1) 0 28 [.string {data:= #[]},.int .i64 0,.int .i64 0,.int .i64 0,.int .i64 0,.string {data:= #[]},.slice none 0 0])) (fun v11 _=>n - (intOf v11).toNat)
 case atStart=>exact⟨0,rfl,Nat.zero_le _,HS,HR2,HR9B⟩
 case round=>
  clear k6 y6 z6;obtain⟨i,rfl,hi,HS1,HR1,HR91⟩:=hrel;have k6:=HR1.out.cell0 6 (by simp);simp only[Z0,Z1]at k6
  by_cases hin:i < n
  ·have q1:decide ((i:Int) < (n:Int))=true:=Z9 (by omega);have q2:decide (i < n)=true:=Z9 hin;have hii:(i:Int) < (n:Int):=by omega
   obtain⟨x,rfl⟩:∃x,a1=some x:=by
    cases a1 with
    |none=>obtain⟨_,_,_,_,_,_,_,_,h3,_⟩:=HS1.out.ex;have:=h3.aO.1;rw[← HN.out]at this;omega
    |some x=>exact⟨x,rfl⟩
   obtain⟨gb,rfl⟩:∃gb,x=⟨gb,0,none⟩:=by
    obtain⟨_,_,_,_,_,_,_,_,h3,_⟩:=HS1.out.ex;exact⟨x.block,h3.row.1⟩
   have hi2:i < kids.len:=by rw[← HN.out];exact hin
   obtain⟨k1,⟨nm2,kd2,at2,sz2,v2,tx2,ks2⟩,r,bl2,g2,c2,hkids,hgb,hrow,hnv,hst⟩:=HS1.out.at_ hi2 (by omega);simp only[]at hrow hnv hst;obtain⟨m2,hm2⟩:∃m2,m2=ks2.len:=⟨_,rfl⟩;rw[← hm2]at hnv;have hvv:Value.agg (ae nm2 kd2 at2 sz2 v2 tx2 (.slice g2 m2 c2)).toArray= .agg #[.string (aa nm2),.int .i64 (kd2:Nat),.int .i64 (at2:Nat),.int .i64 (sz2:Nat),.int .i64 v2,.string (aa tx2),.slice g2 m2 c2]:=rfl;rw[hvv]at hnv;clear hvv;have HCP:=hid (fun X hX=>HK.out k1 _ r hkids X B bl2 _ (hnv X hX));rw[← hm2]at hrow hst;have HST:=hid hst;have HM2:=hid hm2;have f0:=hrow.cell 0 (by simp[ae]);have f1:=hrow.cell 1 (by simp[ae]);have f2:=hrow.cell 2 (by simp[ae]);have f3:=hrow.cell 3 (by simp[ae]);have f4:=hrow.cell 4 (by simp[ae]);have f5:=hrow.cell 5 (by simp[ae]);have f6:=hrow.cell 6 (by simp[ae]);simp only[ae,Z0,Z1,Y2]at f0 f1 f2 f3 f4 f5 f6;have HROW:=hid hrow;clear f0 f1 f2 f3 f4 f5 f6;have HNE:=hid (show w.heap.size≠gb by omega);have HNE2:=hid (show w.heap.size+1≠gb by omega);have HIN:=hid hin;have HN100:=hid (show n≤100000 by rw[HN.out];exact HN2.out);have hS1:wr.drew.cell? ⟨w.heap.size,6,none⟩=some (.slice (some ⟨gb,0,none⟩) n cap1):=k6;clear hkids hnv hst hin hm2;go_wp2_with fail;obtain⟨D,hD⟩:∃D,D=wr.drew:=⟨_,rfl⟩;have HD:=hid (show Below wr.heap.size wr D by rw[hD];exact(Y4 wr.heap.size wr).drew);have HDZ:=hid (show D.heap.size=wr.heap.size by rw[hD];rfl);have k6:D.cell? ⟨w.heap.size,6,none⟩=some (.slice (some ⟨gb,0,none⟩) n cap1):=by rw[hD];exact hS1
   have hrD:=HROW.out.below HD.out HROW.out.lt;have f0:=hrD.cell 0 (by simp[ae]);have f1:=hrD.cell 1 (by simp[ae]);have f2:=hrD.cell 2 (by simp[ae]);have f3:=hrD.cell 3 (by simp[ae]);have f4:=hrD.cell 4 (by simp[ae]);have f5:=hrD.cell 5 (by simp[ae]);have f6:=hrD.cell 6 (by simp[ae]);simp only[ae,Z0,Z1,Y2]at f0 f1 f2 f3 f4 f5 f6;refine wp_region_any (by kernel_rfl) ?_
   try(change wpAny _ _ _ _ _ _ _ (World.drew _))
   rw[← hD];clear hD hS1 hrD;refine wpAny_take (i:=0) (v:= ?_) rfl (by kernel_rfl) (by kernel_rfl) (by kernel_rfl) (fun _ _ _ h=>h) (Or.inl ⟨by kernel_rfl,?_⟩) ?_
   rotate_left
   ·(intro w;go_simp) <;> with_reducible rfl
   try dsimp only[Act.put]
   try simp only[Act.put,Z4,Z2,Z3]
   refine wpAny_take (i:=2) (v:= ?_) rfl (by kernel_rfl) (by kernel_rfl) (by kernel_rfl) (fun _ _ _ h=>h) (Or.inl ⟨by kernel_rfl,?_⟩) ?_
   rotate_left
   ·(intro w;go_simp) <;> with_reducible rfl
   try dsimp only[Act.put]
   try simp only[Act.put,Z4,Z2,Z3]
   refine wpAny_take (i:=3) (v:= ?_) rfl (by kernel_rfl) (by kernel_rfl) (by kernel_rfl) (fun _ _ _ h=>h) (Or.inl ⟨by kernel_rfl,?_⟩) ?_
   rotate_left
   ·(intro w;go_simp) <;> with_reducible rfl
   try dsimp only[Act.put]
   try simp only[Act.put,Z4,Z2,Z3]
   refine wpAny_take (i:=5) (v:= ?_) rfl (by kernel_rfl) (by kernel_rfl) (by kernel_rfl) (fun _ _ _ h=>h) (Or.inl ⟨by kernel_rfl,?_⟩) ?_
   rotate_left
   ·(intro w;go_simp) <;> with_reducible rfl
   try dsimp only[Act.put]
   try simp only[Act.put,Z4,Z2,Z3]
   refine wpAny_ready (rs:=[1,4]) (by kernel_rfl) (by simp) ?_;refine AllReady.cons rfl (fun K2 hK=> ?_) (AllReady.cons rfl (fun K2 hK=> ?_) AllReady.nil)
   ·go_simp;refine hK _ _ ?_;clear hK K2
    try simp only[Act.put,Z4,Z2,Z3]
    refine wpAny_ready (rs:=[4]) (by kernel_rfl) (by simp) ?_;refine AllReady.cons rfl (fun K2 hK=> ?_) AllReady.nil;go_simp;refine hK _ _ ?_;clear hK K2
    try simp only[Act.put,Z4,Z2,Z3]
    refine wpAny_take (i:=6) (v:= ?_) rfl (by kernel_rfl) (by kernel_rfl) (by kernel_rfl) (fun _ _ _ h=>h) (Or.inl ⟨by kernel_rfl,?_⟩) ?_
    rotate_left
    ·(intro w;go_simp) <;> with_reducible rfl
    try dsimp only[Act.put]
    try simp only[Act.put,Z4,Z2,Z3]
    refine wpAny_ready (rs:=[7]) (by kernel_rfl) (by simp) ?_;refine AllReady.cons rfl (fun K2 hK=> ?_) AllReady.nil;go_simp;refine hK _ _ ?_;clear hK K2
    try simp only[Act.put,Z4,Z2,Z3]
    refine wpAny_ready (rs:=[8]) (by kernel_rfl) (by simp) ?_;refine AllReady.cons rfl (fun K2 hK=> ?_) AllReady.nil;go_simp
    with_reducible refine(HCP.out D HD.out).mono ?_
    rintro e w5 ⟨hb5,b3,v5,rfl,hv5,hn5⟩;have HB5:=hid (HD.out.trans (hb5.mono HD.out.size));obtain⟨g3,c3,hv5e,hcs⟩:=HST.out w5 b3 v5 HB5.out (hv5.low (by rw[HDZ.out];exact Z5 _)) hn5;subst hv5e;have hr5:=HR1.out.below HB5.out HR1.out.lt;have h95:=HR91.out.below HB5.out HR91.out.lt;have k6:=hr5.cell0 6 (by simp);have hw5:=HROW.out.below HB5.out HROW.out.lt;have y0:=hw5.cell 0 (by simp[ae]);have y1:=hw5.cell 1 (by simp[ae]);have y2:=hw5.cell 2 (by simp[ae]);have y3:=hw5.cell 3 (by simp[ae]);have y4:=hw5.cell 4 (by simp[ae]);have y5:=hw5.cell 5 (by simp[ae]);have y6:=hw5.cell 6 (by simp[ae]);have z0:=hw5.frozen 0 (by simp[ae]);have z1:=hw5.frozen 1 (by simp[ae]);have z2:=hw5.frozen 2 (by simp[ae]);have z3:=hw5.frozen 3 (by simp[ae]);have z4:=hw5.frozen 4 (by simp[ae]);have z5:=hw5.frozen 5 (by simp[ae]);have z6:=hw5.frozen 6 (by simp[ae]);simp only[ae,Z0,Z1,Y2]at k6 y0 y1 y2 y3 y4 y5 y6 z0 z1 z2 z3 z4 z5 z6;have HCS2:=hid hcs;have HR5:=hid (eu w5 gb (i * 7) (.string (aa nm2)) (.int .i64 (kd2:Nat)) (.int .i64 (at2:Nat)) (.int .i64 (sz2:Nat)) (.int .i64 v2) (.string (aa tx2)) (.slice g3 m2 c3) w.heap.size HNE.out);have HR95:=hid (eu w5 gb (i * 7) (.string (aa nm2)) (.int .i64 (kd2:Nat)) (.int .i64 (at2:Nat)) (.int .i64 (sz2:Nat)) (.int .i64 v2) (.string (aa tx2)) (.slice g3 m2 c3) (w.heap.size+1) HNE2.out);have HH5:=hid hr5;have HH95:=hid h95;clear hb5 hv5 hn5 hcs hr5 hw5 h95;refine hK _ _ ?_;clear hK K2
    try simp only[Act.put,Z4,Z2,Z3]
    refine wpAny_take (i:=9) (v:= ?_) rfl (by kernel_rfl) (by kernel_rfl) (by kernel_rfl) (fun _ _ _ h=>h) (Or.inl ⟨by kernel_rfl,?_⟩) ?_
    rotate_left
    ·(intro w;go_simp) <;> with_reducible rfl
    try dsimp only[Act.put]
    try simp only[Act.put,Z4,Z2,Z3]
    refine wpAny_ready (rs:=[10]) (by kernel_rfl) (by simp) ?_;refine AllReady.cons rfl (fun K2 hK=> ?_) AllReady.nil;go_simp;refine hK _ _ ?_;clear hK K2
    try simp only[Act.put,Z4,Z2,Z3]
    refine wpAny_done (by kernel_rfl) ?_ _;go_wp2_with fail;go_roundw
    case rel=>exact⟨i+1,by first|rfl|rw[ay HIN.out HN100.out],by have:=HIN.out;omega,HCS2,hid (HH5.out.of_heap HR5.out),hid (HH95.out.of_heap HR95.out)⟩
    case measure=>(try rw[ay HIN.out HN100.out]);simp only[intOf];have:=HIN.out;omega
   ·go_simp;refine hK _ _ ?_;clear hK K2
    try simp only[Act.put,Z4,Z2,Z3]
    refine wpAny_take (i:=6) (v:= ?_) rfl (by kernel_rfl) (by kernel_rfl) (by kernel_rfl) (fun _ _ _ h=>h) (Or.inl ⟨by kernel_rfl,?_⟩) ?_
    rotate_left
    ·(intro w;go_simp) <;> with_reducible rfl
    try dsimp only[Act.put]
    try simp only[Act.put,Z4,Z2,Z3]
    refine wpAny_ready (rs:=[1,7]) (by kernel_rfl) (by simp) ?_;refine AllReady.cons rfl (fun K2 hK=> ?_) (AllReady.cons rfl (fun K2 hK=> ?_) AllReady.nil)
    ·go_simp;refine hK _ _ ?_;clear hK K2
     try simp only[Act.put,Z4,Z2,Z3]
     refine wpAny_ready (rs:=[7]) (by kernel_rfl) (by simp) ?_;refine AllReady.cons rfl (fun K2 hK=> ?_) AllReady.nil;go_simp;refine hK _ _ ?_;clear hK K2
     try simp only[Act.put,Z4,Z2,Z3]
     refine wpAny_ready (rs:=[8]) (by kernel_rfl) (by simp) ?_;refine AllReady.cons rfl (fun K2 hK=> ?_) AllReady.nil;go_simp
     with_reducible refine(HCP.out D HD.out).mono ?_
     rintro e w5 ⟨hb5,b3,v5,rfl,hv5,hn5⟩;have HB5:=hid (HD.out.trans (hb5.mono HD.out.size));obtain⟨g3,c3,hv5e,hcs⟩:=HST.out w5 b3 v5 HB5.out (hv5.low (by rw[HDZ.out];exact Z5 _)) hn5;subst hv5e;have hr5:=HR1.out.below HB5.out HR1.out.lt;have h95:=HR91.out.below HB5.out HR91.out.lt;have k6:=hr5.cell0 6 (by simp);have hw5:=HROW.out.below HB5.out HROW.out.lt;have y0:=hw5.cell 0 (by simp[ae]);have y1:=hw5.cell 1 (by simp[ae]);have y2:=hw5.cell 2 (by simp[ae]);have y3:=hw5.cell 3 (by simp[ae]);have y4:=hw5.cell 4 (by simp[ae]);have y5:=hw5.cell 5 (by simp[ae]);have y6:=hw5.cell 6 (by simp[ae]);have z0:=hw5.frozen 0 (by simp[ae]);have z1:=hw5.frozen 1 (by simp[ae]);have z2:=hw5.frozen 2 (by simp[ae]);have z3:=hw5.frozen 3 (by simp[ae]);have z4:=hw5.frozen 4 (by simp[ae]);have z5:=hw5.frozen 5 (by simp[ae]);have z6:=hw5.frozen 6 (by simp[ae]);simp only[ae,Z0,Z1,Y2]at k6 y0 y1 y2 y3 y4 y5 y6 z0 z1 z2 z3 z4 z5 z6;have HCS2:=hid hcs;have HR5:=hid (eu w5 gb (i * 7) (.string (aa nm2)) (.int .i64 (kd2:Nat)) (.int .i64 (at2:Nat)) (.int .i64 (sz2:Nat)) (.int .i64 v2) (.string (aa tx2)) (.slice g3 m2 c3) w.heap.size HNE.out);have HR95:=hid (eu w5 gb (i * 7) (.string (aa nm2)) (.int .i64 (kd2:Nat)) (.int .i64 (at2:Nat)) (.int .i64 (sz2:Nat)) (.int .i64 v2) (.string (aa tx2)) (.slice g3 m2 c3) (w.heap.size+1) HNE2.out);have HH5:=hid hr5;have HH95:=hid h95;clear hb5 hv5 hn5 hcs hr5 hw5 h95;refine hK _ _ ?_;clear hK K2
     try simp only[Act.put,Z4,Z2,Z3]
     refine wpAny_take (i:=9) (v:= ?_) rfl (by kernel_rfl) (by kernel_rfl) (by kernel_rfl) (fun _ _ _ h=>h) (Or.inl ⟨by kernel_rfl,?_⟩) ?_
     rotate_left
     ·(intro w;go_simp) <;> with_reducible rfl
     try dsimp only[Act.put]
     try simp only[Act.put,Z4,Z2,Z3]
     refine wpAny_ready (rs:=[10]) (by kernel_rfl) (by simp) ?_;refine AllReady.cons rfl (fun K2 hK=> ?_) AllReady.nil;go_simp;refine hK _ _ ?_;clear hK K2
     try simp only[Act.put,Z4,Z2,Z3]
     refine wpAny_done (by kernel_rfl) ?_ _;go_wp2_with fail;go_roundw
     case rel=>exact⟨i+1,by first|rfl|rw[ay HIN.out HN100.out],by have:=HIN.out;omega,HCS2,hid (HH5.out.of_heap HR5.out),hid (HH95.out.of_heap HR95.out)⟩
     case measure=>(try rw[ay HIN.out HN100.out]);simp only[intOf];have:=HIN.out;omega
    ·go_simp;refine hK _ _ ?_;clear hK K2
     try simp only[Act.put,Z4,Z2,Z3]
     refine wpAny_ready (rs:=[1,8]) (by kernel_rfl) (by simp) ?_;refine AllReady.cons rfl (fun K2 hK=> ?_) (AllReady.cons rfl (fun K2 hK=> ?_) AllReady.nil)
     ·go_simp;refine hK _ _ ?_;clear hK K2
      try simp only[Act.put,Z4,Z2,Z3]
      refine wpAny_ready (rs:=[8]) (by kernel_rfl) (by simp) ?_;refine AllReady.cons rfl (fun K2 hK=> ?_) AllReady.nil;go_simp
      with_reducible refine(HCP.out D HD.out).mono ?_
      rintro e w5 ⟨hb5,b3,v5,rfl,hv5,hn5⟩;have HB5:=hid (HD.out.trans (hb5.mono HD.out.size));obtain⟨g3,c3,hv5e,hcs⟩:=HST.out w5 b3 v5 HB5.out (hv5.low (by rw[HDZ.out];exact Z5 _)) hn5;subst hv5e;have hr5:=HR1.out.below HB5.out HR1.out.lt;have h95:=HR91.out.below HB5.out HR91.out.lt;have k6:=hr5.cell0 6 (by simp);have hw5:=HROW.out.below HB5.out HROW.out.lt;have y0:=hw5.cell 0 (by simp[ae]);have y1:=hw5.cell 1 (by simp[ae]);have y2:=hw5.cell 2 (by simp[ae]);have y3:=hw5.cell 3 (by simp[ae]);have y4:=hw5.cell 4 (by simp[ae]);have y5:=hw5.cell 5 (by simp[ae]);have y6:=hw5.cell 6 (by simp[ae]);have z0:=hw5.frozen 0 (by simp[ae]);have z1:=hw5.frozen 1 (by simp[ae]);have z2:=hw5.frozen 2 (by simp[ae]);have z3:=hw5.frozen 3 (by simp[ae]);have z4:=hw5.frozen 4 (by simp[ae]);have z5:=hw5.frozen 5 (by simp[ae]);have z6:=hw5.frozen 6 (by simp[ae]);simp only[ae,Z0,Z1,Y2]at k6 y0 y1 y2 y3 y4 y5 y6 z0 z1 z2 z3 z4 z5 z6;have HCS2:=hid hcs;have HR5:=hid (eu w5 gb (i * 7) (.string (aa nm2)) (.int .i64 (kd2:Nat)) (.int .i64 (at2:Nat)) (.int .i64 (sz2:Nat)) (.int .i64 v2) (.string (aa tx2)) (.slice g3 m2 c3) w.heap.size HNE.out);have HR95:=hid (eu w5 gb (i * 7) (.string (aa nm2)) (.int .i64 (kd2:Nat)) (.int .i64 (at2:Nat)) (.int .i64 (sz2:Nat)) (.int .i64 v2) (.string (aa tx2)) (.slice g3 m2 c3) (w.heap.size+1) HNE2.out);have HH5:=hid hr5;have HH95:=hid h95;clear hb5 hv5 hn5 hcs hr5 hw5 h95;refine hK _ _ ?_;clear hK K2
      try simp only[Act.put,Z4,Z2,Z3]
      refine wpAny_take (i:=9) (v:= ?_) rfl (by kernel_rfl) (by kernel_rfl) (by kernel_rfl) (fun _ _ _ h=>h) (Or.inl ⟨by kernel_rfl,?_⟩) ?_
      rotate_left
      ·(intro w;go_simp) <;> with_reducible rfl
      try dsimp only[Act.put]
      try simp only[Act.put,Z4,Z2,Z3]
      refine wpAny_ready (rs:=[10]) (by kernel_rfl) (by simp) ?_;refine AllReady.cons rfl (fun K2 hK=> ?_) AllReady.nil;go_simp;refine hK _ _ ?_;clear hK K2
      try simp only[Act.put,Z4,Z2,Z3]
      refine wpAny_done (by kernel_rfl) ?_ _;go_wp2_with fail;go_roundw
      case rel=>exact⟨i+1,by first|rfl|rw[ay HIN.out HN100.out],by have:=HIN.out;omega,HCS2,hid (HH5.out.of_heap HR5.out),hid (HH95.out.of_heap HR95.out)⟩
      case measure=>(try rw[ay HIN.out HN100.out]);simp only[intOf];have:=HIN.out;omega
     ·go_simp
      with_reducible refine(HCP.out D HD.out).mono ?_
      rintro e w5 ⟨hb5,b3,v5,rfl,hv5,hn5⟩;have HB5:=hid (HD.out.trans (hb5.mono HD.out.size));obtain⟨g3,c3,hv5e,hcs⟩:=HST.out w5 b3 v5 HB5.out (hv5.low (by rw[HDZ.out];exact Z5 _)) hn5;subst hv5e;have hr5:=HR1.out.below HB5.out HR1.out.lt;have h95:=HR91.out.below HB5.out HR91.out.lt;have k6:=hr5.cell0 6 (by simp);have hw5:=HROW.out.below HB5.out HROW.out.lt;have y0:=hw5.cell 0 (by simp[ae]);have y1:=hw5.cell 1 (by simp[ae]);have y2:=hw5.cell 2 (by simp[ae]);have y3:=hw5.cell 3 (by simp[ae]);have y4:=hw5.cell 4 (by simp[ae]);have y5:=hw5.cell 5 (by simp[ae]);have y6:=hw5.cell 6 (by simp[ae]);have z0:=hw5.frozen 0 (by simp[ae]);have z1:=hw5.frozen 1 (by simp[ae]);have z2:=hw5.frozen 2 (by simp[ae]);have z3:=hw5.frozen 3 (by simp[ae]);have z4:=hw5.frozen 4 (by simp[ae]);have z5:=hw5.frozen 5 (by simp[ae]);have z6:=hw5.frozen 6 (by simp[ae]);simp only[ae,Z0,Z1,Y2]at k6 y0 y1 y2 y3 y4 y5 y6 z0 z1 z2 z3 z4 z5 z6;have HCS2:=hid hcs;have HR5:=hid (eu w5 gb (i * 7) (.string (aa nm2)) (.int .i64 (kd2:Nat)) (.int .i64 (at2:Nat)) (.int .i64 (sz2:Nat)) (.int .i64 v2) (.string (aa tx2)) (.slice g3 m2 c3) w.heap.size HNE.out);have HR95:=hid (eu w5 gb (i * 7) (.string (aa nm2)) (.int .i64 (kd2:Nat)) (.int .i64 (at2:Nat)) (.int .i64 (sz2:Nat)) (.int .i64 v2) (.string (aa tx2)) (.slice g3 m2 c3) (w.heap.size+1) HNE2.out);have HH5:=hid hr5;have HH95:=hid h95;clear hb5 hv5 hn5 hcs hr5 hw5 h95;refine hK _ _ ?_;clear hK K2
      try simp only[Act.put,Z4,Z2,Z3]
      refine wpAny_ready (rs:=[1]) (by kernel_rfl) (by simp) ?_;refine AllReady.cons rfl (fun K2 hK=> ?_) AllReady.nil;go_simp;refine hK _ _ ?_;clear hK K2
      try simp only[Act.put,Z4,Z2,Z3]
      refine wpAny_take (i:=9) (v:= ?_) rfl (by kernel_rfl) (by kernel_rfl) (by kernel_rfl) (fun _ _ _ h=>h) (Or.inl ⟨by kernel_rfl,?_⟩) ?_
      rotate_left
      ·(intro w;go_simp) <;> with_reducible rfl
      try dsimp only[Act.put]
      try simp only[Act.put,Z4,Z2,Z3]
      refine wpAny_ready (rs:=[10]) (by kernel_rfl) (by simp) ?_;refine AllReady.cons rfl (fun K2 hK=> ?_) AllReady.nil;go_simp;refine hK _ _ ?_;clear hK K2
      try simp only[Act.put,Z4,Z2,Z3]
      refine wpAny_done (by kernel_rfl) ?_ _;go_wp2_with fail;go_roundw
      case rel=>exact⟨i+1,by first|rfl|rw[ay HIN.out HN100.out],by have:=HIN.out;omega,HCS2,hid (HH5.out.of_heap HR5.out),hid (HH95.out.of_heap HR95.out)⟩
      case measure=>(try rw[ay HIN.out HN100.out]);simp only[intOf];have:=HIN.out;omega
  ·have q1:decide ((i:Int) < (n:Int))=false:=Y9 (by omega);have q2:decide (i < n)=false:=Y9 hin;have HKV:∃b4 us4,Hid (aQ wr (w.heap.size+2) kids a1 cap1 b4 us4):=by
    obtain⟨hbel,k1,rest,us,ws,b1,b2,e1,e2,e3,e4,e5,e6⟩:=HS1.out;have hr0:rest= .nil:=by
     cases rest with
     |nil=>rfl
     |cons=>exfalso;have:=congrArg Nds.len e1;rw[Nds.cX,← HN.out]at this;simp only[Nds.len]at this;omega
    subst hr0;rw[Nds.eT]at e1;subst e1;rw[e5.1,List.append_nil]at e3;exact⟨b1,us,hid ⟨e3,e4,e6⟩⟩
   obtain⟨b4,us4,HKV⟩:=HKV;have HBEL:=hid HS1.out.bel;have f0:=HR1.out.cell0 0 (by simp);have f1:=HR1.out.cell0 1 (by simp);have f2:=HR1.out.cell0 2 (by simp);have f3:=HR1.out.cell0 3 (by simp);have f4:=HR1.out.cell0 4 (by simp);have f5:=HR1.out.cell0 5 (by simp);have y0:=HR91.out.cell0 0 (by simp);have z0:=HR91.out.frozen0 0 (by simp);have y1:=HR91.out.cell0 1 (by simp);have z1:=HR91.out.frozen0 1 (by simp);have y2:=HR91.out.cell0 2 (by simp);have z2:=HR91.out.frozen0 2 (by simp);have y3:=HR91.out.cell0 3 (by simp);have z3:=HR91.out.frozen0 3 (by simp);have y4:=HR91.out.cell0 4 (by simp);have z4:=HR91.out.frozen0 4 (by simp);have y5:=HR91.out.cell0 5 (by simp);have z5:=HR91.out.frozen0 5 (by simp);have y6:=HR91.out.cell0 6 (by simp);have z6:=HR91.out.frozen0 6 (by simp);simp only[Z0,Z1]at f0 f1 f2 f3 f4 f5 y0 y1 y2 y3 y4 y5 y6;have p0:=HR91.out.aw 0 (by simp) (.string (aa nm));have r0:=p0.cell0 0 (by simp);have p1:=p0.aw 1 (by simp) (.int .i64 (kd:Nat));have r1:=p1.cell0 1 (by simp);have p2:=p1.aw 2 (by simp) (.int .i64 (at_:Nat));have r2:=p2.cell0 2 (by simp);have p3:=p2.aw 3 (by simp) (.int .i64 (sz:Nat));have r3:=p3.cell0 3 (by simp);have p4:=p3.aw 4 (by simp) (.int .i64 val);have r4:=p4.cell0 4 (by simp);have p5:=p4.aw 5 (by simp) (.string (aa tx));have r5:=p5.cell0 5 (by simp);have p6:=p5.aw 6 (by simp) (.slice a1 n cap1);have r6:=p6.cell0 6 (by simp);simp only[Z2,Z3,Z0,Z1]at r0 r1 r2 r3 r4 r5 r6;clear p0 p1 p2 p3 p4 p5 p6;go_wp2_with fail;refine bodyPost_ret (v:= .agg (ae nm kd at_ sz val tx (.slice a1 n cap1)).toArray) (by simp[results,Tryz.results43,go_sem,r0,r1,r2,r3,r4,r5,r6];first|done|rfl) rfl ?_;have hkv:=HKV.out;have hfar:∀k,k≠w.heap.size+1→(st7 wr (w.heap.size+1) (.string (aa nm)) (.int .i64 (kd:Nat)) (.int .i64 (at_:Nat)) (.int .i64 (sz:Nat)) (.int .i64 val) (.string (aa tx)) (.slice a1 n cap1)).heap[k]? =wr.heap[k]? :=fun k hk=>cY _ _ _ _ _ _ _ k hk
   have hkv2:aQ (st7 wr (w.heap.size+1) (.string (aa nm)) (.int .i64 (kd:Nat)) (.int .i64 (at_:Nat)) (.int .i64 (sz:Nat)) (.int .i64 val) (.string (aa tx)) (.slice a1 n cap1)) w.heap.size kids a1 cap1 b4 us4:=(hkv.al fun b hb _=>hfar b (by omega)).low (by omega);have hbl:Below w.heap.size w (st7 wr (w.heap.size+1) (.string (aa nm)) (.int .i64 (kd:Nat)) (.int .i64 (at_:Nat)) (.int .i64 (sz:Nat)) (.int .i64 val) (.string (aa tx)) (.slice a1 n cap1)):=by
    have hB:=HBEL.out;have k1:w.heap.size≤w.heap.size+1:=by omega
    exact((((((hB.setCell (p:=⟨w.heap.size+1,0,none⟩) k1 _).setCell (p:=⟨w.heap.size+1,1,none⟩) k1 _).setCell (p:=⟨w.heap.size+1,2,none⟩) k1 _).setCell (p:=⟨w.heap.size+1,3,none⟩) k1 _).setCell (p:=⟨w.heap.size+1,4,none⟩) k1 _).setCell (p:=⟨w.heap.size+1,5,none⟩) k1 _).setCell (p:=⟨w.heap.size+1,6,none⟩) k1 _
   refine⟨hbl,_,_,rfl,?_,hkv.nodup⟩;rw[HN.out];rw[HN.out]at hkv2;exact hkv2.nd nm kd at_ sz val tx
end
section
namespace Fx
open Ly Tm
end Fx
namespace Fx
open Ly Tm
def shp:Nds→Nds
 | .nil=> .nil
 | .cons a b _ _ e f g r=> .cons a b 0 0 (if b=1 then 0 else e) f (shp g) (shp r)
theorem dH:∀l:Nds,shp (strip l)=shp l
 | .nil=>rfl
 | .cons a b c d e f g r=>by simp only[strip,shp,dH g,dH r]
theorem zZ{O:List Nat}:∀(X:Nds) (b:Nat),(∀j d,nth j X=some d→b+j∈O→d.kind=1)→shp (erO O b X)=shp X
 | .nil,b,_=>rfl
 | .cons a1 a2 a3 a4 a5 a6 a7 r,b,h=>by
  have ih:=zZ r (b+1) (fun j d hd hj=>h (j+1) d hd (by rw[show b+(j+1)=b+1+j by omega];exact hj));simp only[erO,shp,ih]
  by_cases hb:O.contains b=true
  ·have h1:=h 0 _ rfl (by simpa using hb);simp only[]at h1;rw[if_pos h1,if_pos h1]
  ·rw[if_neg hb]
theorem iQ{E:Wd→Nds→Nds}:∀(l:Its) (X:Nds) (j:Nat),(nth j (erI E l X)).map (·.kind)=(nth j X).map (·.kind)
 | .nil,X,j=>by
  show(nth j (strip X)).map _=_;rw[si];cases nth j X <;> rfl
 | .cons h l,.nil,j=>rfl
 | .when ..,.nil,j=>rfl
 | .cons h l,.cons a b c d e f g r,0=>rfl
 | .when p q body l,.cons a b c d e f g r,0=>rfl
 | .cons h l,.cons a b c d e f g r,j+1=>iQ l r j
 | .when p q body l,.cons a b c d e f g r,j+1=>iQ l r j
theorem Aa{E:Nds→Nds}{P:Nds→Prop}(hE:∀X,P X→shp (E X)=shp X):∀X:Nds,BZ P X→shp (erE E X)=shp X
 | .nil,_=>rfl
 | .cons a b c d e f g r,h=>by simp only[erE,shp,hE g h.1,Aa hE r h.2]
def GN(W:Wri)(E:Wd→Nds→Nds):Prop:=∀nm X,(W nm X).isSome=true→shp (E nm X)=shp X
theorem FD{W:Wri}{E:Wd→Nds→Nds}(hE:GN W E){h:Hd}{d:Nd}(hd:(bc W h d).isSome=true):shp (erH E h d.kids)=shp d.kids:=by
 unfold erH;cases hk:h.k with
 |scalar w=>exact dH _
 |bytes=>exact dH _
 |struct t=>
  simp only[];unfold bc at hd
  by_cases hm:cI h=true
  ·rw[if_pos hm]at hd⊢;split at hd
   ·cases hd
   ·exact Aa (hE t) _ (jy (fun d h=>bt hk h) _ hd)
  ·rw[if_neg hm]at hd⊢;exact hE t _ (bt hk hd)
theorem DR{W:Wri}{l:Its}(hf:bB l){X:Nds}(hX:(aH W l X).isSome=true){j:Nat}(hj:j∈ord l.row){d:Nd}(hd:nth j X=some d):d.kind=1:=by
 obtain⟨h,hh,hr⟩:=iP hj;have hs:=oD (fM hf hh) hr;rw[dR]at hX;have ht:=iq W l X j h hh;rw[hd]at ht;have h1:=tH hX.2 ht;rw[p7 hs]at h1;split at h1
 ·cases h1
 ·rename_i hn
  rw[not_or]at hn;exact Classical.not_not.1 hn.2
theorem vR{W:Wri}{E:Wd→Nds→Nds}{l:Its}(hf:bB l){X:Nds}(hX:(aH W l X).isSome=true):shp (erO (ord l.row) 0 (erI E l X))=shp (erI E l X):=by
 refine zZ _ 0 (fun j d hd hj=> ?_);rw[Nat.zero_add]at hj;have h1:=iQ (E:=E) l X j;rw[hd]at h1;cases h2:nth j X with
 |none=>rw[h2]at h1;cases h1
 |some d2=>
  rw[h2]at h1;have h3:=DR hf hX hj h2;simp only[Option.map_some,Option.some.injEq]at h1;rw[h1,h3]
theorem oF{W:Wri}{E:Wd→Nds→Nds}(hE:GN W E):∀(l:Its),bB l→∀X:Nds,(aH W l X).isSome=true→shp (erI E l X)=shp X
 | .nil,_,X,_=>by show shp (strip X)=_;exact dH X
 | .cons h l,_,.nil,_=>rfl
 | .when ..,_,.nil,_=>rfl
 | .cons h l,hf,.cons a b c d e f g r,hX=>by
  have h2:=cg hX;have h3:=FD hE h2.1;simp only[]at h3;simp only[erI,shp,h3,oF hE l hf.2 r h2.2]
 | .when p q body l,hf,.cons a b c d e f g r,hX=>by
  have h2:=bF hX;have h4:shp (if e=0 then strip g else erO (ord body.row) 0 (erI E body g))=shp g:=by
   by_cases he:e=0
   ·rw[if_pos he];exact dH g
   ·rw[if_neg he,vR hf.2.1 (h2.1 he),oF hE body hf.2.1 g (h2.1 he)]
  simp only[erI,shp,h4,oF hE l hf.2.2 r h2.2.2]
theorem oG:∀(L:List Ty),(∀t∈L,aZ t)→GN (wrS L) (erS L)
 |[],_,nm,X,hX=>by cases hX
 |t::r,hF,nm,X,hX=>by
  unfold erS;unfold wrS at hX;have hr:∀t∈r,aZ t:=fun t ht=>hF t (by simp[ht])
  by_cases hn:t.name=nm
  ·rw[if_pos hn]at hX⊢;unfold erB;rw[vR (hF t (by simp)).2 hX,oF (oG r hr) t.items (hF t (by simp)).2 X hX]
  ·rw[if_neg hn]at hX⊢;exact oG r hr nm X hX
theorem vS{C:Wd→Nat}{L:List Ty}(hF:∀t∈L,aZ t){nm:Wd}{X p:Nds}(hX:(wrS L nm X).isSome=true)(h:dj C L nm X=some p):shp p=shp X:=by
 have hp:=fJ L hF nm X p h hX;rw[← oG L hF nm X hX,← oG L hF nm p hp,lZ L nm X p h]
end Fx
namespace Fx
open Ly Tm
theorem sn{E:Nds→Nds}(hE:∀X,E (strip X)=E X):∀X:Nds,erE E (strip X)=erE E X
 | .nil=>rfl
 | .cons a b c d e f g r=>by simp only[strip,erE,hE,sn hE r]
theorem B4{E:Wd→Nds→Nds}(hE:∀nm X,E nm (strip X)=E nm X)(h:Hd)(X:Nds):erH E h (strip X)=erH E h X:=by
 unfold erH;cases h.k with
 |scalar w=>exact dN X
 |bytes=>exact dN X
 |struct t=>simp only[hE t,sn (hE t)]
theorem jX{E:Wd→Nds→Nds}(hE:∀nm X,E nm (strip X)=E nm X):∀(l:Its) (X:Nds),erI E l (strip X)=erI E l X
 | .nil,X=>by show strip (strip X)=strip X;exact dN X
 | .cons h l,.nil=>rfl
 | .when ..,.nil=>rfl
 | .cons h l,.cons a b c d e f g r=>by simp only[strip,erI,B4 hE,jX hE l r]
 | .when p q body l,.cons a b c d e f g r=>by simp only[strip,erI,jX hE l r,jX hE body g,dN g]
theorem jY:∀(L:List Ty) (nm:Wd) (X:Nds),erS L nm (strip X)=erS L nm X
 |[],nm,X=>dN X
 |t::r,nm,X=>by
  unfold erS;unfold erB;rw[jX (jY r),jY r]
theorem DS{L:List Ty}{nm:Wd}{X Y:Nds}(h:strip X=strip Y):erS L nm X=erS L nm Y:=by rw[← jY,h,jY]
def rdT(L:List Ty)(root s:Wd):Option Nd:=(bI (rdS s L) s (fun _=>none) (cf root) ⟨0,0⟩).bind fun p=>if p.2.at_=s.length then some p.1 else none
def wrT(L:List Ty)(root:Wd)(d:Nd):Option Wd:=aY (wrS L) (cf root) d
theorem DT{L:List Ty}(hF:∀t∈L,aZ t){root s:Wd}{d:Nd}(h:rdT L root s=some d):wrT L root d=some s:=by
 unfold rdT at h;obtain⟨p,h1,h2⟩:=Option.bind_eq_some_iff.1 h;split at h2
 ·rename_i he
  cases h2;exact pU hF (d:=p.1) (st:=p.2) h1 he
 ·cases h2
theorem B5{L:List Ty}{root:Wd}{d e:Nd}(h:Nd.strip d=Nd.strip e):wrT L root d=wrT L root e:=by
 unfold wrT;rw[← iO (im L),h,iO (im L)]
theorem dO{L:List Ty}{root:Wd}{d:Nd}(h:(wrT L root d).isSome=true):(wrS L root d.kids).isSome=true∧d.name=root∧d.kind=3:=by
 have h1:=bt (W:=wrS L) (h:=cf root) (t:=root) rfl h;refine⟨h1,?_⟩;unfold wrT aY at h;split at h
 ·cases h
 ·rename_i hn
  rw[not_or]at hn;exact⟨Classical.not_not.1 hn.1,Classical.not_not.1 hn.2⟩
def Ab(C:Wd→Nat)(L:List Ty)(root:Wd)(d:Nd)(u:Wd):Prop:=∃p,dj C L root d.kids=some p∧wrT L root {d with kids:=p}=some u∧u.length≤4000∧∃m,rdT L root u=some m∧Nd.strip m=Nd.strip {d with kids:=p}
theorem yS{C:Wd→Nat}{L:List Ty}(hF:∀t∈L,aZ t){root u:Wd}{d:Nd}(hd:(wrT L root d).isSome=true)(h:Ab C L root d u):
  ∃m q,rdT L root u=some m∧dj C L root m.kids=some q∧wrT L root {m with kids:=q}=some u∧Ab C L root m u∧shp m.kids=shp d.kids:=by
 obtain⟨p,h1,h2,h3,m,h4,h5⟩:=h;obtain⟨hX,_,_⟩:=dO hd;obtain⟨hp,q',h6,h7⟩:=yP hF hX h1;have hm:=DT hF h4;obtain⟨hmk,_,_⟩:=dO (L:=L) (root:=root) (d:=m) (by rw[hm];rfl);have hk:strip m.kids=strip p:=by have:=congrArg Nd.kids h5;exact this
 have h8:=oE (C:=C) L hF root m.kids p hmk hp (DS hk);rw[h6]at h8;rcases gO h8 with⟨_,h9⟩|⟨x,y,h9,h10,h11⟩
 ·cases h9
 ·cases h10;have hs:Nd.strip {m with kids:=x}=Nd.strip m:=by
   unfold Nd.strip;simp only[h11,h7,hk]
  have hw:wrT L root {m with kids:=x}=some u:=by rw[B5 hs,hm]
  refine⟨m,x,h4,h9,hw,⟨x,h9,hw,h3,m,h4,hs.symm⟩,?_⟩;rw[← dH m.kids,hk,dH,vS hF hX h1]
end Fx
namespace Fx
open Ly Tm
inductive Dn where
 |ok (u:Wd)
 |bad (e:Nat)
open Classical in
noncomputable def vT(L:List Ty)(root:Wd)(o:Option Wd)(s:Nd):Dn:=match o with
 |none=> .bad 3
 |some u=>if 4000 < u.length then .bad 1 else match rdT L root u with
  |none=> .bad 2
  |some m=>if Nd.strip m=s then .ok u else .bad 2
noncomputable def bW(C:Wd→Nat)(L:List Ty)(root:Wd)(d:Nd):Dn:=
 match dj C L root d.kids with
 |none=> .bad 0
 |some p=>vT L root (wrT L root {d with kids:=p}) (Nd.strip {d with kids:=p})
theorem l8{C:Wd→Nat}{L:List Ty}{root u:Wd}{d:Nd}:bW C L root d= .ok u↔Ab C L root d u:=by
 unfold bW Ab;cases h1:dj C L root d.kids with
 |none=>simp
 |some p=>
  simp only[];unfold vT;cases h2:wrT L root {d with kids:=p}with
  |none=>simp[h2]
  |some u'=>
   simp only[]
   by_cases h3:4000 < u'.length
   ·rw[if_pos h3];constructor
    ·intro h;cases h
    ·rintro⟨p',e1,e2,e3,_⟩;cases e1;rw[h2]at e2;cases e2;omega
   ·rw[if_neg h3];cases h4:rdT L root u' with
    |none=>
     constructor
     ·intro h;cases h
     ·rintro⟨p',e1,e2,e3,m,e4,_⟩;cases e1;rw[h2]at e2;cases e2;rw[h4]at e4;cases e4
    |some m=>
     simp only[]
     by_cases h5:Nd.strip m=Nd.strip {d with kids:=p}
     ·rw[if_pos h5];constructor
      ·intro h;cases h;exact⟨p,rfl,h2,by omega,m,h4,h5⟩
      ·rintro⟨p',e1,e2,e3,m',e4,e5⟩;cases e1;rw[h2]at e2;cases e2;rfl
     ·rw[if_neg h5];constructor
      ·intro h;cases h
      ·rintro⟨p',e1,e2,e3,m',e4,e5⟩;cases e1;rw[h2]at e2;cases e2;rw[h4]at e4;cases e4;exact absurd e5 h5
end Fx
namespace Fx
open Ly Tm
def jz:Nds→Nds→Bool
 | .nil,.nil=>true
 | .cons a1 a2 _ _ a5 a6 a7 r1,.cons b1 b2 _ _ b5 b6 b7 r2=>decide (a1=b1)&&decide (a2=b2)&&decide (a5=b5)&&decide (a6=b6)&&jz a7 b7&&jz r1 r2
 |_,_=>false
theorem nv:∀X Y:Nds,jz X Y=true↔strip X=strip Y
 | .nil,.nil=>by simp[jz]
 | .nil,.cons ..=>by simp[jz,strip]
 | .cons ..,.nil=>by simp[jz,strip]
 | .cons a1 a2 a3 a4 a5 a6 a7 r1,.cons b1 b2 b3 b4 b5 b6 b7 r2=>by
  simp only[jz,strip,Bool.and_eq_true,decide_eq_true_eq,nv a7 b7,nv r1 r2,Nds.cons.injEq,true_and];constructor
  ·rintro⟨⟨⟨⟨⟨h1,h2⟩,h3⟩,h4⟩,h5⟩,h6⟩;exact⟨h1,h2,h3,h4,h5,h6⟩
  ·rintro⟨h1,h2,h3,h4,h5,h6⟩;exact⟨⟨⟨⟨⟨h1,h2⟩,h3⟩,h4⟩,h5⟩,h6⟩
def dT(a b:Nd):Bool:=decide (a.name=b.name)&&decide (a.kind=b.kind)&&decide (a.val=b.val)&&decide (a.text=b.text)&&jz a.kids b.kids
theorem so(a b:Nd):dT a b=true↔Nd.strip a=Nd.strip b:=by
 unfold dT Nd.strip;simp only[Bool.and_eq_true,decide_eq_true_eq,nv,Nd.mk.injEq,true_and];constructor
 ·rintro⟨⟨⟨⟨h1,h2⟩,h3⟩,h4⟩,h5⟩;exact⟨h1,h2,h3,h4,h5⟩
 ·rintro⟨h1,h2,h3,h4,h5⟩;exact⟨⟨⟨⟨h1,h2⟩,h3⟩,h4⟩,h5⟩
def bD:List Nat→Nd→Option Nd
 |[],d=>some d
 |k::p,d=>(nth k d.kids).bind (bD p)
theorem Ac:∀(X Y:Nds) (k:Nat),shp X=shp Y→(nth k X).map (fun d=>(d.name,d.kind,d.text,shp d.kids,(if d.kind=1 then 0 else d.val)))=(nth k Y).map fun d=>(d.name,d.kind,d.text,shp d.kids,(if d.kind=1 then 0 else d.val))
 | .nil,.nil,k,_=>rfl
 | .nil,.cons ..,k,h=>by simp[shp]at h
 | .cons ..,.nil,k,h=>by simp[shp]at h
 | .cons a1 a2 a3 a4 a5 a6 a7 r1,.cons b1 b2 b3 b4 b5 b6 b7 r2,k,h=>by
  simp only[shp]at h;injection h with e1 e2 e3 e4 e5 e6 e7 e8
  cases k with
  |zero=>simp only[nth,Option.map_some,e1,e6,e7];rw[e5,e2]
  |succ k=>exact Ac r1 r2 k e8
end Fx
namespace Fx
open Ly Tm
end Fx
namespace Fx
open Ly Tm
theorem qc{W:Wri}{h:Hd}{l:Its}{a b c d e f g r}(h1:(bc W h ⟨a,b,c,d,e,f,g⟩).isSome=true)(h2:(aH W l r).isSome=true):(aH W (.cons h l) (.cons a b c d e f g r)).isSome=true:=by
 obtain⟨u,hu⟩:=Option.isSome_iff_exists.1 h1;obtain⟨v,hv⟩:=Option.isSome_iff_exists.1 h2;unfold aH;rw[hu,hv];rfl
end Fx
namespace Fx
open Ly Tm
end Fx
end
end Go.Proofs.YtlomecfhobehnaaGreatDoor
