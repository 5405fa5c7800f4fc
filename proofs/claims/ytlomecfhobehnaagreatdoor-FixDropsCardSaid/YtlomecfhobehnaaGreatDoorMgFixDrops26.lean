import Derived.Test.YtlomecfhobehnaaGreatDoorMgFixDrops25
set_option linter.all false
set_option maxRecDepth 100000
set_option maxHeartbeats 2000000
namespace Go.Proofs.YtlomecfhobehnaaGreatDoor
open Lib (hid)
section
open Go Go.RowKit
open Rd
open Ly
def uX(w:World)(d:Nd)(e:Ending)(w':World):Prop:=Below w.heap.size w w'∧∃b2 v,e= .returned v∧NdV w' w.heap.size b2 d v∧b2.Nodup
def FN(d:Nd):Prop:=∀(w:World) (B:Nat) (bl:List Nat) (v:Value),NdV w B bl d v→Calls Tryz.prog 43 #[v] w (uX w d)
structure CpS(w wr:World)(N0:Nat)(kids:Nds)(i:Nat)(a1:Option Addr)(cap1:Nat)(B:Nat):Prop where
 bel:Below w.heap.size w wr
 ex:∃ks1 rest us ws b1 b2,kids=ks1.app rest∧ks1.len=i∧ak wr N0 28 7 a1 kids.len cap1 (us++ws)∧aU wr N0 ks1 b1 us∧aU w B rest b2 ws∧(aB a1++b1).Nodup
theorem ID{α:Type}(xs r:List α)(v:α)(i:Nat)(h:i < xs.length):(xs.set i v).take (i+1)++r++(xs.set i v).drop (i+1+r.length)=xs.take i++v::r++xs.drop (i+(r.length+1)):=by
 have e1:(xs.set i v).take (i+1)=xs.take i++[v]:=by
  rw[List.take_add_one,List.take_set_of_le (Z5 _),List.getElem?_set_self h];rfl
 have e2:(xs.set i v).drop (i+1+r.length)=xs.drop (i+(r.length+1)):=by
  rw[List.drop_set_of_lt (by omega)];congr 1;omega
 rw[e1,e2];simp
theorem ak.setCells{B:Nat}{e:TypeId}{size g n cap:Nat}:∀(vs:List Value) (i:Nat) (w:World) (xs:List Value),ak w B e size (some ⟨g,0,none⟩) n cap xs→i+vs.length≤xs.length→ak (w.setCells g i vs) B e size (some ⟨g,0,none⟩) n cap (xs.take i++vs++xs.drop (i+vs.length))
 |[],i,w,xs,h,_=>by simpa[World.setCells]using h
 |v::r,i,w,xs,h,hl=>by
  rw[Z6]at hl;have h2:=ak.setCells r (i+1) _ _ (h.set i (by omega) v) (by rw[List.length_set];omega);rw[ID xs r v i (by omega)]at h2;exact h2
theorem qO{B g:Nat}(hg:B≤g):∀(vs:List Value) (o:Nat) (w:World),Below B w (w.setCells g o vs)
 |[],_,w=>Y4 B w
 |v::r,o,w=>((Y4 B w).setCell (p:=⟨g,o,none⟩) hg v).trans (qO hg r (o+1) _)
theorem ei{g:Nat}{b:Nat}(hb:b≠g):∀(vs:List Value) (o:Nat) (w:World),(w.setCells g o vs).heap[b]? =w.heap[b]?
 |[],_,w=>rfl
 |v::r,o,w=>(ei hb r (o+1) _).trans (Below.heap_setCell w ⟨g,o,none⟩ v b hb)
abbrev JS(w:World)(b o:Nat)(v0 v1 v2 v3 v4 v5 v6:Value):World:=
 (((((((w.setCell ⟨b,o,none⟩ v0).setCell ⟨b,o+1,none⟩ v1).setCell ⟨b,o+2,none⟩ v2).setCell ⟨b,o+3,none⟩ v3).setCell ⟨b,o+4,none⟩ v4).setCell ⟨b,o+5,none⟩ v5).setCell ⟨b,o+6,none⟩ v6)
theorem Bo(w:World)(b o:Nat)(v0 v1 v2 v3 v4 v5 v6:Value):w.setCells b o [v0,v1,v2,v3,v4,v5,v6]=JS w b o v0 v1 v2 v3 v4 v5 v6:=by
 simp only[World.setCells,Nat.add_assoc,Nat.reduceAdd]
theorem ey(w:World)(b o:Nat)(v0 v1 v2 v3 v4 v5 v6:Value)(g:Nat)(hg:g≠b):(JS w b o v0 v1 v2 v3 v4 v5 v6).heap[g]? =w.heap[g]? :=by
 rw[← Bo];exact ei hg _ _ _
theorem FO(k1:Nds)(d:Nd)(r:Nds):(k1.app (d.put .nil)).app r=k1.app (d.put r):=Nds.dM _ _ _
theorem CpS.at_{w wr:World}{N0:Nat}{kids:Nds}{i gb cap1 B:Nat}(h:CpS w wr N0 kids i (some ⟨gb,0,none⟩) cap1 B)(hi:i < kids.len)(hB:w.heap.size≤N0):
  ∃(k1:Nds) (d2:Nd) (r:Nds) (bl2:List Nat) (g2:Option Addr) (c2:Nat),kids=k1.app (d2.put r)∧N0≤gb∧ae wr gb (i * 7) 28 (ab d2.name d2.kind d2.at_ d2.size d2.val d2.text (.slice g2 d2.kids.len c2))∧(∀X,Below wr.heap.size wr X→NdV X B bl2 d2 (.agg (ab d2.name d2.kind d2.at_ d2.size d2.val d2.text (.slice g2 d2.kids.len c2)).toArray))∧
   ∀(w5:World) (b3:List Nat) (v:Value),Below wr.heap.size wr w5→NdV w5 wr.heap.size b3 d2 v→b3.Nodup→∃g3 c3,v= .agg #[.string (aa d2.name),.int .i64 (d2.kind:Nat),.int .i64 (d2.at_:Nat),.int .i64 (d2.size:Nat),.int .i64 d2.val,.string (aa d2.text),.slice g3 d2.kids.len c3]∧CpS w (JS w5 gb (i * 7) (.string (aa d2.name)) (.int .i64 (d2.kind:Nat)) (.int .i64 (d2.at_:Nat)) (.int .i64 (d2.size:Nat)) (.int .i64 d2.val) (.string (aa d2.text)) (.slice g3 d2.kids.len c3)) N0 kids (i+1) (some ⟨gb,0,none⟩) cap1 B:=by
 obtain⟨hbel,k1,rest,us,ws,b1,b2,rfl,rfl,ho,he1,he2,hnd⟩:=h;rw[Nds.bZ]at hi;cases rest with
 |nil=>exact absurd hi (by show ¬_ < k1.len+0;omega)
 |cons nm kd a sz v tx ks r=>
  obtain⟨g2,c2,bs2,us2,b3,b4,rfl,e1,e3,rfl,e5⟩:=he2;have hlu:=he1.len;have hrow:=ho.row.2.2.2.2.part (k1.len * 7) 7;rw[Nat.zero_add]at hrow;have hseg:((us++(ab nm kd a sz v tx (.slice g2 ks.len c2)++us2)).drop (k1.len * 7)).take 7=ab nm kd a sz v tx (.slice g2 ks.len c2):=by
   rw[← hlu,List.drop_left];rfl
  rw[hseg]at hrow;refine⟨k1,⟨nm,kd,a,sz,v,tx,ks⟩,r,aB g2++b3,g2,c2,rfl,ho.lt.1,hrow,fun X hX=> ?_,fun w5 b5 v5 hb5 hv5 hn5=> ?_⟩
  ·have hwX:=hbel.trans (hX.mono hbel.size);exact⟨g2,c2,bs2,b3,rfl,rfl,e1.below hwX (Z5 _),e3.an _ _ _ fun b hb=>hwX.block b (e3.mem _ _ _ b hb).2⟩
  ·have hmem5:=hv5.mem;obtain⟨g3,c3,bs3,b6,rfl,rfl,f1,f2⟩:=hv5;have hgb:gb < wr.heap.size:=ho.lt.2;have hfar:∀b,b≠gb→(w5.setCells gb (k1.len * 7) (ab nm kd a sz v tx (.slice g3 ks.len c3))).heap[b]? =w5.heap[b]? :=fun b hb=>ei hb _ _ _
   have hne:∀b∈aB g3++b6,b≠gb:=fun b hb e=>by have:=(hmem5 b hb).1;omega
   refine⟨g3,c3,rfl,?_⟩;rw[← Bo];refine⟨(hbel.trans (hb5.mono hbel.size)).trans (qO (Nat.le_trans hB ho.lt.1) _ _ _),k1.app (Nd.put ⟨nm,kd,a,sz,v,tx,ks⟩ .nil),r,us++ab nm kd a sz v tx (.slice g3 ks.len c3),us2,b1++(aB g3++b6),b4,(FO k1 ⟨nm,kd,a,sz,v,tx,ks⟩ r).symm,by rw[Nds.bZ];rfl,?_,?_,e5,?_⟩
   ·have h5:ak w5 N0 28 7 (some ⟨gb,0,none⟩) (k1.app (Nds.cons nm kd a sz v tx ks r)).len cap1 (us++(ab nm kd a sz v tx (.slice g2 ks.len c2)++us2)):=ho.below hb5 (Z5 _);have h6:=ak.setCells (ab nm kd a sz v tx (.slice g3 ks.len c3)) (k1.len * 7) w5 _ h5 (by rw[Z7,hlu];simp[ab]);have e:(us++(ab nm kd a sz v tx (.slice g2 ks.len c2)++us2)).take (k1.len * 7)++ab nm kd a sz v tx (.slice g3 ks.len c3)++(us++(ab nm kd a sz v tx (.slice g2 ks.len c2)++us2)).drop (k1.len * 7+(ab nm kd a sz v tx (.slice g3 ks.len c3)).length)=(us++ab nm kd a sz v tx (.slice g3 ks.len c3))++us2:=by
     rw[← hlu,List.take_left,← List.drop_drop,List.drop_left];rfl
    rw[e]at h6;exact h6
   ·refine aU.app (m:=Nd.put ⟨nm,kd,a,sz,v,tx,ks⟩ .nil) ?_ k1 b1 us (he1.an _ _ _ fun b hb=> ?_)
    ·refine⟨g3,c3,bs3,[],b6,[],by simp,(f1.an fun x hx=>hfar _ (hne _ (by subst hx;simp[aB]))).mono (Nat.le_trans ho.lt.1 (Nat.le_of_lt hgb)),(f2.an _ _ _ fun b hb=>hfar b (hne b (by simp[hb]))).low (Nat.le_trans ho.lt.1 (Nat.le_of_lt hgb)) _ _ _,by rw[List.append_nil],rfl,rfl⟩
    ·have hlt:=(he1.mem _ _ _ b hb).2;exact(hfar b (fun e=>(List.nodup_append.1 hnd).2.2 gb (by simp[aB]) b hb e.symm)).trans (hb5.block b hlt)
   ·rw[← List.append_assoc,List.nodup_append];refine⟨hnd,hn5,fun x hx y hy e=> ?_⟩;subst e;have h7:=(hmem5 x hy).1;rcases List.mem_append.1 hx with h|h
    ·obtain⟨z,hz,rfl⟩:=gj h;cases hz;simp only[]at h7;omega
    ·have:=(he1.mem _ _ _ x h).2;omega
theorem xF(d:Nd)(hn:d.kids.len≤100000)(hk:∀(k1:Nds) (d2:Nd) (r:Nds),d.kids=k1.app (d2.put r)→FN d2):FN d:=by
 intro w B bl v hv;obtain⟨ga,cap,bs,b1,rfl,rfl,ho,he⟩:=hv;obtain⟨nm,kd,at_,sz,val,tx,kids⟩:=d;simp only[]at hn hk ho he⊢;obtain⟨n,hn'⟩:∃n,n=kids.len:=⟨_,rfl⟩;have HCL:=hid (fun V (hV:Below w.heap.size w V)=>zX V B n cap ga bs (by rw[hn'];exact ho.below hV (Z5 _)) (mJ _ _ _ he) (by rw[hn'];exact hn));rw[← hn'];have HO:=hid ho;have HE:=hid he;have HK:=hid hk;have HN:=hid hn';have HN2:=hid hn;obtain⟨V0,hV0⟩:∃V0,V0=(w.alloc (.cells #[.string (aa nm),.int .i64 (kd:Nat),.int .i64 (at_:Nat),.int .i64 (sz:Nat),.int .i64 val,.string (aa tx),.slice ga n cap] 28)).alloc (.cells #[.string {data:= #[]},.int .i64 0,.int .i64 0,.int .i64 0,.int .i64 0,.string {data:= #[]},.slice none 0 0] 28):=⟨_,rfl⟩;have hbA:Below w.heap.size w V0:=by rw[hV0];exact((Y4 w.heap.size w).alloc (Z5 _) _).alloc (by simp) _
 have hr0:ae V0 w.heap.size 0 28 [.string (aa nm),.int .i64 (kd:Nat),.int .i64 (at_:Nat),.int .i64 (sz:Nat),.int .i64 val,.string (aa tx),.slice ga n cap]:=by rw[hV0];exact(ae.new w _ _).alloc _
 have hs0:V0.heap.size=w.heap.size+2:=by rw[hV0];simp
 have hr9:ae V0 (w.heap.size+1) 0 28 [.string {data:= #[]},.int .i64 0,.int .i64 0,.int .i64 0,.int .i64 0,.string {data:= #[]},.slice none 0 0]:=by rw[hV0];exact ae.iI _ _ (by simp) _ _
 have c6:=hr0.cell0 6 (by simp);simp only[Z0,Z1]at c6;rw[hV0]at c6;have HBA:=hid hbA;have HR0:=hid hr0;have HV0:=hid hV0;have HS0:=hid hs0;have HR9:=hid hr9;have hv2:(Value.agg (ab nm kd at_ sz val tx (.slice ga n cap)).toArray)= .agg #[.string (aa nm),.int .i64 (kd:Nat),.int .i64 (at_:Nat),.int .i64 (sz:Nat),.int .i64 val,.string (aa tx),.slice ga n cap]:=rfl;rw[hv2];clear ho he hk hn' hn hbA hr0 hV0 hv2 hs0 hr9;go_enter Tryz.func43,Tryz.ntmps43;go_wp2_with fail;rw[← HV0.out];refine(HCL.out V0 HBA.out).mono ?_;rintro e w1 ⟨hb1,a1,cap1,rfl,ho1⟩;have hr1:=HR0.out.below hb1 HR0.out.lt;have y6:=hr1.cell0 6 (by simp);have z6:=hr1.frozen0 6 (by simp);simp only[Z0,Z1]at y6;have hr2:=hr1.ax 6 (by simp) (.slice a1 n cap1);simp only[Z2,Z3]at hr2;have k6:=hr2.cell0 6 (by simp);simp only[Z0,Z1]at k6;have HR2:=hid hr2;have HB1:=hid hb1;have HO1:=hid ho1;have hbW:=(HBA.out.trans (hb1.mono HBA.out.size)).setCell (p:=⟨w.heap.size,6,none⟩) (Z5 _) (.slice a1 n cap1);have ho2:=ho1.far (p:=⟨w.heap.size,6,none⟩) (fun x hx=>by subst hx;have:=ho1.lt.1;have:=HS0.out;simp only[];omega) (.slice a1 n cap1);have hr9b:=(HR9.out.below hb1 HR9.out.lt).far (p:=⟨w.heap.size,6,none⟩) (show w.heap.size+1≠w.heap.size by omega) (.slice a1 n cap1);have HS:=hid (show CpS w (w1.setCell ⟨w.heap.size,6,none⟩ (.slice a1 n cap1)) (w.heap.size+2) kids 0 a1 cap1 B from⟨hbW,.nil,kids,[],bs,[],b1,rfl,rfl,by rw[← HN.out];exact ho2.mono (by have:=HS0.out;omega),⟨rfl,rfl⟩,HE.out,by cases a1 <;> simp[aB]⟩);have HR9B:=hid hr9b;have hcap1:n≤cap1:=aW ho1;clear hr1 hr2 hb1 ho1 c6 hbW ho2 hr9b;go_wp2_with fail;go_loopw [11] (fun v11 wr=>∃(i:Nat),v11= .int .i64 (i:Nat)∧i≤n∧Hid (CpS w wr (w.heap.size+2) kids i a1 cap1 B)∧Hid (ae wr w.heap.size 0 28 [.string (aa nm),.int .i64 (kd:Nat),.int .i64 (at_:Nat),.int .i64 (sz:Nat),.int .i64 val,.string (aa tx),.slice a1 n cap1])∧Hid (ae wr (w.heap.size+1) 0 28 [.string {data:= #[]},.int .i64 0,.int .i64 0,.int .i64 0,.int .i64 0,.string {data:= #[]},.slice none 0 0])) (fun v11 _=>n - (intOf v11).toNat)
 case atStart=>exact⟨0,rfl,Nat.zero_le _,HS,HR2,HR9B⟩
 case round=>
  clear k6 y6 z6;obtain⟨i,rfl,hi,HS1,HR1,HR91⟩:=hrel;have k6:=HR1.out.cell0 6 (by simp);simp only[Z0,Z1]at k6
  by_cases hin:i < n
  ·have q1:decide ((i:Int) < (n:Int))=true:=Z9 (by omega);have q2:decide (i < n)=true:=Z9 hin;have hii:(i:Int) < (n:Int):=by omega
   obtain⟨x,rfl⟩:∃x,a1=some x:=by
    cases a1 with
    |none=>obtain⟨_,_,_,_,_,_,_,_,h3,_⟩:=HS1.out.ex;have:=h3.aS.1;rw[← HN.out]at this;omega
    |some x=>exact⟨x,rfl⟩
   obtain⟨gb,rfl⟩:∃gb,x=⟨gb,0,none⟩:=by
    obtain⟨_,_,_,_,_,_,_,_,h3,_⟩:=HS1.out.ex;exact⟨x.block,h3.row.1⟩
   have hi2:i < kids.len:=by rw[← HN.out];exact hin
   obtain⟨k1,⟨nm2,kd2,at2,sz2,v2,tx2,ks2⟩,r,bl2,g2,c2,hkids,hgb,hrow,hnv,hst⟩:=HS1.out.at_ hi2 (by omega);simp only[]at hrow hnv hst;obtain⟨m2,hm2⟩:∃m2,m2=ks2.len:=⟨_,rfl⟩;rw[← hm2]at hnv;have hvv:Value.agg (ab nm2 kd2 at2 sz2 v2 tx2 (.slice g2 m2 c2)).toArray= .agg #[.string (aa nm2),.int .i64 (kd2:Nat),.int .i64 (at2:Nat),.int .i64 (sz2:Nat),.int .i64 v2,.string (aa tx2),.slice g2 m2 c2]:=rfl;rw[hvv]at hnv;clear hvv;have HCP:=hid (fun X hX=>HK.out k1 _ r hkids X B bl2 _ (hnv X hX));rw[← hm2]at hrow hst;have HST:=hid hst;have HM2:=hid hm2;have f0:=hrow.cell 0 (by simp[ab]);have f1:=hrow.cell 1 (by simp[ab]);have f2:=hrow.cell 2 (by simp[ab]);have f3:=hrow.cell 3 (by simp[ab]);have f4:=hrow.cell 4 (by simp[ab]);have f5:=hrow.cell 5 (by simp[ab]);have f6:=hrow.cell 6 (by simp[ab]);simp only[ab,Z0,Z1,Y2]at f0 f1 f2 f3 f4 f5 f6;have HROW:=hid hrow;clear f0 f1 f2 f3 f4 f5 f6;have HNE:=hid (show w.heap.size≠gb by omega);have HNE2:=hid (show w.heap.size+1≠gb by omega);have HIN:=hid hin;have HN100:=hid (show n≤100000 by rw[HN.out];exact HN2.out);have hS1:wr.drew.cell? ⟨w.heap.size,6,none⟩=some (.slice (some ⟨gb,0,none⟩) n cap1):=k6;clear hkids hnv hst hin hm2;go_wp2_with fail;obtain⟨D,hD⟩:∃D,D=wr.drew:=⟨_,rfl⟩;have HD:=hid (show Below wr.heap.size wr D by rw[hD];exact(Y4 wr.heap.size wr).drew);have HDZ:=hid (show D.heap.size=wr.heap.size by rw[hD];rfl);have k6:D.cell? ⟨w.heap.size,6,none⟩=some (.slice (some ⟨gb,0,none⟩) n cap1):=by rw[hD];exact hS1
   have hrD:=HROW.out.below HD.out HROW.out.lt;have f0:=hrD.cell 0 (by simp[ab]);have f1:=hrD.cell 1 (by simp[ab]);have f2:=hrD.cell 2 (by simp[ab]);have f3:=hrD.cell 3 (by simp[ab]);have f4:=hrD.cell 4 (by simp[ab]);have f5:=hrD.cell 5 (by simp[ab]);have f6:=hrD.cell 6 (by simp[ab]);simp only[ab,Z0,Z1,Y2]at f0 f1 f2 f3 f4 f5 f6;refine wp_region_any (by kernel_rfl) ?_
   try(change wpAny _ _ _ _ _ _ _ (World.drew _))
   rw[← hD];clear hD hS1 hrD;refine wpAny_take (i:=0) (v:= ?_) rfl (by kernel_rfl) (by kernel_rfl) (by kernel_rfl) (fun _ _ _ h=>h) (Or.inl ⟨by kernel_rfl,?_⟩) ?_
   rotate_left
   ·(intro w;go_simp) <;> with_reducible rfl
   try dsimp only[Act.put]
   try simp only[Act.put,Z4,Z2,Z3]
   refine wpAny_take (i:=2) (v:= ?_) rfl (by kernel_rfl) (by kernel_rfl) (by kernel_rfl) (fun _ _ _ h=>h) (Or.inl ⟨by kernel_rfl,?_⟩) ?_
   rotate_left
   ·(intro w;go_simp) <;> with_reducible rfl
   try dsimp only[Act.put]
   try simp only[Act.put,Z4,Z2,Z3]
   refine wpAny_take (i:=3) (v:= ?_) rfl (by kernel_rfl) (by kernel_rfl) (by kernel_rfl) (fun _ _ _ h=>h) (Or.inl ⟨by kernel_rfl,?_⟩) ?_
   rotate_left
   ·(intro w;go_simp) <;> with_reducible rfl
   try dsimp only[Act.put]
   try simp only[Act.put,Z4,Z2,Z3]
   refine wpAny_take (i:=5) (v:= ?_) rfl (by kernel_rfl) (by kernel_rfl) (by kernel_rfl) (fun _ _ _ h=>h) (Or.inl ⟨by kernel_rfl,?_⟩) ?_
   rotate_left
   ·(intro w;go_simp) <;> with_reducible rfl
   try dsimp only[Act.put]
   try simp only[Act.put,Z4,Z2,Z3]
   refine wpAny_ready (rs:=[1,4]) (by kernel_rfl) (by simp) ?_;refine AllReady.cons rfl (fun K2 hK=> ?_) (AllReady.cons rfl (fun K2 hK=> ?_) AllReady.nil)
   ·go_simp;refine hK _ _ ?_;clear hK K2
    try simp only[Act.put,Z4,Z2,Z3]
    refine wpAny_ready (rs:=[4]) (by kernel_rfl) (by simp) ?_;refine AllReady.cons rfl (fun K2 hK=> ?_) AllReady.nil;go_simp;refine hK _ _ ?_;clear hK K2
    try simp only[Act.put,Z4,Z2,Z3]
    refine wpAny_take (i:=6) (v:= ?_) rfl (by kernel_rfl) (by kernel_rfl) (by kernel_rfl) (fun _ _ _ h=>h) (Or.inl ⟨by kernel_rfl,?_⟩) ?_
    rotate_left
    ·(intro w;go_simp) <;> with_reducible rfl
    try dsimp only[Act.put]
    try simp only[Act.put,Z4,Z2,Z3]
    refine wpAny_ready (rs:=[7]) (by kernel_rfl) (by simp) ?_;refine AllReady.cons rfl (fun K2 hK=> ?_) AllReady.nil;go_simp;refine hK _ _ ?_;clear hK K2
    try simp only[Act.put,Z4,Z2,Z3]
    refine wpAny_ready (rs:=[8]) (by kernel_rfl) (by simp) ?_;refine AllReady.cons rfl (fun K2 hK=> ?_) AllReady.nil;go_simp
    with_reducible refine(HCP.out D HD.out).mono ?_
    rintro e w5 ⟨hb5,b3,v5,rfl,hv5,hn5⟩;have HB5:=hid (HD.out.trans (hb5.mono HD.out.size));obtain⟨g3,c3,hv5e,hcs⟩:=HST.out w5 b3 v5 HB5.out (hv5.low (by rw[HDZ.out];exact Z5 _)) hn5;subst hv5e;have hr5:=HR1.out.below HB5.out HR1.out.lt;have h95:=HR91.out.below HB5.out HR91.out.lt;have k6:=hr5.cell0 6 (by simp);have hw5:=HROW.out.below HB5.out HROW.out.lt;have y0:=hw5.cell 0 (by simp[ab]);have y1:=hw5.cell 1 (by simp[ab]);have y2:=hw5.cell 2 (by simp[ab]);have y3:=hw5.cell 3 (by simp[ab]);have y4:=hw5.cell 4 (by simp[ab]);have y5:=hw5.cell 5 (by simp[ab]);have y6:=hw5.cell 6 (by simp[ab]);have z0:=hw5.frozen 0 (by simp[ab]);have z1:=hw5.frozen 1 (by simp[ab]);have z2:=hw5.frozen 2 (by simp[ab]);have z3:=hw5.frozen 3 (by simp[ab]);have z4:=hw5.frozen 4 (by simp[ab]);have z5:=hw5.frozen 5 (by simp[ab]);have z6:=hw5.frozen 6 (by simp[ab]);simp only[ab,Z0,Z1,Y2]at k6 y0 y1 y2 y3 y4 y5 y6 z0 z1 z2 z3 z4 z5 z6;have HCS2:=hid hcs;have HR5:=hid (ey w5 gb (i * 7) (.string (aa nm2)) (.int .i64 (kd2:Nat)) (.int .i64 (at2:Nat)) (.int .i64 (sz2:Nat)) (.int .i64 v2) (.string (aa tx2)) (.slice g3 m2 c3) w.heap.size HNE.out);have HR95:=hid (ey w5 gb (i * 7) (.string (aa nm2)) (.int .i64 (kd2:Nat)) (.int .i64 (at2:Nat)) (.int .i64 (sz2:Nat)) (.int .i64 v2) (.string (aa tx2)) (.slice g3 m2 c3) (w.heap.size+1) HNE2.out);have HH5:=hid hr5;have HH95:=hid h95;clear hb5 hv5 hn5 hcs hr5 hw5 h95;refine hK _ _ ?_;clear hK K2
    try simp only[Act.put,Z4,Z2,Z3]
    refine wpAny_take (i:=9) (v:= ?_) rfl (by kernel_rfl) (by kernel_rfl) (by kernel_rfl) (fun _ _ _ h=>h) (Or.inl ⟨by kernel_rfl,?_⟩) ?_
    rotate_left
    ·(intro w;go_simp) <;> with_reducible rfl
    try dsimp only[Act.put]
    try simp only[Act.put,Z4,Z2,Z3]
    refine wpAny_ready (rs:=[10]) (by kernel_rfl) (by simp) ?_;refine AllReady.cons rfl (fun K2 hK=> ?_) AllReady.nil;go_simp;refine hK _ _ ?_;clear hK K2
    try simp only[Act.put,Z4,Z2,Z3]
    refine wpAny_done (by kernel_rfl) ?_ _;go_wp2_with fail;go_roundw
    case rel=>exact⟨i+1,by first|rfl|rw[az HIN.out HN100.out],by have:=HIN.out;omega,HCS2,hid (HH5.out.of_heap HR5.out),hid (HH95.out.of_heap HR95.out)⟩
    case measure=>(try rw[az HIN.out HN100.out]);simp only[intOf];have:=HIN.out;omega
   ·go_simp;refine hK _ _ ?_;clear hK K2
    try simp only[Act.put,Z4,Z2,Z3]
    refine wpAny_take (i:=6) (v:= ?_) rfl (by kernel_rfl) (by kernel_rfl) (by kernel_rfl) (fun _ _ _ h=>h) (Or.inl ⟨by kernel_rfl,?_⟩) ?_
    rotate_left
    ·(intro w;go_simp) <;> with_reducible rfl
    try dsimp only[Act.put]
    try simp only[Act.put,Z4,Z2,Z3]
    refine wpAny_ready (rs:=[1,7]) (by kernel_rfl) (by simp) ?_;refine AllReady.cons rfl (fun K2 hK=> ?_) (AllReady.cons rfl (fun K2 hK=> ?_) AllReady.nil)
    ·go_simp;refine hK _ _ ?_;clear hK K2
     try simp only[Act.put,Z4,Z2,Z3]
     refine wpAny_ready (rs:=[7]) (by kernel_rfl) (by simp) ?_;refine AllReady.cons rfl (fun K2 hK=> ?_) AllReady.nil;go_simp;refine hK _ _ ?_;clear hK K2
     try simp only[Act.put,Z4,Z2,Z3]
     refine wpAny_ready (rs:=[8]) (by kernel_rfl) (by simp) ?_;refine AllReady.cons rfl (fun K2 hK=> ?_) AllReady.nil;go_simp
     with_reducible refine(HCP.out D HD.out).mono ?_
     rintro e w5 ⟨hb5,b3,v5,rfl,hv5,hn5⟩;have HB5:=hid (HD.out.trans (hb5.mono HD.out.size));obtain⟨g3,c3,hv5e,hcs⟩:=HST.out w5 b3 v5 HB5.out (hv5.low (by rw[HDZ.out];exact Z5 _)) hn5;subst hv5e;have hr5:=HR1.out.below HB5.out HR1.out.lt;have h95:=HR91.out.below HB5.out HR91.out.lt;have k6:=hr5.cell0 6 (by simp);have hw5:=HROW.out.below HB5.out HROW.out.lt;have y0:=hw5.cell 0 (by simp[ab]);have y1:=hw5.cell 1 (by simp[ab]);have y2:=hw5.cell 2 (by simp[ab]);have y3:=hw5.cell 3 (by simp[ab]);have y4:=hw5.cell 4 (by simp[ab]);have y5:=hw5.cell 5 (by simp[ab]);have y6:=hw5.cell 6 (by simp[ab]);have z0:=hw5.frozen 0 (by simp[ab]);have z1:=hw5.frozen 1 (by simp[ab]);have z2:=hw5.frozen 2 (by simp[ab]);have z3:=hw5.frozen 3 (by simp[ab]);have z4:=hw5.frozen 4 (by simp[ab]);have z5:=hw5.frozen 5 (by simp[ab]);have z6:=hw5.frozen 6 (by simp[ab]);simp only[ab,Z0,Z1,Y2]at k6 y0 y1 y2 y3 y4 y5 y6 z0 z1 z2 z3 z4 z5 z6;have HCS2:=hid hcs;have HR5:=hid (ey w5 gb (i * 7) (.string (aa nm2)) (.int .i64 (kd2:Nat)) (.int .i64 (at2:Nat)) (.int .i64 (sz2:Nat)) (.int .i64 v2) (.string (aa tx2)) (.slice g3 m2 c3) w.heap.size HNE.out);have HR95:=hid (ey w5 gb (i * 7) (.string (aa nm2)) (.int .i64 (kd2:Nat)) (.int .i64 (at2:Nat)) (.int .i64 (sz2:Nat)) (.int .i64 v2) (.string (aa tx2)) (.slice g3 m2 c3) (w.heap.size+1) HNE2.out);have HH5:=hid hr5;have HH95:=hid h95;clear hb5 hv5 hn5 hcs hr5 hw5 h95;refine hK _ _ ?_;clear hK K2
     try simp only[Act.put,Z4,Z2,Z3]
     refine wpAny_take (i:=9) (v:= ?_) rfl (by kernel_rfl) (by kernel_rfl) (by kernel_rfl) (fun _ _ _ h=>h) (Or.inl ⟨by kernel_rfl,?_⟩) ?_
     rotate_left
     ·(intro w;go_simp) <;> with_reducible rfl
     try dsimp only[Act.put]
     try simp only[Act.put,Z4,Z2,Z3]
     refine wpAny_ready (rs:=[10]) (by kernel_rfl) (by simp) ?_;refine AllReady.cons rfl (fun K2 hK=> ?_) AllReady.nil;go_simp;refine hK _ _ ?_;clear hK K2
     try simp only[Act.put,Z4,Z2,Z3]
     refine wpAny_done (by kernel_rfl) ?_ _;go_wp2_with fail;go_roundw
     case rel=>exact⟨i+1,by first|rfl|rw[az HIN.out HN100.out],by have:=HIN.out;omega,HCS2,hid (HH5.out.of_heap HR5.out),hid (HH95.out.of_heap HR95.out)⟩
     case measure=>(try rw[az HIN.out HN100.out]);simp only[intOf];have:=HIN.out;omega
    ·go_simp;refine hK _ _ ?_;clear hK K2
     try simp only[Act.put,Z4,Z2,Z3]
     refine wpAny_ready (rs:=[1,8]) (by kernel_rfl) (by simp) ?_;refine AllReady.cons rfl (fun K2 hK=> ?_) (AllReady.cons rfl (fun K2 hK=> ?_) AllReady.nil)
     ·go_simp;refine hK _ _ ?_;clear hK K2
      try simp only[Act.put,Z4,Z2,Z3]
      refine wpAny_ready (rs:=[8]) (by kernel_rfl) (by simp) ?_;refine AllReady.cons rfl (fun K2 hK=> ?_) AllReady.nil;go_simp
      with_reducible refine(HCP.out D HD.out).mono ?_
      rintro e w5 ⟨hb5,b3,v5,rfl,hv5,hn5⟩;have HB5:=hid (HD.out.trans (hb5.mono HD.out.size));obtain⟨g3,c3,hv5e,hcs⟩:=HST.out w5 b3 v5 HB5.out (hv5.low (by rw[HDZ.out];exact Z5 _)) hn5;subst hv5e;have hr5:=HR1.out.below HB5.out HR1.out.lt;have h95:=HR91.out.below HB5.out HR91.out.lt;have k6:=hr5.cell0 6 (by simp);have hw5:=HROW.out.below HB5.out HROW.out.lt;have y0:=hw5.cell 0 (by simp[ab]);have y1:=hw5.cell 1 (by simp[ab]);have y2:=hw5.cell 2 (by simp[ab]);have y3:=hw5.cell 3 (by simp[ab]);have y4:=hw5.cell 4 (by simp[ab]);have y5:=hw5.cell 5 (by simp[ab]);have y6:=hw5.cell 6 (by simp[ab]);have z0:=hw5.frozen 0 (by simp[ab]);have z1:=hw5.frozen 1 (by simp[ab]);have z2:=hw5.frozen 2 (by simp[ab]);have z3:=hw5.frozen 3 (by simp[ab]);have z4:=hw5.frozen 4 (by simp[ab]);have z5:=hw5.frozen 5 (by simp[ab]);have z6:=hw5.frozen 6 (by simp[ab]);simp only[ab,Z0,Z1,Y2]at k6 y0 y1 y2 y3 y4 y5 y6 z0 z1 z2 z3 z4 z5 z6;have HCS2:=hid hcs;have HR5:=hid (ey w5 gb (i * 7) (.string (aa nm2)) (.int .i64 (kd2:Nat)) (.int .i64 (at2:Nat)) (.int .i64 (sz2:Nat)) (.int .i64 v2) (.string (aa tx2)) (.slice g3 m2 c3) w.heap.size HNE.out);have HR95:=hid (ey w5 gb (i * 7) (.string (aa nm2)) (.int .i64 (kd2:Nat)) (.int .i64 (at2:Nat)) (.int .i64 (sz2:Nat)) (.int .i64 v2) (.string (aa tx2)) (.slice g3 m2 c3) (w.heap.size+1) HNE2.out);have HH5:=hid hr5;have HH95:=hid h95;clear hb5 hv5 hn5 hcs hr5 hw5 h95;refine hK _ _ ?_;clear hK K2
      try simp only[Act.put,Z4,Z2,Z3]
      refine wpAny_take (i:=9) (v:= ?_) rfl (by kernel_rfl) (by kernel_rfl) (by kernel_rfl) (fun _ _ _ h=>h) (Or.inl ⟨by kernel_rfl,?_⟩) ?_
      rotate_left
      ·(intro w;go_simp) <;> with_reducible rfl
      try dsimp only[Act.put]
      try simp only[Act.put,Z4,Z2,Z3]
      refine wpAny_ready (rs:=[10]) (by kernel_rfl) (by simp) ?_;refine AllReady.cons rfl (fun K2 hK=> ?_) AllReady.nil;go_simp;refine hK _ _ ?_;clear hK K2
      try simp only[Act.put,Z4,Z2,Z3]
      refine wpAny_done (by kernel_rfl) ?_ _;go_wp2_with fail;go_roundw
      case rel=>exact⟨i+1,by first|rfl|rw[az HIN.out HN100.out],by have:=HIN.out;omega,HCS2,hid (HH5.out.of_heap HR5.out),hid (HH95.out.of_heap HR95.out)⟩
      case measure=>(try rw[az HIN.out HN100.out]);simp only[intOf];have:=HIN.out;omega
     ·go_simp
      with_reducible refine(HCP.out D HD.out).mono ?_
      rintro e w5 ⟨hb5,b3,v5,rfl,hv5,hn5⟩;have HB5:=hid (HD.out.trans (hb5.mono HD.out.size));obtain⟨g3,c3,hv5e,hcs⟩:=HST.out w5 b3 v5 HB5.out (hv5.low (by rw[HDZ.out];exact Z5 _)) hn5;subst hv5e;have hr5:=HR1.out.below HB5.out HR1.out.lt;have h95:=HR91.out.below HB5.out HR91.out.lt;have k6:=hr5.cell0 6 (by simp);have hw5:=HROW.out.below HB5.out HROW.out.lt;have y0:=hw5.cell 0 (by simp[ab]);have y1:=hw5.cell 1 (by simp[ab]);have y2:=hw5.cell 2 (by simp[ab]);have y3:=hw5.cell 3 (by simp[ab]);have y4:=hw5.cell 4 (by simp[ab]);have y5:=hw5.cell 5 (by simp[ab]);have y6:=hw5.cell 6 (by simp[ab]);have z0:=hw5.frozen 0 (by simp[ab]);have z1:=hw5.frozen 1 (by simp[ab]);have z2:=hw5.frozen 2 (by simp[ab]);have z3:=hw5.frozen 3 (by simp[ab]);have z4:=hw5.frozen 4 (by simp[ab]);have z5:=hw5.frozen 5 (by simp[ab]);have z6:=hw5.frozen 6 (by simp[ab]);simp only[ab,Z0,Z1,Y2]at k6 y0 y1 y2 y3 y4 y5 y6 z0 z1 z2 z3 z4 z5 z6;have HCS2:=hid hcs;have HR5:=hid (ey w5 gb (i * 7) (.string (aa nm2)) (.int .i64 (kd2:Nat)) (.int .i64 (at2:Nat)) (.int .i64 (sz2:Nat)) (.int .i64 v2) (.string (aa tx2)) (.slice g3 m2 c3) w.heap.size HNE.out);have HR95:=hid (ey w5 gb (i * 7) (.string (aa nm2)) (.int .i64 (kd2:Nat)) (.int .i64 (at2:Nat)) (.int .i64 (sz2:Nat)) (.int .i64 v2) (.string (aa tx2)) (.slice g3 m2 c3) (w.heap.size+1) HNE2.out);have HH5:=hid hr5;have HH95:=hid h95;clear hb5 hv5 hn5 hcs hr5 hw5 h95;refine hK _ _ ?_;clear hK K2
      try simp only[Act.put,Z4,Z2,Z3]
      refine wpAny_ready (rs:=[1]) (by kernel_rfl) (by simp) ?_;refine AllReady.cons rfl (fun K2 hK=> ?_) AllReady.nil;go_simp;refine hK _ _ ?_;clear hK K2
      try simp only[Act.put,Z4,Z2,Z3]
      refine wpAny_take (i:=9) (v:= ?_) rfl (by kernel_rfl) (by kernel_rfl) (by kernel_rfl) (fun _ _ _ h=>h) (Or.inl ⟨by kernel_rfl,?_⟩) ?_
      rotate_left
      ·(intro w;go_simp) <;> with_reducible rfl
      try dsimp only[Act.put]
      try simp only[Act.put,Z4,Z2,Z3]
      refine wpAny_ready (rs:=[10]) (by kernel_rfl) (by simp) ?_;refine AllReady.cons rfl (fun K2 hK=> ?_) AllReady.nil;go_simp;refine hK _ _ ?_;clear hK K2
      try simp only[Act.put,Z4,Z2,Z3]
      refine wpAny_done (by kernel_rfl) ?_ _;go_wp2_with fail;go_roundw
      case rel=>exact⟨i+1,by first|rfl|rw[az HIN.out HN100.out],by have:=HIN.out;omega,HCS2,hid (HH5.out.of_heap HR5.out),hid (HH95.out.of_heap HR95.out)⟩
      case measure=>(try rw[az HIN.out HN100.out]);simp only[intOf];have:=HIN.out;omega
  ·have q1:decide ((i:Int) < (n:Int))=false:=Y9 (by omega);have q2:decide (i < n)=false:=Y9 hin;have HKV:∃b4 us4,Hid (aM wr (w.heap.size+2) kids a1 cap1 b4 us4):=by
    obtain⟨hbel,k1,rest,us,ws,b1,b2,e1,e2,e3,e4,e5,e6⟩:=HS1.out;have hr0:rest= .nil:=by
     cases rest with
     |nil=>rfl
     |cons=>exfalso;have:=congrArg Nds.len e1;rw[Nds.bZ,← HN.out]at this;simp only[Nds.len]at this;omega
    subst hr0;rw[Nds.fe]at e1;subst e1;rw[e5.1,List.append_nil]at e3;exact⟨b1,us,hid ⟨e3,e4,e6⟩⟩
   obtain⟨b4,us4,HKV⟩:=HKV;have HBEL:=hid HS1.out.bel;have f0:=HR1.out.cell0 0 (by simp);have f1:=HR1.out.cell0 1 (by simp);have f2:=HR1.out.cell0 2 (by simp);have f3:=HR1.out.cell0 3 (by simp);have f4:=HR1.out.cell0 4 (by simp);have f5:=HR1.out.cell0 5 (by simp);have y0:=HR91.out.cell0 0 (by simp);have z0:=HR91.out.frozen0 0 (by simp);have y1:=HR91.out.cell0 1 (by simp);have z1:=HR91.out.frozen0 1 (by simp);have y2:=HR91.out.cell0 2 (by simp);have z2:=HR91.out.frozen0 2 (by simp);have y3:=HR91.out.cell0 3 (by simp);have z3:=HR91.out.frozen0 3 (by simp);have y4:=HR91.out.cell0 4 (by simp);have z4:=HR91.out.frozen0 4 (by simp);have y5:=HR91.out.cell0 5 (by simp);have z5:=HR91.out.frozen0 5 (by simp);have y6:=HR91.out.cell0 6 (by simp);have z6:=HR91.out.frozen0 6 (by simp);simp only[Z0,Z1]at f0 f1 f2 f3 f4 f5 y0 y1 y2 y3 y4 y5 y6;have p0:=HR91.out.ax 0 (by simp) (.string (aa nm));have r0:=p0.cell0 0 (by simp);have p1:=p0.ax 1 (by simp) (.int .i64 (kd:Nat));have r1:=p1.cell0 1 (by simp);have p2:=p1.ax 2 (by simp) (.int .i64 (at_:Nat));have r2:=p2.cell0 2 (by simp);have p3:=p2.ax 3 (by simp) (.int .i64 (sz:Nat));have r3:=p3.cell0 3 (by simp);have p4:=p3.ax 4 (by simp) (.int .i64 val);have r4:=p4.cell0 4 (by simp);have p5:=p4.ax 5 (by simp) (.string (aa tx));have r5:=p5.cell0 5 (by simp);have p6:=p5.ax 6 (by simp) (.slice a1 n cap1);have r6:=p6.cell0 6 (by simp);simp only[Z2,Z3,Z0,Z1]at r0 r1 r2 r3 r4 r5 r6;clear p0 p1 p2 p3 p4 p5 p6;go_wp2_with fail;refine bodyPost_ret (v:= .agg (ab nm kd at_ sz val tx (.slice a1 n cap1)).toArray) (by simp[results,Tryz.results43,go_sem,r0,r1,r2,r3,r4,r5,r6];first|done|rfl) rfl ?_;have hkv:=HKV.out;have hfar:∀k,k≠w.heap.size+1→(st7 wr (w.heap.size+1) (.string (aa nm)) (.int .i64 (kd:Nat)) (.int .i64 (at_:Nat)) (.int .i64 (sz:Nat)) (.int .i64 val) (.string (aa tx)) (.slice a1 n cap1)).heap[k]? =wr.heap[k]? :=fun k hk=>dz _ _ _ _ _ _ _ k hk
   have hkv2:aM (st7 wr (w.heap.size+1) (.string (aa nm)) (.int .i64 (kd:Nat)) (.int .i64 (at_:Nat)) (.int .i64 (sz:Nat)) (.int .i64 val) (.string (aa tx)) (.slice a1 n cap1)) w.heap.size kids a1 cap1 b4 us4:=(hkv.an fun b hb _=>hfar b (by omega)).low (by omega);have hbl:Below w.heap.size w (st7 wr (w.heap.size+1) (.string (aa nm)) (.int .i64 (kd:Nat)) (.int .i64 (at_:Nat)) (.int .i64 (sz:Nat)) (.int .i64 val) (.string (aa tx)) (.slice a1 n cap1)):=by
    have hB:=HBEL.out;have k1:w.heap.size≤w.heap.size+1:=by omega
    exact((((((hB.setCell (p:=⟨w.heap.size+1,0,none⟩) k1 _).setCell (p:=⟨w.heap.size+1,1,none⟩) k1 _).setCell (p:=⟨w.heap.size+1,2,none⟩) k1 _).setCell (p:=⟨w.heap.size+1,3,none⟩) k1 _).setCell (p:=⟨w.heap.size+1,4,none⟩) k1 _).setCell (p:=⟨w.heap.size+1,5,none⟩) k1 _).setCell (p:=⟨w.heap.size+1,6,none⟩) k1 _
   refine⟨hbl,_,_,rfl,?_,hkv.nodup⟩;rw[HN.out];rw[HN.out]at hkv2;exact hkv2.nd nm kd at_ sz val tx
end
section
namespace Fx
open Ly Tm
def dJ:Nat→Nds→Nds
 |_,.nil=> .nil
 |0,.cons _ _ _ _ _ _ _ r=>r
 |k+1,.cons a b c d e f g r=> .cons a b c d e f g (dJ k r)
def dK:Nat→Nds→Nds
 |_,.nil=> .nil
 |0,.cons a b c d e f g r=> .cons a b c d e f g (.cons a b c d e f g r)
 |k+1,.cons a b c d e f g r=> .cons a b c d e f g (dK k r)
theorem Bp:∀(k:Nat) (l:Nds),dJ k (dK k l)=l
 |_,.nil=>by cases ‹Nat› <;> rfl
 |0,.cons ..=>rfl
 |k+1,.cons a b c d e f g r=>by simp only[dK,dJ,Bp k r]
theorem tA:∀(k:Nat) (l:Nds),strip (dJ k l)=dJ k (strip l)
 |_,.nil=>by cases ‹Nat› <;> rfl
 |0,.cons ..=>rfl
 |k+1,.cons a b c d e f g r=>by simp only[dJ,strip,tA k r]
theorem tB:∀(k:Nat) (l:Nds),strip (dK k l)=dK k (strip l)
 |_,.nil=>by cases ‹Nat› <;> rfl
 |0,.cons ..=>rfl
 |k+1,.cons a b c d e f g r=>by simp only[dK,strip,tB k r]
theorem Br(E:Nds→Nds):∀(k:Nat) (l:Nds),erE E (dJ k l)=dJ k (erE E l)
 |_,.nil=>by cases ‹Nat› <;> rfl
 |0,.cons ..=>rfl
 |k+1,.cons a b c d e f g r=>by simp only[dJ,erE,Br E k r]
theorem Bs(E:Nds→Nds):∀(k:Nat) (l:Nds),erE E (dK k l)=dK k (erE E l)
 |_,.nil=>by cases ‹Nat› <;> rfl
 |0,.cons ..=>rfl
 |k+1,.cons a b c d e f g r=>by simp only[dK,erE,Bs E k r]
theorem qP{f:Nd→Option Wd}:∀(k:Nat) (l:Nds),(bc f l).isSome=true→(bc f (dJ k l)).isSome=true
 |_,.nil,h=>by cases ‹Nat› <;> exact h
 |0,.cons a b c d e g k r,h=>by
  unfold bc at h;cases h1:f ⟨a,b,c,d,e,g,k⟩with
  |none=>rw[h1]at h;cases h
  |some u=>
   rw[h1]at h;cases h2:bc f r with
   |none=>rw[h2]at h;cases h
   |some v=>show(bc f r).isSome=true;rw[h2];rfl
 |j+1,.cons a b c d e g k r,h=>by
  unfold bc at h;cases h1:f ⟨a,b,c,d,e,g,k⟩with
  |none=>rw[h1]at h;cases h
  |some u=>
   rw[h1]at h;cases h2:bc f r with
   |none=>rw[h2]at h;cases h
   |some v=>
    obtain⟨z,hz⟩:=Option.isSome_iff_exists.1 (qP j r (by rw[h2];rfl));simp only[dJ,bc];rw[h1,hz];rfl
theorem xG{f:Nd→Option Wd}:∀(k:Nat) (l:Nds),(bc f l).isSome=true→(bc f (dK k l)).isSome=true
 |_,.nil,h=>by cases ‹Nat› <;> exact h
 |0,.cons a b c d e g k r,h=>by
  unfold bc at h;cases h1:f ⟨a,b,c,d,e,g,k⟩with
  |none=>rw[h1]at h;cases h
  |some u=>
   rw[h1]at h;cases h2:bc f r with
   |none=>rw[h2]at h;cases h
   |some v=>simp only[dK,bc];rw[h1,h2];rfl
 |j+1,.cons a b c d e g k r,h=>by
  unfold bc at h;cases h1:f ⟨a,b,c,d,e,g,k⟩with
  |none=>rw[h1]at h;cases h
  |some u=>
   rw[h1]at h;cases h2:bc f r with
   |none=>rw[h2]at h;cases h
   |some v=>
    obtain⟨z,hz⟩:=Option.isSome_iff_exists.1 (xG j r (by rw[h2];rfl));simp only[dK,bc];rw[h1,hz];rfl
end Fx
namespace Fx
open Ly Tm
def shp:Nds→Nds
 | .nil=> .nil
 | .cons a b _ _ e f g r=> .cons a b 0 0 (if b=1 then 0 else e) f (shp g) (shp r)
theorem ez:∀l:Nds,shp (strip l)=shp l
 | .nil=>rfl
 | .cons a b c d e f g r=>by simp only[strip,shp,ez g,ez r]
theorem Bu{O:List Nat}:∀(X:Nds) (b:Nat),(∀j d,nth j X=some d→b+j∈O→d.kind=1)→shp (erO O b X)=shp X
 | .nil,b,_=>rfl
 | .cons a1 a2 a3 a4 a5 a6 a7 r,b,h=>by
  have ih:=Bu r (b+1) (fun j d hd hj=>h (j+1) d hd (by rw[show b+(j+1)=b+1+j by omega];exact hj));simp only[erO,shp,ih]
  by_cases hb:O.contains b=true
  ·have h1:=h 0 _ rfl (by simpa using hb);simp only[]at h1;rw[if_pos h1,if_pos h1]
  ·rw[if_neg hb]
theorem iY{E:Wd→Nds→Nds}:∀(l:Its) (X:Nds) (j:Nat),(nth j (erI E l X)).map (·.kind)=(nth j X).map (·.kind)
 | .nil,X,j=>by
  show(nth j (strip X)).map _=_;rw[tv];cases nth j X <;> rfl
 | .cons h l,.nil,j=>rfl
 | .when ..,.nil,j=>rfl
 | .cons h l,.cons a b c d e f g r,0=>rfl
 | .when p q body l,.cons a b c d e f g r,0=>rfl
 | .cons h l,.cons a b c d e f g r,j+1=>iY l r j
 | .when p q body l,.cons a b c d e f g r,j+1=>iY l r j
theorem Bv{E:Nds→Nds}{P:Nds→Prop}(hE:∀X,P X→shp (E X)=shp X):∀X:Nds,DC P X→shp (erE E X)=shp X
 | .nil,_=>rfl
 | .cons a b c d e f g r,h=>by simp only[erE,shp,hE g h.1,Bv hE r h.2]
def JT(W:Wri)(E:Wd→Nds→Nds):Prop:=∀nm X,(W nm X).isSome=true→shp (E nm X)=shp X
theorem IE{W:Wri}{E:Wd→Nds→Nds}(hE:JT W E){h:Hd}{d:Nd}(hd:(aY W h d).isSome=true):shp (erH E h d.kids)=shp d.kids:=by
 unfold erH;cases hk:h.k with
 |scalar w=>exact ez _
 |bytes=>exact ez _
 |struct t=>
  simp only[];unfold aY at hd
  by_cases hm:cP h=true
  ·rw[if_pos hm]at hd⊢;split at hd
   ·cases hd
   ·exact Bv (hE t) _ (jO (fun d h=>bj hk h) _ hd)
  ·rw[if_neg hm]at hd⊢;exact hE t _ (bj hk hd)
theorem FP{W:Wri}{l:Its}(hf:bG l){X:Nds}(hX:(aF W l X).isSome=true){j:Nat}(hj:j∈ord l.row){d:Nd}(hd:nth j X=some d):d.kind=1:=by
 obtain⟨h,hh,hr⟩:=lJ hj;have hs:=py (fV hf hh) hr;rw[dO]at hX;have ht:=iD W l X j h hh;rw[hd]at ht;have h1:=uV hX.2 ht;rw[qN hs]at h1;split at h1
 ·cases h1
 ·rename_i hn
  rw[not_or]at hn;exact Classical.not_not.1 hn.2
theorem xH{W:Wri}{E:Wd→Nds→Nds}{l:Its}(hf:bG l){X:Nds}(hX:(aF W l X).isSome=true):shp (erO (ord l.row) 0 (erI E l X))=shp (erI E l X):=by
 refine Bu _ 0 (fun j d hd hj=> ?_);rw[Nat.zero_add]at hj;have h1:=iY (E:=E) l X j;rw[hd]at h1;cases h2:nth j X with
 |none=>rw[h2]at h1;cases h1
 |some d2=>
  rw[h2]at h1;have h3:=FP hf hX hj h2;simp only[Option.map_some,Option.some.injEq]at h1;rw[h1,h3]
theorem pz{W:Wri}{E:Wd→Nds→Nds}(hE:JT W E):∀(l:Its),bG l→∀X:Nds,(aF W l X).isSome=true→shp (erI E l X)=shp X
 | .nil,_,X,_=>by show shp (strip X)=_;exact ez X
 | .cons h l,_,.nil,_=>rfl
 | .when ..,_,.nil,_=>rfl
 | .cons h l,hf,.cons a b c d e f g r,hX=>by
  have h2:=bR hX;have h3:=IE hE h2.1;simp only[]at h3;simp only[erI,shp,h3,pz hE l hf.2 r h2.2]
 | .when p q body l,hf,.cons a b c d e f g r,hX=>by
  have h2:=bI hX;have h4:shp (if e=0 then strip g else erO (ord body.row) 0 (erI E body g))=shp g:=by
   by_cases he:e=0
   ·rw[if_pos he];exact ez g
   ·rw[if_neg he,xH hf.2.1 (h2.1 he),pz hE body hf.2.1 g (h2.1 he)]
  simp only[erI,shp,h4,pz hE l hf.2.2 r h2.2.2]
theorem pA:∀(L:List Ty),(∀t∈L,bg t)→JT (wrS L) (erS L)
 |[],_,nm,X,hX=>by cases hX
 |t::r,hF,nm,X,hX=>by
  unfold erS;unfold wrS at hX;have hr:∀t∈r,bg t:=fun t ht=>hF t (by simp[ht])
  by_cases hn:t.name=nm
  ·rw[if_pos hn]at hX⊢;unfold erB;rw[xH (hF t (by simp)).2 hX,pz (pA r hr) t.items (hF t (by simp)).2 X hX]
  ·rw[if_neg hn]at hX⊢;exact pA r hr nm X hX
theorem FQ{C:Wd→Nat}{L:List Ty}(hF:∀t∈L,bg t){nm:Wd}{X p:Nds}(hX:(wrS L nm X).isSome=true)(h:dn C L nm X=some p):shp p=shp X:=by
 have hp:=fQ L hF nm X p h hX;rw[← pA L hF nm X hX,← pA L hF nm p hp,mF L nm X p h]
end Fx
namespace Fx
open Ly Tm
theorem tC{E:Nds→Nds}(hE:∀X,E (strip X)=E X):∀X:Nds,erE E (strip X)=erE E X
 | .nil=>rfl
 | .cons a b c d e f g r=>by simp only[strip,erE,hE,tC hE r]
theorem DE{E:Wd→Nds→Nds}(hE:∀nm X,E nm (strip X)=E nm X)(h:Hd)(X:Nds):erH E h (strip X)=erH E h X:=by
 unfold erH;cases h.k with
 |scalar w=>exact dW X
 |bytes=>exact dW X
 |struct t=>simp only[hE t,tC (hE t)]
theorem kB{E:Wd→Nds→Nds}(hE:∀nm X,E nm (strip X)=E nm X):∀(l:Its) (X:Nds),erI E l (strip X)=erI E l X
 | .nil,X=>by show strip (strip X)=strip X;exact dW X
 | .cons h l,.nil=>rfl
 | .when ..,.nil=>rfl
 | .cons h l,.cons a b c d e f g r=>by simp only[strip,erI,DE hE,kB hE l r]
 | .when p q body l,.cons a b c d e f g r=>by simp only[strip,erI,kB hE l r,kB hE body g,dW g]
theorem kC:∀(L:List Ty) (nm:Wd) (X:Nds),erS L nm (strip X)=erS L nm X
 |[],nm,X=>dW X
 |t::r,nm,X=>by
  unfold erS;unfold erB;rw[kB (kC r),kC r]
theorem FR{L:List Ty}{nm:Wd}{X Y:Nds}(h:strip X=strip Y):erS L nm X=erS L nm Y:=by rw[← kC,h,kC]
def rdT(L:List Ty)(root s:Wd):Option Nd:=(bL (rdS s L) s (fun _=>none) (cm root) ⟨0,0⟩).bind fun p=>if p.2.at_=s.length then some p.1 else none
def wrT(L:List Ty)(root:Wd)(d:Nd):Option Wd:=aX (wrS L) (cm root) d
theorem FT{L:List Ty}(hF:∀t∈L,bg t){root s:Wd}{d:Nd}(h:rdT L root s=some d):wrT L root d=some s:=by
 unfold rdT at h;obtain⟨p,h1,h2⟩:=Option.bind_eq_some_iff.1 h;split at h2
 ·rename_i he
  cases h2;exact qG hF (d:=p.1) (st:=p.2) h1 he
 ·cases h2
theorem tD{L:List Ty}{root:Wd}{d e:Nd}(h:Nd.strip d=Nd.strip e):wrT L root d=wrT L root e:=by
 unfold wrT;rw[← iW (iC L),h,iW (iC L)]
theorem cC{L:List Ty}{root:Wd}{d:Nd}(h:(wrT L root d).isSome=true):(wrS L root d.kids).isSome=true∧d.name=root∧d.kind=3:=by
 have h1:=bj (W:=wrS L) (h:=cm root) (t:=root) rfl h;refine⟨h1,?_⟩;unfold wrT aX at h;split at h
 ·cases h
 ·rename_i hn
  rw[not_or]at hn;exact⟨Classical.not_not.1 hn.1,Classical.not_not.1 hn.2⟩
def Bw(C:Wd→Nat)(L:List Ty)(root:Wd)(d:Nd)(u:Wd):Prop:=∃p,dn C L root d.kids=some p∧wrT L root {d with kids:=p}=some u∧u.length≤4000∧∃m,rdT L root u=some m∧Nd.strip m=Nd.strip {d with kids:=p}
theorem zY{C:Wd→Nat}{L:List Ty}(hF:∀t∈L,bg t){root u:Wd}{d:Nd}(hd:(wrT L root d).isSome=true)(h:Bw C L root d u):
  ∃m q,rdT L root u=some m∧dn C L root m.kids=some q∧wrT L root {m with kids:=q}=some u∧Bw C L root m u∧shp m.kids=shp d.kids:=by
 obtain⟨p,h1,h2,h3,m,h4,h5⟩:=h;obtain⟨hX,_,_⟩:=cC hd;obtain⟨hp,q',h6,h7⟩:=zV hF hX h1;have hm:=FT hF h4;obtain⟨hmk,_,_⟩:=cC (L:=L) (root:=root) (d:=m) (by rw[hm];rfl);have hk:strip m.kids=strip p:=by have:=congrArg Nd.kids h5;exact this
 have h8:=mH (C:=C) L hF root m.kids p hmk hp (FR hk);rw[h6]at h8;rcases gD h8 with⟨_,h9⟩|⟨x,y,h9,h10,h11⟩
 ·cases h9
 ·cases h10;have hs:Nd.strip {m with kids:=x}=Nd.strip m:=by
   unfold Nd.strip;simp only[h11,h7,hk]
  have hw:wrT L root {m with kids:=x}=some u:=by rw[tD hs,hm]
  refine⟨m,x,h4,h9,hw,⟨x,h9,hw,h3,m,h4,hs.symm⟩,?_⟩;rw[← ez m.kids,hk,ez,FQ hF hX h1]
end Fx
namespace Fx
open Ly Tm
inductive Dn where
 |ok (u:Wd)
 |bad (e:Nat)
open Classical in
noncomputable def xI(L:List Ty)(root:Wd)(o:Option Wd)(s:Nd):Dn:=match o with
 |none=> .bad 3
 |some u=>if 4000 < u.length then .bad 1 else match rdT L root u with
  |none=> .bad 2
  |some m=>if Nd.strip m=s then .ok u else .bad 2
noncomputable def bH(C:Wd→Nat)(L:List Ty)(root:Wd)(d:Nd):Dn:=
 match dn C L root d.kids with
 |none=> .bad 0
 |some p=>xI L root (wrT L root {d with kids:=p}) (Nd.strip {d with kids:=p})
theorem mL{C:Wd→Nat}{L:List Ty}{root u:Wd}{d:Nd}:bH C L root d= .ok u↔Bw C L root d u:=by
 unfold bH Bw;cases h1:dn C L root d.kids with
 |none=>simp
 |some p=>
  simp only[];unfold xI;cases h2:wrT L root {d with kids:=p}with
  |none=>simp[h2]
  |some u'=>
   simp only[]
   by_cases h3:4000 < u'.length
   ·rw[if_pos h3];constructor
    ·intro h;cases h
    ·rintro⟨p',e1,e2,e3,_⟩;cases e1;rw[h2]at e2;cases e2;omega
   ·rw[if_neg h3];cases h4:rdT L root u' with
    |none=>
     constructor
     ·intro h;cases h
     ·rintro⟨p',e1,e2,e3,m,e4,_⟩;cases e1;rw[h2]at e2;cases e2;rw[h4]at e4;cases e4
    |some m=>
     simp only[]
     by_cases h5:Nd.strip m=Nd.strip {d with kids:=p}
     ·rw[if_pos h5];constructor
      ·intro h;cases h;exact⟨p,rfl,h2,by omega,m,h4,h5⟩
      ·rintro⟨p',e1,e2,e3,m',e4,e5⟩;cases e1;rw[h2]at e2;cases e2;rfl
     ·rw[if_neg h5];constructor
      ·intro h;cases h
      ·rintro⟨p',e1,e2,e3,m',e4,e5⟩;cases e1;rw[h2]at e2;cases e2;rw[h4]at e4;cases e4;exact absurd e5 h5
theorem FU{C:Wd→Nat}{L:List Ty}(hF:∀t∈L,bg t){root:Wd}{d e:Nd}(hd:(wrT L root d).isSome=true)(he:(wrT L root e).isSome=true)(hv:d.val=e.val)(ht:d.text=e.text)(hk:erS L root d.kids=erS L root e.kids):bH C L root d=bH C L root e:=by
 obtain⟨h1,n1,k1⟩:=cC hd;obtain⟨h2,n2,k2⟩:=cC he;unfold bH;rcases gD (mH (C:=C) L hF root d.kids e.kids h1 h2 hk)with⟨h3,h4⟩|⟨x,y,h3,h4,h5⟩
 ·rw[h3,h4]
 ·rw[h3,h4];have hs:Nd.strip {d with kids:=x}=Nd.strip {e with kids:=y}:=by
   unfold Nd.strip;simp only[n1,n2,k1,k2,hv,ht,h5]
  simp only[];rw[tD hs,hs]
end Fx
namespace Fx
open Ly Tm
def jP:Nds→Nds→Bool
 | .nil,.nil=>true
 | .cons a1 a2 _ _ a5 a6 a7 r1,.cons b1 b2 _ _ b5 b6 b7 r2=>decide (a1=b1)&&decide (a2=b2)&&decide (a5=b5)&&decide (a6=b6)&&jP a7 b7&&jP r1 r2
 |_,_=>false
theorem oh:∀X Y:Nds,jP X Y=true↔strip X=strip Y
 | .nil,.nil=>by simp[jP]
 | .nil,.cons ..=>by simp[jP,strip]
 | .cons ..,.nil=>by simp[jP,strip]
 | .cons a1 a2 a3 a4 a5 a6 a7 r1,.cons b1 b2 b3 b4 b5 b6 b7 r2=>by
  simp only[jP,strip,Bool.and_eq_true,decide_eq_true_eq,oh a7 b7,oh r1 r2,Nds.cons.injEq,true_and];constructor
  ·rintro⟨⟨⟨⟨⟨h1,h2⟩,h3⟩,h4⟩,h5⟩,h6⟩;exact⟨h1,h2,h3,h4,h5,h6⟩
  ·rintro⟨h1,h2,h3,h4,h5,h6⟩;exact⟨⟨⟨⟨⟨h1,h2⟩,h3⟩,h4⟩,h5⟩,h6⟩
def ec(a b:Nd):Bool:=decide (a.name=b.name)&&decide (a.kind=b.kind)&&decide (a.val=b.val)&&decide (a.text=b.text)&&jP a.kids b.kids
theorem tE(a b:Nd):ec a b=true↔Nd.strip a=Nd.strip b:=by
 unfold ec Nd.strip;simp only[Bool.and_eq_true,decide_eq_true_eq,oh,Nd.mk.injEq,true_and];constructor
 ·rintro⟨⟨⟨⟨h1,h2⟩,h3⟩,h4⟩,h5⟩;exact⟨h1,h2,h3,h4,h5⟩
 ·rintro⟨h1,h2,h3,h4,h5⟩;exact⟨⟨⟨⟨h1,h2⟩,h3⟩,h4⟩,h5⟩
def bX:List Nat→Nd→Option Nd
 |[],d=>some d
 |k::p,d=>(nth k d.kids).bind (bX p)
theorem Bx:∀(X Y:Nds) (k:Nat),shp X=shp Y→(nth k X).map (fun d=>(d.name,d.kind,d.text,shp d.kids,(if d.kind=1 then 0 else d.val)))=(nth k Y).map fun d=>(d.name,d.kind,d.text,shp d.kids,(if d.kind=1 then 0 else d.val))
 | .nil,.nil,k,_=>rfl
 | .nil,.cons ..,k,h=>by simp[shp]at h
 | .cons ..,.nil,k,h=>by simp[shp]at h
 | .cons a1 a2 a3 a4 a5 a6 a7 r1,.cons b1 b2 b3 b4 b5 b6 b7 r2,k,h=>by
  simp only[shp]at h;injection h with e1 e2 e3 e4 e5 e6 e7 e8
  cases k with
  |zero=>simp only[nth,Option.map_some,e1,e6,e7];rw[e5,e2]
  |succ k=>exact Bx r1 r2 k e8
end Fx
namespace Fx
open Ly Tm
def eH:Nat→(Nat→Nds→Nds)→Nds→Nds
 |_,_,.nil=> .nil
 |0,M,.cons a b c d e f g r=> .cons a b c d e f (M b g) r
 |k+1,M,.cons a b c d e f g r=> .cons a b c d e f g (eH k M r)
def bP(g:Nds→Nds):List Nat→Nat→Nds→Nds
 |[],kind,X=>if kind=9 then g X else X
 |k::p,_,X=>eH k (bP g p) X
theorem qQ{M:Nat→Nds→Nds}(hM:∀b X,strip (M b X)=M b (strip X)):∀(k:Nat) (X:Nds),strip (eH k M X)=eH k M (strip X)
 |_,.nil=>by cases ‹Nat› <;> rfl
 |0,.cons ..=>by simp only[eH,strip,hM]
 |k+1,.cons a b c d e f g r=>by simp only[eH,strip,qQ hM k r]
theorem gF{g:Nds→Nds}(hg:∀X,strip (g X)=g (strip X)):∀(p:List Nat) (b:Nat) (X:Nds),strip (bP g p b X)=bP g p b (strip X)
 |[],b,X=>by unfold bP;split <;> first|exact hg X|rfl
 |k::p,b,X=>qQ (gF hg p) k X
theorem xJ{M:Nat→Nds→Nds}{O:List Nat}:∀(k b:Nat) (X:Nds),erO O b (eH k M X)=eH k M (erO O b X)
 |k,b,.nil=>by cases k <;> rfl
 |0,b,.cons ..=>rfl
 |k+1,b,.cons a1 a2 a3 a4 a5 a6 a7 r=>by simp only[eH,erO,xJ k (b+1) r]
theorem xK{g:Nds→Nds}{O:List Nat}(b kind:Nat)(hk:kind≠9):∀(p:List Nat) (X:Nds),erO O b (bP g p kind X)=bP g p kind (erO O b X)
 |[],X=>by unfold bP;rw[if_neg hk,if_neg hk]
 |k::p,X=>xJ k b X
def GoE(W:Wri)(E:Wd→Nds→Nds)(g:Nds→Nds):Prop:=∀(p:List Nat) (nm:Wd) (X:Nds),(W nm X).isSome=true→E nm (bP g p 3 X)=bP g p 3 (E nm X)
theorem xL{f:Nd→Option Wd}{E:Nds→Nds}{M:Nat→Nds→Nds}(hM:∀d:Nd,(f d).isSome=true→E (M d.kind d.kids)=M d.kind (E d.kids)):∀(k:Nat) (X:Nds),(bc f X).isSome=true→erE E (eH k M X)=eH k M (erE E X)
 |_,.nil,_=>by cases ‹Nat› <;> rfl
 |k,.cons a b c d e t g r,h=>by
  unfold bc at h;cases h1:f ⟨a,b,c,d,e,t,g⟩with
  |none=>rw[h1]at h;cases h
  |some u=>
   rw[h1]at h;cases h2:bc f r with
   |none=>rw[h2]at h;cases h
   |some v=>
    cases k with
    |zero=>
     have:=hM ⟨a,b,c,d,e,t,g⟩ (by rw[h1];rfl);simp only[]at this;simp only[eH,erE,this]
    |succ k=>simp only[eH,erE,xL hM k r (by rw[h2];rfl)]
theorem oj{W:Wri}{h:Hd}{t:Wd}(hk:h.k= .struct t){d:Nd}(hw:(aX W h d).isSome=true):d.kind=3:=by
 unfold aX at hw;split at hw
 ·cases hw
 ·rename_i hn
  rw[not_or]at hn;have:=Classical.not_not.1 hn.2;rw[hk]at this;exact this
theorem FV{W:Wri}{E:Wd→Nds→Nds}{g:Nds→Nds}(hg:∀X,strip (g X)=g (strip X))(hgE:∀E X,erE E (g X)=g (erE E X))(hE:GoE W E g){h:Hd}{d:Nd}(hd:(aY W h d).isSome=true)(p:List Nat):erH E h (bP g p d.kind d.kids)=bP g p d.kind (erH E h d.kids):=by
 unfold erH;cases hk:h.k with
 |scalar w=>exact gF hg p _ _
 |bytes=>exact gF hg p _ _
 |struct t=>
  simp only[];unfold aY at hd
  by_cases hm:cP h=true
  ·rw[if_pos hm]at hd;rw[if_pos hm,if_pos hm];split at hd
   ·cases hd
   ·rename_i hn
    cases p with
    |nil=>
     unfold bP;split
     ·exact hgE _ _
     ·rfl
    |cons k p=>
     refine xL (f:=aX W h) (fun d' h'=> ?_) k _ hd;rw[oj hk h'];exact hE p t _ (bj hk h')
  ·rw[if_neg hm]at hd;rw[if_neg hm,if_neg hm,oj hk hd];exact hE p t _ (bj hk hd)
theorem mM{W:Wri}{E:Wd→Nds→Nds}{g:Nds→Nds}(hg:∀X,strip (g X)=g (strip X))(hgE:∀E X,erE E (g X)=g (erE E X))(hE:GoE W E g):∀(l:Its) (p:List Nat) (kind:Nat) (X:Nds),kind≠9→(aF W l X).isSome=true→erI E l (bP g p kind X)=bP g p kind (erI E l X)
 |l,[],kind,X,hk,_=>by unfold bP;rw[if_neg hk,if_neg hk]
 | .nil,k::p,kind,X,hk,hX=>by
  show strip (bP g (k::p) kind X)=bP g (k::p) kind (strip X);exact gF hg _ _ _
 | .cons h l,k::p,kind,.nil,hk,hX=>by cases hX
 | .when ..,k::p,kind,.nil,hk,hX=>by cases hX
 | .cons h l,0::p,kind,.cons a b c d e f x r,hk,hX=>by
  have h2:=FV hg hgE hE (bR hX).1 p;simp only[]at h2;simp only[bP,eH,erI,h2]
 | .cons h l,(k+1)::p,kind,.cons a b c d e f x r,hk,hX=>by
  have h2:=mM hg hgE hE l (k::p) kind r hk (bR hX).2;simp only[bP]at h2;simp only[bP,eH,erI,h2]
 | .when p0 q0 body l,(k+1)::p,kind,.cons a b c d e f x r,hk,hX=>by
  have h2:=mM hg hgE hE l (k::p) kind r hk (bI hX).2.2;simp only[bP]at h2;simp only[bP,eH,erI,h2]
 | .when p0 q0 body l,0::p,kind,.cons a b c d e f x r,hk,hX=>by
  have hb:b=4:=by
   unfold aF at hX;split at hX
   ·cases hX
   ·rename_i hn
    rw[not_or]at hn;exact Classical.not_not.1 hn.2
  subst hb;have h3:(if e=0 then strip (bP g p 4 x)else erO (ord body.row) 0 (erI E body (bP g p 4 x)))=bP g p 4 (if e=0 then strip x else erO (ord body.row) 0 (erI E body x)):=by
   by_cases he:e=0
   ·rw[if_pos he,if_pos he,gF hg]
   ·rw[if_neg he,if_neg he,mM hg hgE hE body p 4 x (by decide) ((bI hX).1 he),xK 0 4 (by decide)]
  simp only[bP,eH,erI,h3]
theorem mN{g:Nds→Nds}(hg:∀X,strip (g X)=g (strip X))(hgE:∀E X,erE E (g X)=g (erE E X)):∀L:List Ty,GoE (wrS L) (erS L) g
 |[],p,nm,X,hX=>by cases hX
 |t::r,p,nm,X,hX=>by
  unfold erS;unfold wrS at hX
  by_cases hn:t.name=nm
  ·rw[if_pos hn]at hX;rw[if_pos hn,if_pos hn];unfold erB;rw[mM hg hgE (mN hg hgE r) t.items p 3 X (by decide) hX,xK 0 3 (by decide)]
  ·rw[if_neg hn]at hX;rw[if_neg hn,if_neg hn];exact mN hg hgE r p nm X hX
end Fx
namespace Fx
open Ly Tm
def GoW(W:Wri)(g:Nds→Nds):Prop:=∀(p:List Nat) (nm:Wd) (X:Nds),(W nm X).isSome=true→(W nm (bP g p 3 X)).isSome=true
theorem tF{f:Nd→Option Wd}{M:Nat→Nds→Nds}(hM:∀d:Nd,(f d).isSome=true→(f {d with kids:=M d.kind d.kids}).isSome=true):∀(k:Nat) (X:Nds),(bc f X).isSome=true→(bc f (eH k M X)).isSome=true
 |k,.nil,h=>by cases k <;> exact h
 |k,.cons a b c d e t g r,h=>by
  unfold bc at h;cases h1:f ⟨a,b,c,d,e,t,g⟩with
  |none=>rw[h1]at h;cases h
  |some u=>
   rw[h1]at h;cases h2:bc f r with
   |none=>rw[h2]at h;cases h
   |some v=>
    cases k with
    |zero=>
     obtain⟨z,hz⟩:=Option.isSome_iff_exists.1 (hM ⟨a,b,c,d,e,t,g⟩ (by rw[h1];rfl));simp only[]at hz;simp only[eH,bc];rw[hz,h2];rfl
    |succ k=>
     obtain⟨z,hz⟩:=Option.isSome_iff_exists.1 (tF hM k r (by rw[h2];rfl));simp only[eH,bc];rw[h1,hz];rfl
theorem tG{W:Wri}{g:Nds→Nds}(hW:GoW W g){h:Hd}(p:List Nat){d:Nd}(hd:(aX W h d).isSome=true):(aX W h {d with kids:=bP g p d.kind d.kids}).isSome=true:=by
 cases hk:h.k with
 |scalar w=>unfold aX at hd⊢;rw[hk]at hd⊢;exact hd
 |bytes=>unfold aX at hd⊢;rw[hk]at hd⊢;exact hd
 |struct t=>
  have h1:=bj hk hd;have h3:=oj hk hd;have h2:=hW p t d.kids h1;unfold aX at hd⊢;rw[hk]at hd⊢;simp only[]at hd⊢;split at hd
  ·cases hd
  ·rename_i hn
   rw[if_neg hn,h3];exact h2
theorem zZ{W:Wri}{g:Nds→Nds}(hg:∀(f:Nd→Option Wd) X,(bc f X).isSome=true→(bc f (g X)).isSome=true)(hW:GoW W g){h:Hd}(p:List Nat){d:Nd}(hd:(aY W h d).isSome=true):(aY W h {d with kids:=bP g p d.kind d.kids}).isSome=true:=by
 unfold aY at hd⊢
 by_cases hm:cP h=true
 ·rw[if_pos hm]at hd⊢;simp only[];split at hd
  ·cases hd
  ·rename_i hn
   rw[if_neg hn];have h9:d.kind=9:=by rw[not_or]at hn;exact Classical.not_not.1 hn.2
   cases p with
   |nil=>rw[h9];exact hg _ _ hd
   |cons k p=>exact tF (fun d' h'=>tG hW p h') k _ hd
 ·rw[if_neg hm]at hd⊢;exact tG hW p hd
theorem iZ{W:Wri}{h:Hd}{l:Its}{a b c d e f g r}(h1:(aY W h ⟨a,b,c,d,e,f,g⟩).isSome=true)(h2:(aF W l r).isSome=true):(aF W (.cons h l) (.cons a b c d e f g r)).isSome=true:=by
 obtain⟨u,hu⟩:=Option.isSome_iff_exists.1 h1;obtain⟨v,hv⟩:=Option.isSome_iff_exists.1 h2;unfold aF;rw[hu,hv];rfl
theorem kD{W:Wri}{g:Nds→Nds}(hg:∀(f:Nd→Option Wd) X,(bc f X).isSome=true→(bc f (g X)).isSome=true)(hW:GoW W g):∀(l:Its) (p:List Nat) (kind:Nat) (X:Nds),kind≠9→(aF W l X).isSome=true→(aF W l (bP g p kind X)).isSome=true
 |l,[],kind,X,hk,hX=>by unfold bP;rw[if_neg hk];exact hX
 | .nil,k::p,kind,.nil,hk,hX=>by cases k <;> exact hX
 | .nil,k::p,kind,.cons ..,hk,hX=>by cases hX
 | .cons h l,k::p,kind,.nil,hk,hX=>by cases hX
 | .when ..,k::p,kind,.nil,hk,hX=>by cases hX
 | .cons h l,0::p,kind,.cons a b c d e f x r,hk,hX=>iZ (zZ hg hW p (bR hX).1) (bR hX).2
 | .cons h l,(k+1)::p,kind,.cons a b c d e f x r,hk,hX=>iZ (bR hX).1 (kD hg hW l (k::p) kind r hk (bR hX).2)
 | .when p0 q0 body l,(k+1)::p,kind,.cons a b c d e f x r,hk,hX=>by
  have h2:=kD hg hW l (k::p) kind r hk (bI hX).2.2;simp only[bP]at h2;simp only[bP,eH];rw[eV]at hX⊢;obtain⟨z,hz⟩:=Option.isSome_iff_exists.1 h2;rw[dO]at h2;split at hX
  ·rename_i hl
   rw[if_pos (by simp only[eU,Nds.len]at hl⊢;omega)];rw[iX]at hX⊢;simp only[texts,List.all_cons,Bool.and_eq_true]at hX⊢;exact⟨hX.1,h2.2⟩
  ·cases hX
 | .when p0 q0 body l,0::p,kind,.cons a b c d e f x r,hk,hX=>by
  have h3:=bI hX;have ha:¬(a≠[]∨b≠4):=by
   intro hn;unfold aF at hX;rw[if_pos hn]at hX;cases hX
  have hb:b=4:=by rw[not_or]at ha;exact Classical.not_not.1 ha.2
  subst hb;obtain⟨z,hz⟩:=Option.isSome_iff_exists.1 h3.2.2;simp only[bP,eH];unfold aF;rw[if_neg ha,hz]
  by_cases he:e=0
  ·rw[if_pos he];have hx:=h3.2.1 he;subst hx;have h4:bP g p 4 .nil= .nil:=by cases p with
    |nil=>rfl
    |cons k p=>cases k <;> rfl
   rw[h4];rfl
  ·rw[if_neg he];obtain⟨y,hy⟩:=Option.isSome_iff_exists.1 (kD hg hW body p 4 x (by decide) (h3.1 he));rw[hy];rfl
theorem mO{g:Nds→Nds}(hg:∀(f:Nd→Option Wd) X,(bc f X).isSome=true→(bc f (g X)).isSome=true):∀L:List Ty,GoW (wrS L) g
 |[],p,nm,X,hX=>by cases hX
 |t::r,p,nm,X,hX=>by
  unfold wrS at hX⊢
  by_cases hn:t.name=nm
  ·rw[if_pos hn]at hX⊢;exact kD hg (mO hg r) t.items p 3 X (by decide) hX
  ·rw[if_neg hn]at hX⊢;exact mO hg r p nm X hX
end Fx
namespace Fx
open Ly Tm
theorem xM:∀(k:Nat) (l:Nds),dJ (k+1) (dK k l)=l
 |k,.nil=>by cases k <;> rfl
 |0,.cons ..=>rfl
 |k+1,.cons a b c d e f g r=>by simp only[dK,dJ,xM k r]
theorem tH{M N:Nat→Nds→Nds}(h:∀b X,M b (N b X)=X):∀(k:Nat) (X:Nds),eH k M (eH k N X)=X
 |k,.nil=>by cases k <;> rfl
 |0,.cons ..=>by simp only[eH,h]
 |k+1,.cons a b c d e f g r=>by simp only[eH,tH h k r]
theorem tI{f g:Nds→Nds}(h:∀X,g (f X)=X):∀(p:List Nat) (b:Nat) (X:Nds),bP g p b (bP f p b X)=X
 |[],b,X=>by
  show(if b=9 then g (if b=9 then f X else X)else(if b=9 then f X else X))=X
  by_cases hb:b=9
  ·rw[if_pos hb,if_pos hb];exact h X
  ·rw[if_neg hb,if_neg hb]
 |k::p,b,X=>tH (tI h p) k X
theorem DF{C:Wd→Nat}{L:List Ty}(hF:∀t∈L,bg t){root u:Wd}{n m:Nd}(hn:(wrT L root n).isSome=true)(up:List Nat)(k j:Nat)(hj:j=k∨j=k+1)
  (h:bH C L root {n with kids:=bP (dK k) up 3 n.kids}= .ok u)(hm:rdT L root u=some m):
  (wrT L root {m with kids:=bP (dJ j) up 3 m.kids}).isSome=true∧bH C L root {m with kids:=bP (dJ j) up 3 m.kids}=bH C L root n:=by
 obtain⟨q,h1,h2,h3,m',h4,h5⟩:=mL.1 h;rw[hm]at h4;cases h4;obtain⟨hX,n1,n2⟩:=cC hn;have hm1:=FT hF hm;obtain⟨mX,m1,m2⟩:=cC (L:=L) (root:=root) (d:=m) (by rw[hm1];rfl);have hk:strip m.kids=strip q:=by have:=congrArg Nd.kids h5;exact this
 have hval:m.val=n.val:=by have:=congrArg Nd.val h5;exact this
 have htx:m.text=n.text:=by have:=congrArg Nd.text h5;exact this
 have w1:=mO (g:=dJ j) (fun f X h=>qP j X h) L up root m.kids mX;have w2:(wrT L root {m with kids:=bP (dJ j) up 3 m.kids}).isSome=true:=by
  unfold wrT aX;simp only[];rw[if_neg (by rw[not_or];exact⟨fun h=>h m1,fun h=>h m2⟩)];exact w1
 refine⟨w2,FU hF w2 hn hval htx ?_⟩;show erS L root (bP (dJ j) up 3 m.kids)=erS L root n.kids;rw[mN (g:=dJ j) (tA j) (fun E X=>Br E j X) L up root m.kids mX,FR hk,mF L root _ q h1];show bP (dJ j) up 3 (erS L root (bP (dK k) up 3 n.kids))=_;rw[mN (g:=dK k) (tB k) (fun E X=>Bs E k X) L up root n.kids hX];refine tI (fun X=> ?_) up 3 _;rcases hj with rfl|rfl
 ·exact Bp _ X
 ·exact xM k X
end Fx
namespace Fx
open Ly Tm
abbrev Itf:=Wd→List Nat→Option Hd
def kO(R:Itf)(h:Hd):List Nat→Option Hd
 |[]=>some h
 |k::p=>match h.k with
  | .struct t=>R t (k::p)
  |_=>none
def hdI(R:Itf)(h:Hd):List Nat→Option Hd
 |[]=>some h
 |k::p=>if cP h then kO R h p else kO R h (k::p)
def oX(R:Itf):Its→List Nat→Option Hd
 | .nil,_=>none
 | .cons h l,p=>match p with
  |[]=>none
  |0::q=>hdI R h q
  |(k+1)::q=>oX R l (k::q)
 | .when _ _ body l,p=>match p with
  |[]=>none
  |0::q=>oX R body q
  |(k+1)::q=>oX R l (k::q)
def itS:List Ty→Itf
 |[],_,_=>none
 |t::r,nm,p=>if t.name=nm then oX (itS r) t.items p else itS r nm p
def atN(f:Nd→Nd):Nat→Nds→Nds
 |_,.nil=> .nil
 |0,.cons a b c d e g k r=>(f ⟨a,b,c,d,e,g,k⟩).put r
 |n+1,.cons a b c d e g k r=> .cons a b c d e g k (atN f n r)
def cN(f:Nd→Nd):List Nat→Nd→Nd
 |[],d=>f d
 |k::p,d=>{d with kids:=atN (cN f p) k d.kids}
def JU(k:Nat)(q:List Nat)(X:Nds):Option Nd:=(nth k X).bind (bX q)
theorem IF(f:Nd→Nd):∀(k:Nat) (X:Nds),(atN f k X).len=X.len
 |k,.nil=>by cases k <;> rfl
 |0,.cons ..=>rfl
 |k+1,.cons a b c d e g x r=>by simp only[atN,Nds.len,IF f k r]
theorem By(f:Nd→Nd):∀(k:Nat) (X:Nds),nth k (atN f k X)=(nth k X).map f
 |k,.nil=>by cases k <;> rfl
 |0,.cons ..=>rfl
 |k+1,.cons a b c d e g x r=>By f k r
theorem tJ(f:Nd→Nd):∀(p:List Nat) (d:Nd),bX p (cN f p d)=(bX p d).map f
 |[],d=>rfl
 |k::p,d=>by
  show(nth k (atN (cN f p) k d.kids)).bind (bX p)=((nth k d.kids).bind (bX p)).map f;rw[By];cases nth k d.kids with
  |none=>rfl
  |some d2=>exact tJ f p d2
def GoS(W:Wri)(R:Itf)(f:Nd→Nd)(h:Hd):Prop:=∀(nm:Wd) (k:Nat) (q:List Nat) (X:Nds) (x:Nd),(W nm X).isSome=true→R nm (k::q)=some h→JU k q X=some x→x.kind=kNo h.k→(W nm (atN (cN f q) k X)).isSome=true
theorem FW(k:Knd):(9:Nat)≠kNo k:=by cases k <;> simp[kNo]
theorem DG{W:Wri}{h:Hd}{t:Wd}(hk:h.k= .struct t){d:Nd}{X:Nds}(hd:(aX W h d).isSome=true)(hX:(W t X).isSome=true):(aX W h {d with kids:=X}).isSome=true:=by
 unfold aX at hd⊢;rw[hk]at hd⊢;simp only[]at hd⊢;split at hd
 ·cases hd
 ·rename_i hn
  rw[if_neg hn];exact hX
theorem xN{W:Wri}{R:Itf}{f:Nd→Nd}{h:Hd}(hG:GoS W R f h)(hf:∀d,(aX W h d).isSome=true→(aX W h (f d)).isSome=true){h0:Hd}{d x:Nd}:∀{p:List Nat},(aX W h0 d).isSome=true→kO R h0 p=some h→bX p d=some x→x.kind=kNo h.k→(aX W h0 (cN f p d)).isSome=true
 |[],hd,hi,_,_=>by cases hi;exact hf d hd
 |k::q,hd,hi,hx,hk=>by
  unfold kO at hi;cases h1:h0.k with
  |scalar w=>rw[h1]at hi;cases hi
  |bytes=>rw[h1]at hi;cases hi
  |struct t=>
   rw[h1]at hi;exact DG h1 hd (hG t k q d.kids x (bj h1 hd) hi hx hk)
theorem xO{g:Nd→Option Wd}{f:Nd→Nd}:∀(k:Nat) (X:Nds),(∀d,nth k X=some d→(g d).isSome=true→(g (f d)).isSome=true)→(bc g X).isSome=true→(bc g (atN f k X)).isSome=true
 |k,.nil,_,h=>by cases k <;> exact h
 |k,.cons a b c d e t x r,hM,h=>by
  unfold bc at h;cases h1:g ⟨a,b,c,d,e,t,x⟩with
  |none=>rw[h1]at h;cases h
  |some u=>
   rw[h1]at h;cases h2:bc g r with
   |none=>rw[h2]at h;cases h
   |some v=>
    cases k with
    |zero=>
     obtain⟨z,hz⟩:=Option.isSome_iff_exists.1 (hM ⟨a,b,c,d,e,t,x⟩ rfl (by rw[h1];rfl));show(bc g ((f ⟨a,b,c,d,e,t,x⟩).put r)).isSome=true;unfold Nd.put bc;have hz2:g ⟨(f ⟨a,b,c,d,e,t,x⟩).name,(f ⟨a,b,c,d,e,t,x⟩).kind,(f ⟨a,b,c,d,e,t,x⟩).at_,(f ⟨a,b,c,d,e,t,x⟩).size,(f ⟨a,b,c,d,e,t,x⟩).val,(f ⟨a,b,c,d,e,t,x⟩).text,(f ⟨a,b,c,d,e,t,x⟩).kids⟩=some z:=hz;rw[hz2,h2];rfl
    |succ k=>
     obtain⟨z,hz⟩:=Option.isSome_iff_exists.1 (xO k r (fun d hd=>hM d hd) (by rw[h2];rfl));simp only[atN,bc];rw[h1,hz];rfl
theorem IG{W:Wri}{R:Itf}{f:Nd→Nd}{h:Hd}(hG:GoS W R f h)(hf:∀d,(aX W h d).isSome=true→(aX W h (f d)).isSome=true){h0:Hd}{d x:Nd}{p:List Nat}(hd:(aY W h0 d).isSome=true)(hi:hdI R h0 p=some h)(hx:bX p d=some x)(hk:x.kind=kNo h.k):(aY W h0 (cN f p d)).isSome=true:=by
 unfold aY at hd⊢
 by_cases hm:cP h0=true
 ·rw[if_pos hm]at hd⊢;split at hd
  ·cases hd
  ·rename_i hn
   cases p with
   |nil=>
    cases hi;cases hx;rw[not_or]at hn;have:=Classical.not_not.1 hn.2;rw[hk]at this;exact absurd this.symm (FW _)
   |cons k q=>
    have hi2:kO R h0 q=some h:=by
     have hi3:(if cP h0=true then kO R h0 q else kO R h0 (k::q))=some h:=hi;rw[if_pos hm]at hi3;exact hi3
    show(if d.name≠h0.name∨d.kind≠9 then none else bc (aX W h0) (atN (cN f q) k d.kids)).isSome=true;rw[if_neg hn];refine xO k _ (fun d2 h2 h3=> ?_) hd;have hx2:bX q d2=some x:=by
     have:(nth k d.kids).bind (bX q)=some x:=hx;rw[h2]at this;exact this
    exact xN hG hf h3 hi2 hx2 hk
 ·rw[if_neg hm]at hd⊢;have hi2:kO R h0 p=some h:=by
   cases p with
   |nil=>exact hi
   |cons k q=>
    have hi3:(if cP h0=true then kO R h0 q else kO R h0 (k::q))=some h:=hi;rw[if_neg hm]at hi3;exact hi3
  exact xN hG hf hd hi2 hx hk
theorem mP{W:Wri}{R:Itf}{f:Nd→Nd}{h:Hd}(hG:GoS W R f h)(hf:∀d,(aX W h d).isSome=true→(aX W h (f d)).isSome=true){x:Nd}(hk:x.kind=kNo h.k):∀(l:Its) (k:Nat) (q:List Nat) (X:Nds),(aF W l X).isSome=true→oX R l (k::q)=some h→JU k q X=some x→(aF W l (atN (cN f q) k X)).isSome=true
 | .nil,k,q,X,hX,hi,_=>by cases hi
 | .cons ..,k,q,.nil,hX,_,_=>by cases hX
 | .when ..,k,q,.nil,hX,_,_=>by cases hX
 | .cons h0 l,0,q,.cons a b c d e t g r,hX,hi,hx=>by
  have h1:=bR hX;have h2:=IG hG hf h1.1 hi hx hk;show(aF W (.cons h0 l) ((cN f q ⟨a,b,c,d,e,t,g⟩).put r)).isSome=true;exact iZ h2 h1.2
 | .cons h0 l,k+1,q,.cons a b c d e t g r,hX,hi,hx=>iZ (bR hX).1 (mP hG hf hk l k q r (bR hX).2 hi hx)
 | .when p0 q0 body l,k+1,q,.cons a b c d e t g r,hX,hi,hx=>by
  have h2:=mP hG hf hk l k q r (bI hX).2.2 hi hx;simp only[atN];rw[eV]at hX⊢;rw[dO]at h2;split at hX
  ·rename_i hl
   rw[if_pos (by simp only[eU,Nds.len]at hl⊢;omega)];rw[iX]at hX⊢;simp only[texts,List.all_cons,Bool.and_eq_true]at hX⊢;exact⟨hX.1,h2.2⟩
  ·cases hX
 | .when p0 q0 body l,0,q,.cons a b c d e t g r,hX,hi,hx=>by
  have h3:=bI hX;have ha:¬(a≠[]∨b≠4):=by
   intro hn;unfold aF at hX;rw[if_pos hn]at hX;cases hX
  obtain⟨z,hz⟩:=Option.isSome_iff_exists.1 h3.2.2;have hi2:oX R body q=some h:=hi;have hx2:bX q ⟨a,b,c,d,e,t,g⟩=some x:=hx;cases q with
  |nil=>cases body <;> cases hi2
  |cons k2 q2=>
   have hx3:JU k2 q2 g=some x:=hx2;have he:e≠0:=by
    intro he;rw[h3.2.1 he]at hx3;cases k2 <;> cases hx3
   obtain⟨y,hy⟩:=Option.isSome_iff_exists.1 (mP hG hf hk body k2 q2 g (h3.1 he) hi2 hx3);show(aF W (.when p0 q0 body l) (.cons a b c d e t (atN (cN f q2) k2 g) r)).isSome=true;unfold aF;rw[if_neg ha,if_neg he,hz,hy];rfl
theorem qR{f:Nd→Nd}{h:Hd}(hf:∀W d,(aX W h d).isSome=true→(aX W h (f d)).isSome=true):∀L:List Ty,GoS (wrS L) (itS L) f h
 |[],nm,k,q,X,x,hX,_,_,_=>by cases hX
 |t::r,nm,k,q,X,x,hX,hi,hx,hk=>by
  unfold wrS at hX⊢;unfold itS at hi
  by_cases hn:t.name=nm
  ·rw[if_pos hn]at hX hi⊢;exact mP (qR hf r) (hf _) hk t.items k q X hX hi hx
  ·rw[if_neg hn]at hX hi⊢;exact qR hf r nm k q X x hX hi hx hk
theorem FX{L:List Ty}{root:Wd}{f:Nd→Nd}{h:Hd}(hf:∀W d,(aX W h d).isSome=true→(aX W h (f d)).isSome=true){d x:Nd}(hd:(wrT L root d).isSome=true){k:Nat}{q:List Nat}(hi:itS L root (k::q)=some h)(hx:bX (k::q) d=some x)(hk:x.kind=kNo h.k):(wrT L root (cN f (k::q) d)).isSome=true:=by
 obtain⟨hX,n1,n2⟩:=cC hd;unfold wrT aX;show(if d.name≠(cm root).name∨d.kind≠kNo (cm root).k then none else wrS L root (atN (cN f q) k d.kids)).isSome=true;rw[if_neg (by rw[not_or];exact⟨fun h=>h n1,fun h=>h n2⟩)];exact qR hf L root k q d.kids x hX hi hx hk
theorem xP{g:Nd→Option Wd}:∀(k:Nat) (X:Nds) (d:Nd),(bc g X).isSome=true→nth k X=some d→(g d).isSome=true
 |k,.nil,d,_,hn=>by cases k <;> cases hn
 |k,.cons a b c d e t x r,d2,h,hn=>by
  unfold bc at h;cases h1:g ⟨a,b,c,d,e,t,x⟩with
  |none=>rw[h1]at h;cases h
  |some u=>
   rw[h1]at h;cases h2:bc g r with
   |none=>rw[h2]at h;cases h
   |some v=>
    cases k with
    |zero=>cases hn;rw[h1];rfl
    |succ k=>exact xP k r d2 (by rw[h2];rfl) hn
theorem uY:∀X:Nds,(shp X).len=X.len
 | .nil=>rfl
 | .cons a b c d e f g r=>by simp only[shp,Nds.len,uY r]
end Fx
end
end Go.Proofs.YtlomecfhobehnaaGreatDoor
