import Derived.Test.YtlomecfhobehnaaGreatDoorMgFixDrops26
set_option linter.all false
set_option maxRecDepth 100000
set_option maxHeartbeats 2000000
namespace Go.Proofs.YtlomecfhobehnaaGreatDoor
open Lib (hid)
section
open Go Go.RowKit
open Rd
open Ly
structure Mut(w w':World)(bl:List Nat):Prop where
 os:w'.os=w.os
 tape:w'.tape=w.tape
 output:w'.output=w.output
 size:w.heap.size≤w'.heap.size
 block:∀k,k < w.heap.size→k∉bl→w'.heap[k]? =w.heap[k]?
theorem Mut.refl(w:World)(bl:List Nat):Mut w w bl:=⟨rfl,rfl,rfl,Z5 _,fun _ _ _=>rfl⟩
theorem Mut.trans{w w1 w2:World}{bl:List Nat}(h:Mut w w1 bl)(k:Mut w1 w2 bl):Mut w w2 bl:=
 ⟨k.os.trans h.os,k.tape.trans h.tape,k.output.trans h.output,Nat.le_trans h.size k.size,fun i hi h1=>(k.block i (Nat.lt_of_lt_of_le hi h.size) h1).trans (h.block i hi h1)⟩
theorem Mut.mono{w w1:World}{bl bm:List Nat}(h:Mut w w1 bl)(hs:∀x∈bl,x∈bm):Mut w w1 bm:=⟨h.os,h.tape,h.output,h.size,fun k hk hn=>h.block k hk (fun hm=>hn (hs k hm))⟩
theorem Mut.aA{w w1:World}{bl:List Nat}(h:Below w.heap.size w w1):Mut w w1 bl:=⟨h.os,h.tape,h.output,h.size,fun k hk _=>h.block k hk⟩
theorem Mut.setCell{w:World}{bl:List Nat}{b:Nat}(hb:b∈bl)(o:Nat)(u:Value):Mut w (w.setCell ⟨b,o,none⟩ u) bl:=
 ⟨rfl,rfl,rfl,by simp[World.setCell],fun k _ h=>Below.heap_setCell _ _ _ _ (fun e=>h (by rw[e];exact hb))⟩
theorem Mut.below{B0:Nat}{w0 w w':World}{bl:List Nat}(h:Below B0 w0 w)(k:Mut w w' bl)(hB:B0≤w.heap.size)(hb:∀b∈bl,B0≤b):Below B0 w0 w':=
 h.trans ⟨k.os,k.tape,k.output,k.size,fun i hi=>k.block i (by omega) (fun hm=>by have:=hb i hm;omega)⟩
theorem lL{a b c:List Nat}(h:(a++(b++c)).Nodup):(a++b).Nodup:=by
 rw[← List.append_assoc]at h;exact(List.nodup_append.1 h).1
theorem aU.focus{w:World}{B:Nat}:∀(k1:Nds) (d:Nd) (r:Nds) (bl:List Nat) (vs:List Value),aU w B (k1.app (d.put r)) bl vs→bl.Nodup→
  ∃g2 c2 b2 vs2,aM w B d.kids g2 c2 b2 vs2∧(∀x∈aB g2++b2,x∈bl)∧(vs.drop (k1.len * 7)).take 7=ab d.name d.kind d.at_ d.size d.val d.text (.slice g2 d.kids.len c2)∧
   ∀(w':World) (p:Nds) (vs2':List Value),Mut w w' (aB g2++b2)→p.len=d.kids.len→aM w' B p g2 c2 b2 vs2'→aU w' B (k1.app (Nd.put {d with kids:=p} r)) bl vs
 | .nil,d,r,bl,vs,he,hn=>by
  obtain⟨ga,cap,bs,us,b1,b2,rfl,h1,h3,rfl,h5⟩:=he;have hnd:=List.nodup_append.1 hn;refine⟨ga,cap,b1,bs,⟨h1,h3,lL hn⟩,fun x hx=> ?_,?_,fun w' p vs2' hm hp hk=> ?_⟩
  ·rcases List.mem_append.1 hx with h|h
   ·exact List.mem_append_left _ h
   ·exact List.mem_append_right _ (List.mem_append_left _ h)
  ·rw[Nds.len,Nat.zero_mul,List.drop_zero];rfl
  ·refine⟨ga,cap,vs2',us,b1,b2,rfl,hk.own,hk.enc,?_,h5.an _ _ _ fun b hb=>hm.block b (h5.mem _ _ _ b hb).2 (fun hx=> ?_)⟩
   ·show ab d.name d.kind d.at_ d.size d.val d.text (.slice ga d.kids.len cap)++us=ab d.name d.kind d.at_ d.size d.val d.text (.slice ga p.len cap)++us;rw[hp]
   ·rcases List.mem_append.1 hx with h|h
    ·exact hnd.2.2 b h b (List.mem_append_right _ hb) rfl
    ·exact(List.nodup_append.1 hnd.2.1).2.2 b h b hb rfl
 | .cons nm kd a sz v tx ks k1,d,r,bl,vs,he,hn=>by
  obtain⟨ga,cap,bs,us,b1,b2,rfl,h1,h3,rfl,h5⟩:=he;have hnd:=List.nodup_append.1 hn;have hnd2:=List.nodup_append.1 hnd.2.1;obtain⟨g2,c2,bb,vs2,i1,i2,i3,i4⟩:=aU.focus k1 d r b2 us h5 hnd2.2.1;refine⟨g2,c2,bb,vs2,i1,fun x hx=>List.mem_append_right _ (List.mem_append_right _ (i2 x hx)),?_,fun w' p vs2' hm hp hk=> ?_⟩
  ·show((ab nm kd a sz v tx (.slice ga ks.len cap)++us).drop ((k1.len+1) * 7)).take 7=_;rw[show(k1.len+1) * 7=7+k1.len * 7 by omega,← List.drop_drop];exact i3
  ·refine⟨ga,cap,bs,us,b1,b2,rfl,h1.an fun x hx=>hm.block _ (h1.gY x hx) (fun hb=> ?_),h3.an _ _ _ fun b hb=>hm.block b (h3.mem _ _ _ b hb).2 (fun hx=> ?_),rfl,i4 w' p vs2' hm hp hk⟩
   ·exact hnd.2.2 x.block (by rw[hx];simp[aB]) x.block (List.mem_append_right _ (i2 _ hb)) rfl
   ·exact hnd2.2.2 b hb b (i2 b hx) rfl
theorem aU.dR{w:World}{B:Nat}(v:Int):∀(i:Nat) (ks:Nds) (bl:List Nat) (vs:List Value),aU w B ks bl vs→aU w B (Fx.dR i v ks) bl (if i < ks.len then vs.set (i * 7+4) (.int .i64 v)else vs)
 |i,.nil,bl,vs,he=>by
  rw[if_neg (show ¬i < Nds.nil.len from Nat.not_lt_zero _)];cases i <;> exact he
 |0,.cons nm kd a sz v0 tx ks r,bl,vs,he=>by
  obtain⟨ga,cap,bs,us,b1,b2,rfl,h1,h3,rfl,h5⟩:=he;rw[if_pos (by show 0 < r.len+1;omega)];exact⟨ga,cap,bs,us,b1,b2,rfl,h1,h3,rfl,h5⟩
 |i+1,.cons nm kd a sz v0 tx ks r,bl,vs,he=>by
  obtain⟨ga,cap,bs,us,b1,b2,rfl,h1,h3,rfl,h5⟩:=he;have ih:=aU.dR v i r b2 us h5;refine⟨ga,cap,bs,_,b1,b2,rfl,h1,h3,?_,ih⟩
  by_cases hl:i < r.len
  ·rw[if_pos (by show i+1 < r.len+1;omega),if_pos hl,show(i+1) * 7+4=i * 7+4+7 by omega];rfl
  ·rw[if_neg (by show ¬i+1 < r.len+1;omega),if_neg hl]
theorem aM.dR{w:World}{B g cap i:Nat}{ks:Nds}{bl:List Nat}{vs:List Value}(h:aM w B ks (some ⟨g,0,none⟩) cap bl vs)(hi:i < ks.len)(v:Int):aM (w.setCell ⟨g,i * 7+4,none⟩ (.int .i64 v)) B (Fx.dR i v ks) (some ⟨g,0,none⟩) cap bl (vs.set (i * 7+4) (.int .i64 v)):=by
 have hl:=h.enc.len;have hnd:=List.nodup_append.1 h.nodup;refine⟨?_,?_,h.nodup⟩
 ·rw[Fx.mD];exact h.own.set _ (by rw[hl];omega) _
 ·have h2:=aU.dR v i ks bl vs h.enc;rw[if_pos hi]at h2;exact h2.an _ _ _ fun b hb=>Below.heap_setCell _ _ _ _ (fun e=>hnd.2.2 g (by simp[aB]) b hb e.symm)
theorem Bz:∀(k1 m:Nds),(k1.app m).tot=k1.tot+m.tot
 | .nil,m=>by show m.tot=0+m.tot;omega
 | .cons a b c d e f g r,m=>by
  have:=Bz r m;simp only[Nds.app,Nds.tot,this];omega
theorem fR:∀(ks:Nds),ks.len * 8≤ks.tot
 | .nil=>Z5 _
 | .cons a b c d e f g r=>by
  have:=fR r;simp only[Nds.len,Nds.tot];omega
theorem qS:∀(n:Nat) (d:Nd),d.tot < n→d.tot≤800000→FN d
 |0,d,h,_=>absurd h (Nat.not_lt_zero _)
 |n+1,d,h,ht=>by
  have hk:d.kids.tot≤d.tot:=by unfold Nd.tot;omega
  have hl:=fR d.kids;refine xF d (by omega) (fun k1 d2 r he=> ?_);have h2:d2.tot+8≤d.tot:=by
   have h3:=Bz k1 (d2.put r);rw[← he,fP]at h3;unfold Nd.tot at h3⊢;omega
  exact qS n d2 (by omega) (by omega)
theorem qT(d:Nd)(ht:d.tot≤800000)(w:World)(B:Nat)(bl:List Nat)(v:Value)(hv:NdV w B bl d v):Calls Tryz.prog 43 #[v] w (uX w d):=qS _ d (Nat.lt_succ_self _) ht w B bl v hv
def IH(w':World)(B:Nat)(gk:Option Addr)(gcap:Nat)(bl:List Nat)(o:Option Nds)(v:Value):Prop:=match o with
 |some p=>v= .nilIface∧∃vs',aM w' B p gk gcap bl vs'
 |none=>v= .iface 48 (.int .i64 2)
def ep(w:World)(B:Nat)(gk:Option Addr)(gcap:Nat)(bl:List Nat)(o:Option Nds)(e:Ending)(w':World):Prop:=Mut w w' (aB gk++bl)∧∃v,e= .returned v∧IH w' B gk gcap bl o v
structure FxE(U:World)(rb:Nat)(tys:List Tm.Ty)(a:Option Addr)(cap:Nat):Prop where
 ex:∃Bt tvs,ak U Bt 97 3 a tys.length cap tvs∧Tm.cI U rb tys tvs
 few:tys.length≤100
 nodup:(names tys).Nodup
theorem FxE.same{U:World}{rb cap:Nat}{tys:List Tm.Ty}{a:Option Addr}(h:FxE U rb tys a cap){s t:Tm.Ty}(hs:s∈tys)(ht:t∈tys)(he:s.name=t.name):s=t:=by
 have hn:=h.nodup;unfold names at hn;clear h
 induction tys with
 |nil=>cases hs
 |cons x l ih=>
  rw[List.map_cons,List.nodup_cons]at hn;rcases List.mem_cons.1 hs with h1|h1
  ·rcases List.mem_cons.1 ht with h2|h2
   ·rw[h1,h2]
   ·exact absurd (List.mem_map.2 ⟨t,h2,by rw[← he,h1]⟩) hn.1
  ·rcases List.mem_cons.1 ht with h2|h2
   ·exact absurd (List.mem_map.2 ⟨s,h1,by rw[he,h2]⟩) hn.1
   ·exact ih h1 h2 hn.2
def xQ(U:World)(rb:Nat)(tys:List Tm.Ty)(a:Option Addr)(cap:Nat)(W:Wri)(F:Nds→Option Nds)(l:Tm.Its):Prop:=∀(w:World) (B gcap capi:Nat) (gi gk:Option Addr) (bs vs:List Value) (bl:List Nat) (ks:Nds),
 Below U.heap.size U w→ak U (rb+1) 70 13 gi l.len capi bs→Tm.bu U rb l bs→aM w B ks gk gcap bl vs→U.heap.size≤B→ks.ok→ks.tot≤800000→(aF W l ks).isSome=true→
 Calls Tryz.prog 70 #[.agg #[.slice a tys.length cap],.slice gi l.len capi,.slice gk ks.len gcap] w (ep w B gk gcap bl (F ks))
def II(U:World)(rb:Nat)(tys:List Tm.Ty)(a:Option Addr)(cap:Nat)(W:Wri)(Bf:Fx.Fxr)(nm:Tm.Wd):Prop:=∃t∈tys,t.name=nm∧∃W',(∀ks,W nm ks=aF W' t.items ks)∧xQ U rb tys a cap W' (Bf nm) t.items
end
section
open Go.RowKit
theorem DH(a:Option Addr)(n c:Nat)(L:List Int)(x:Int)(w:World)(hL:L.length=n)(hn:n≤4611686018427387904)(ha:iH w a L):
  Calls Tryz.prog 141 #[.slice a n c,.int .i64 x] w fun e w'=>∃r:Int,e= .returned (.int .i64 r)∧w=w'∧ -1≤r∧r < n∧(0≤r↔x∈L):=by
 have HL:=hid hL;clear hL;have HA:=hid ha;clear ha;go_enter Tryz.func141,Tryz.ntmps141;go_wp2_with fail;go_loop [8] (fun i=>∃k:Nat,k≤n∧i= .int .i64 k∧Hid (∀j,j < k→L.getD j 0≠x)) (fun i=>n - (intOf i).toNat)
 case atStart=>exact⟨0,by omega,rfl,fun j hj=>by omega⟩
 case round=>
  obtain⟨k,hk,rfl,HP⟩:=hrel
  by_cases hlt:k < n
  ·obtain⟨g,off,rfl,hc⟩:=HA.out.pos (by rw[HL.out];omega);have hc1:=hc k (by rw[HL.out];omega);clear hc;have hki:(k:Int) < (n:Int):=by omega
   generalize hx:L.getD k 0=y at *
   have HX:=hid hx;clear hx
   by_cases hxy:x=y
   ·have hb:(x==y)=true:=by simp[hxy]
    have HXY:=hid hxy;clear hxy;go_wp2_with fail;go_ret;refine⟨k,rfl,rfl,by omega,by omega,⟨fun _=> ?_,fun _=>by omega⟩⟩;rw[HXY.out,← HX.out,List.getD_eq_getElem?_getD,Y1 (by rw[HL.out];exact hlt)];exact List.getElem_mem _
   ·have hb:(x==y)=false:=by simpa using hxy
    have HXY:=hid hxy;clear hxy;go_wp2_with fail;go_round
    case rel=>
     refine⟨k+1,by omega,by go_num,?_⟩;intro j hj;rcases Nat.lt_or_ge j k with h|h
     ·exact HP.out j h
     ·obtain rfl:j=k:=by omega
      rw[HX.out];exact fun h=>HXY.out h.symm
    case measure=>simp[intOf];omega
  ·obtain rfl:k=n:=by omega
   have hd:decide ((k:Int) < (k:Int))=false:=by simp
   go_wp2_with fail;go_ret;refine⟨-1,rfl,rfl,by omega,by omega,⟨fun h=>by omega,fun h=> ?_⟩⟩;obtain⟨i,hi,he⟩:=List.getElem_of_mem h;have:=HP.out i (by rw[HL.out]at hi;exact hi);rw[List.getD_eq_getElem?_getD,Y1 hi]at this;exact absurd he this
theorem mQ(a:Option Addr)(n c:Nat)(L:List Int)(x:Int)(w:World)(hL:L.length=n)(hn:n≤4611686018427387904)(ha:iH w a L):
  Calls Tryz.prog 122 #[.slice a n c,.int .i64 x] w fun e w'=>e= .returned (.bool (decide (x∈L)))∧w=w':=by
 go_enter Tryz.func122,Tryz.ntmps122;go_wp2_with fail;refine(DH a n c L x _ hL hn ha).mono ?_;rintro e w1 ⟨r,rfl,rfl,h1,h2,h3⟩;have H3:=hid h3;clear h3;clear ha;go_wp2_with fail;go_ret;refine⟨jo ?_,rfl⟩;rw[decide_eq_decide];exact H3.out
end
section
open Go.RowKit
open Rd
structure OcS(V W:World)(rb cap n:Nat)(l:Tm.Its)(ga:Option Addr)(bs:List Value)(lb ob on oc B:Nat)(oa:Option Addr)(out:List Nat):Prop where
 it:ItV V W rb l ga cap bs
 r1:ae W lb 0 63 [.slice ga n cap]
 r2:ae W ob 0 40 [.slice oa on oc]
 own:ak W B 3 1 oa on oc (cO (out.map fun(i:Nat)=>(i:Int)))
 len:out.length=on
theorem OcS.up{V W W':World}{rb cap n:Nat}{l:Tm.Its}{ga:Option Addr}{bs:List Value}{lb ob on oc B:Nat}{oa:Option Addr}{out:List Nat}(h:OcS V W rb cap n l ga bs lb ob on oc B oa out)(hb:Below W.heap.size W W'):OcS V W' rb cap n l ga bs lb ob on oc B oa out:=
 ⟨h.it.up hb,h.r1.below hb h.r1.lt,h.r2.below hb h.r2.lt,h.own.below hb (Z5 _),h.len⟩
theorem xR{R:List Tm.Sk}{out:List Nat}{j:Nat}{s:Tm.Sk}(hs:R[j]? =some s)(h:s.wh=true∨Tm.aK s.ay=false∨j∈out):Fx.ready R out j=false:=by
 unfold Fx.ready;rw[hs];rcases h with h|h|h <;> simp[h]
theorem DI{R:List Tm.Sk}{out:List Nat}{j:Nat}{s:Tm.Sk}(hs:R[j]? =some s)(h1:s.wh=false)(h2:Tm.aK s.ay=true)(h3:j∉out):Fx.ready R out j=(List.range R.length).all fun k=> !(Tm.eF R j k&&Tm.bM R k&& !out.contains k):=by
 unfold Fx.ready;rw[hs];simp[h1,h2,h3]
theorem mR{out:List Nat}{j:Nat}:((j:Int)∈out.map fun(i:Nat)=>(i:Int))↔j∈out:=by
 rw[List.mem_map];constructor
 ·rintro⟨a,h1,h2⟩;have:a=j:=by omega
  rw[← this];exact h1
 ·exact fun h=>⟨j,h,rfl⟩
theorem IJ{n k:Nat}{p:Nat→Bool}(hk:k < n)(h:p k=false):(List.range n).all p=false:=by
 rw[List.all_eq_false];exact⟨k,List.mem_range.2 hk,by rw[h];simp⟩
theorem FY{k:Nat}{p:Nat→Bool}(h:(List.range k).all p=true)(h2:p k=true):(List.range (k+1)).all p=true:=by
 rw[List.range_succ,List.all_append,h];simp[h2]
theorem IK(V w:World)(rb cap n lb ob on oc B j:Nat)(l:Tm.Its)(ga oa:Option Addr)(bs:List Value)(out:List Nat)(hn:n=Tm.Its.len l)(hn2:n≤100000)(hon:on≤100000)(h:OcS V w rb cap n l ga bs lb ob on oc B oa out)
  (s:Tm.Sk)(k0 k1 k4 k5:Nat)(s3:ByteArray)(b6:Bool)(p8 a12:Option Addr)(n12 c12:Nat)(hk:k0=4↔s.wh=true)(hk4:k0≤4)(hs:l.row[j]? =some s)(hu:s.wh=false→Tm.aV l.row s.name=(j:Int))(hj:j < n):
  Calls Tryz.prog 121 #[.agg (aQ s k0 k1 k4 k5 s3 b6 p8 a12 n12 c12).toArray,.pointer (some ⟨lb,0,none⟩),.pointer (some ⟨ob,0,none⟩)] w fun e w'=>e= .returned (.bool (Fx.ready l.row out j))∧Below w.heap.size w w':=by
 have hcap:n≤cap:=by rw[hn];exact aW h.it.own
 obtain⟨r1,r2,_⟩:=fq s.ay;obtain⟨V1,hV1⟩:∃V1,V1=w.alloc (.cells (aQ s k0 k1 k4 k5 s3 b6 p8 a12 n12 c12).toArray 70):=⟨_,rfl⟩;have hrow:ae V1 w.heap.size 0 70 (aQ s k0 k1 k4 k5 s3 b6 p8 a12 n12 c12):=by rw[hV1];exact ae.new w _ _
 have hbb:Below w.heap.size w V1:=by rw[hV1];exact(Y4 w.heap.size w).alloc (Z5 _) _
 have c0:=hrow.cell0 0 (by simp);have c2:=hrow.cell0 2 (by simp);have c9:=hrow.cell0 9 (by simp);have h2:=h.up hbb;have d1:=h2.r1.cell0 0 (by simp);simp only[aQ,Z0,Z1]at c0 c2 c9 d1;rw[hV1]at c2 d1;have HROW:=hid hrow;have HB:=hid hbb;have HO:=hid h2;have HV1:=hid hV1;have HK:=hid hk;have HS:=hid hs;have HU:=hid hu;have HN:=hid hn;have HF:=hid (fun W hW nm=>qy V rb cap n l ga bs nm W hn hn2 hW);have HOV:=hid (fun W k hW=>wU V rb cap n j k l ga bs W hn hn2 hW hj);generalize hch:Tm.aK s.ay=ch at *
 have HCH:=hid hch;have fin:∀W,Below w.heap.size w W→s.wh=true∨Tm.aK s.ay=false∨j∈out→(Ending.returned (.bool false)=Ending.returned (.bool (Fx.ready l.row out j))∧Below w.heap.size w W):=fun W hW hc=>⟨by rw[xR hs hc],hW⟩
 have FIN:=hid fin;clear hrow hbb h2 h hk hs hu hV1 hn c0 c9 fin hch
 by_cases h4:k0=4
 ·have q1:((k0:Int)==4)=true:=by rw[beq_iff_eq];omega
  have q3:(k0==4)=true:=by rw[beq_iff_eq];exact h4
  have HW:=hid (HK.out.1 h4);clear h4;go_enter Tryz.func121,Tryz.ntmps121;go_wp2_with fail;rw[show w.alloc _=V1 from HV1.out.symm];refine(HF.out V1 HO.out.it s.name).mono ?_;rintro e w2 ⟨rfl,hb2⟩;have hr2:=HROW.out.below hb2 HROW.out.lt;have c0:=hr2.cell0 0 (by simp);simp only[aQ,Z0,Z1]at c0;have HB2:=hid (HB.out.trans (hb2.mono HB.out.size));clear hb2 hr2;go_wp2_with fail;go_ret;exact FIN.out _ HB2.out (.inl HW.out)
 ·have hw:s.wh=false:=by
   cases h:s.wh with
   |false=>rfl
   |true=>exact absurd (HK.out.2 h) h4
  have q1:((k0:Int)==4)=false:=by rw[Z8];omega
  have q3:(k0==4)=false:=by rw[Z8];exact h4
  have HW:=hid hw;clear h4 hw;go_enter Tryz.func121,Tryz.ntmps121;go_wp2_with fail;rw[show w.alloc _=V1 from HV1.out.symm];refine(HF.out V1 HO.out.it s.name).mono ?_;rintro e w2 ⟨rfl,hb2⟩;rw[HU.out HW.out];have hr2:=HROW.out.below hb2 HROW.out.lt;have c0:=hr2.cell0 0 (by simp);have c9:=hr2.cell0 9 (by simp);simp only[aQ,Z0,Z1]at c0 c9;have hO2:=HO.out.up hb2;have d2:=hO2.r2.cell0 0 (by simp);have d1b:=hO2.r1.cell0 0 (by simp);simp only[Z0]at d2 d1b;have HO2:=hid hO2;have HB2:=hid (HB.out.trans (hb2.mono HB.out.size));clear hb2 hr2 hO2 d1 c2;cases ch with
  |false=>
   have q5:(((av s.ay).1:Int)!=3)=true:=by rw[bne,r2];rfl
   have q6:((av s.ay).1 !=3)=true:=by rw[bne,r1];rfl
   clear r1 r2;go_wp2_with fail;go_ret;exact FIN.out _ HB2.out (.inr (.inl HCH.out))
  |true=>
   have q5:(((av s.ay).1:Int)!=3)=false:=by rw[bne,r2];rfl
   have q6:((av s.ay).1 !=3)=false:=by rw[bne,r1];rfl
   clear r1 r2;go_wp2_with fail;refine(mQ oa on oc (out.map fun(i:Nat)=>(i:Int)) (j:Int) _ (by rw[List.length_map];exact HO2.out.len) (by omega) HO2.out.own.tY).mono ?_;rintro e w3 ⟨rfl,rfl⟩
   by_cases hm:j∈out
   ·have e1:decide ((j:Int)∈out.map fun(i:Nat)=>(i:Int))=true:=Z9 (mR.2 hm);rw[e1];have HM:=hid hm;clear hm e1;go_wp2_with fail;go_ret;exact FIN.out _ HB2.out (.inr (.inr HM.out))
   ·have e1:decide ((j:Int)∈out.map fun(i:Nat)=>(i:Int))=false:=Y9 (fun h=>hm (mR.1 h));rw[e1];have HM:=hid hm;have HRD:=hid (DI HS.out HW.out HCH.out hm);clear hm e1;obtain⟨pf,hpf⟩:∃pf:Nat→Bool,pf=fun k=> !(Tm.eF l.row j k&&Tm.bM l.row k&& !out.contains k):=⟨_,rfl⟩
    have hrl:l.row.length=n:=by rw[Tm.cT];exact HN.out.symm
    have HRD2:=hid (show Fx.ready l.row out j=(List.range n).all pf by rw[HRD.out,hrl,hpf]);have HPF:=hid (fun k=>congrFun hpf k);clear hrl hpf;go_wp2_with fail;go_loopw [26] (fun v26 wr=>∃k:Nat,v26= .int .i64 k∧k≤n∧Hid ((List.range k).all pf=true)∧Hid (Below w2.heap.size w2 wr)) (fun v26 _=>n - (intOf v26).toNat)
    case atStart=>exact⟨0,rfl,Nat.zero_le _,hid (by simp),hid (Y4 _ _)⟩
    case round=>
     obtain⟨k,rfl,hkn,HQ,HBW⟩:=hrel;have hOw:=HO2.out.up HBW.out;have g1:=hOw.r1.cell0 0 (by simp);have g2:=hOw.r2.cell0 0 (by simp);simp only[Z0]at g1 g2;have HOW:=hid hOw
     by_cases hlt:k < n
     ·have hki:(k:Int) < (n:Int):=by omega
      have q7:decide ((k:Int) < (n:Int))=true:=Z9 hki;have q8:decide (k < n)=true:=Z9 hlt;have HLT:=hid hlt;clear hOw d2 d1b;go_wp2_with fail;refine(HOV.out wr k HOW.out.it).mono ?_;rintro e w4 ⟨rfl,hb4⟩;have HB4:=hid (HBW.out.trans (hb4.mono HBW.out.size));have hO4:=HOW.out.up hb4;have g3:=hO4.r1.cell0 0 (by simp);have g4:=hO4.r2.cell0 0 (by simp);simp only[Z0]at g3 g4;obtain⟨x,rfl⟩:∃x,ga=some x:=by
       cases ga with
       |none=>have:=hO4.it.own.aS.1;rw[← HN.out]at this;omega
       |some x=>exact⟨x,rfl⟩
      obtain⟨gb,rfl⟩:∃gb,x=⟨gb,0,none⟩:=⟨x.block,hO4.it.own.row.1⟩;obtain⟨s9,m0,m1,m4,m5,m3,m6,m8,m12,mn,mc,hs9,hrow9,hm0,hm4,hw9⟩:=hO4.it.cells k (by rw[← HN.out];exact hlt);have f9:=hrow9.cell 9 (by simp);simp only[aQ,Z0,Z1]at f9;have hca:Tm.bM l.row k=Tm.aK s9.ay:=by unfold Tm.bM;rw[hs9]
      obtain⟨r9a,r9b,_⟩:=fq s9.ay;have HO4:=hid hO4;have HPK:=hid (HPF.out k);have HCA:=hid hca;clear hb4 hO4 hs9 hrow9 hm0 hm4 hw9 hlt hca g1 g2;have next:pf k=true→Hid ((List.range (k+1)).all pf=true):=fun h=>hid (FY HQ.out h)
      have stop:pf k=false→Fx.ready l.row out j=false:=fun h=>by rw[HRD2.out];exact IJ HLT.out h
      have HNX:=hid next;have HST:=hid stop;clear next stop;generalize hov:Tm.eF l.row j k=ov at *
      have HOVB:=hid hov;clear hov;cases ov with
      |false=>
       have HP:=hid (HNX.out (by rw[HPK.out];rfl));go_wp2_with fail;go_roundw
       case rel=>exact⟨k+1,by go_num,by omega,HP.out,HB4⟩
       case measure=>simp[intOf];omega
      |true=>
       generalize hc9:Tm.aK s9.ay=ch9 at *
       have HC9:=hid hc9;clear hc9;cases ch9 with
       |false=>
        have HP:=hid (HNX.out (by rw[HPK.out,HCA.out];simp));go_wp2_with fail;go_roundw
        case rel=>exact⟨k+1,by go_num,by omega,HP.out,HB4⟩
        case measure=>simp[intOf];omega
       |true=>
        go_wp2_with fail;refine(mQ oa on oc (out.map fun(i:Nat)=>(i:Int)) (k:Int) _ (by rw[List.length_map];exact HO4.out.len) (by omega) HO4.out.own.tY).mono ?_;rintro e w5 ⟨rfl,rfl⟩
        by_cases hm:k∈out
        ·have e1:decide ((k:Int)∈out.map fun(i:Nat)=>(i:Int))=true:=Z9 (mR.2 hm);rw[e1];have HP:=hid (HNX.out (by rw[HPK.out];simp[hm]));clear hm e1;go_wp2_with fail;go_roundw
         case rel=>exact⟨k+1,by go_num,by omega,HP.out,HB4⟩
         case measure=>simp[intOf];omega
        ·have e1:decide ((k:Int)∈out.map fun(i:Nat)=>(i:Int))=false:=Y9 (fun h=>hm (mR.1 h));rw[e1];have HP:=hid (HST.out (by rw[HPK.out,HCA.out];simp[hm]));clear hm e1;go_wp2_with fail;go_ret;exact⟨by rw[HP.out];rfl,HB2.out.trans (HB4.out.mono HB2.out.size)⟩
     ·obtain rfl:k=n:=by omega
      have hd:decide ((k:Int) < (k:Int))=false:=by simp
      have hd2:decide (k < k)=false:=by simp
      clear hOw;go_wp2_with fail;go_ret;refine⟨?_,HB2.out.trans (HBW.out.mono HB2.out.size)⟩;rw[HRD2.out,HQ.out];rfl
end
section
namespace Fx
open Ly Tm
structure jQ(R:List Sk):Prop where
 ay:∀(i:Nat) (s:Sk),R[i]? =some s→bB R i s=none
 uniq:∀(i:Nat) (s:Sk),R[i]? =some s→s.wh=false→aV R s.name=(i:Int)
def kZ:Its→Prop
 | .nil=>True
 | .cons _ l=>kZ l
 | .when _ _ b l=>(jQ b.row∧kZ b)∧kZ l
theorem oN{R:List Sk}:∀(l:List Sk) (b:Nat),dU R b l=none→∀(i:Nat) (s:Sk),l[i]? =some s→bB R (b+i) s=none
 |[],b,_,i,s,h=>by cases h
 |s0::l,b,hr,i,s,h=>by
  unfold dU at hr;cases h1:bB R b s0 with
  |some e=>rw[h1]at hr;cases hr
  |none=>
   rw[h1]at hr;cases i with
   |zero=>cases h;exact h1
   |succ i=>
    have:=oN l (b+1) hr i s h;rw[show b+(i+1)=b+1+i by omega];exact this
def JV(R:List Sk):Prop:=∀(i j:Nat) (s t:Sk),R[i]? =some s→R[j]? =some t→s.wh=false→t.wh=false→s.name=t.name→i=j
theorem DJ{R:List Sk}(h:JV R){i:Nat}{s:Sk}(hs:R[i]? =some s)(hw:s.wh=false):aV R s.name=(i:Int):=by
 have hi:=(List.getElem?_eq_some_iff.1 hs).1;have he:=(List.getElem?_eq_some_iff.1 hs).2;have:R.findIdx? (called s.name)=some i:=by
  rw[List.findIdx?_eq_some_iff_getElem];refine⟨hi,by rw[he];simp[called,hw],fun j hji=> ?_⟩;intro hc;unfold called at hc;simp only[Bool.and_eq_true,Bool.not_eq_true',beq_iff_eq]at hc;have:=h j i R[j] s (Y1 (by omega)) hs hc.1 hw hc.2;omega
 unfold aV;rw[this]
theorem oO{R:List Sk}(h:dw R=none)(hd:JV R):jQ R:=by
 refine⟨fun i s hs=> ?_,fun i s hs hw=>DJ hd hs hw⟩;unfold dw at h;cases h1:dU R 0 R with
 |some e=>rw[h1]at h;cases h
 |none=>have:=oN R 0 h1 i s hs;rw[Nat.zero_add]at this;exact this
theorem kF{ts:List Wd}:∀(l:Its) (ns seen ns' seen':List Wd),bD ts l ns seen= .ok ns' seen'→(∀x∈ns,x∈ns')∧(∀s∈l.row,s.wh=false→s.name∉ns∧s.name∈ns')∧JV l.row∧kZ l
 | .nil,ns,seen,ns',seen',e=>by
  unfold bD at e;injection e with e1 e2
  subst e1;exact⟨fun x hx=>hx,(fun s hs=>by cases hs),(fun i j s t h=>by cases h),trivial⟩
 | .cons h l,ns,seen,ns',seen',e=>by
  unfold bD at e;split at e
  ·cases e
  ·rename_i hn
   split at e
   ·cases e
   ·split at e
    ·obtain⟨h1,h2,h3,h4⟩:=kF l _ _ _ _ e;have hn2:h.name∉ns:=by simpa using hn
     refine⟨fun x hx=>h1 x (List.mem_cons_of_mem _ hx),fun s hs hw=> ?_,fun i j s t hi hj ws wt hst=> ?_,h4⟩
     ·rcases List.mem_cons.1 hs with rfl|hs
      ·exact⟨hn2,h1 _ (by simp[skH])⟩
      ·have:=h2 s hs hw;exact⟨fun hm=>this.1 (List.mem_cons_of_mem _ hm),this.2⟩
     ·cases i with
      |zero=>
       cases j with
       |zero=>rfl
       |succ j=>
        cases hi;have:=(h2 t (List.mem_of_getElem? hj) wt).1;exact absurd (by rw[← hst];simp[skH]) this
      |succ i=>
       cases j with
       |zero=>
        cases hj;have:=(h2 s (List.mem_of_getElem? hi) ws).1;exact absurd (by rw[hst];simp[skH]) this
       |succ j=>rw[h3 i j s t hi hj ws wt hst]
    ·cases e
 | .when a c b l,ns,seen,ns',seen',e=>by
  unfold bD at e;split at e
  ·cases hb:bD ts b ns seen with
   |bad x=>rw[hb]at e;cases e
   |ok n2 s2=>
    rw[hb]at e;simp only[]at e;split at e
    ·cases e
    ·rename_i hr
     obtain⟨h1,h2,h3,h4⟩:=kF b _ _ _ _ hb;obtain⟨g1,g2,g3,g4⟩:=kF l _ _ _ _ e;refine⟨fun x hx=>g1 x (h1 x hx),fun s hs hw=> ?_,fun i j s t hi hj ws wt hst=> ?_,⟨⟨oO hr h3,h4⟩,g4⟩⟩
     ·rcases List.mem_cons.1 hs with rfl|hs
      ·cases hw
      ·have:=g2 s hs hw;exact⟨fun hm=>this.1 (h1 _ hm),this.2⟩
     ·cases i with
      |zero=>cases hi;cases ws
      |succ i=>
       cases j with
       |zero=>cases hj;cases wt
       |succ j=>rw[g3 i j s t hi hj ws wt hst]
  ·cases e
theorem FZ:∀(l:List Ty) (ts:List Wd),chk ts l=none→∀t∈l,jQ t.items.row∧kZ t.items
 |[],ts,_,t,ht=>by cases ht
 |t0::l,ts,h,t,ht=>by
  unfold chk at h;split at h
  ·cases h
  ·cases hb:bD ts t0.items [] []with
   |bad x=>rw[hb]at h;cases h
   |ok n2 s2=>
    rw[hb]at h;simp only[]at h;split at h
    ·cases h
    ·rename_i hr
     obtain⟨h1,h2,h3,h4⟩:=kF _ _ _ _ _ hb;rcases List.mem_cons.1 ht with rfl|ht
     ·exact⟨oO hr h3,h4⟩
     ·exact FZ l _ h t ht
structure Aa(R:List Sk)(i:Nat)(r:Rl)(a b:Nat):Prop where
 first:aV R (bk r)=(a:Int)
 last:db R r=(b:Int)
 le:a≤b
 lt:b < R.length
theorem IL{R:List Sk}(h:jQ R){i:Nat}{s:Sk}(hs:R[i]? =some s)(hr:isNone s.ay=false):∃a b,Aa R i s.ay a b:=by
 have h1:=h.ay i s hs;unfold bB at h1;rw[hr]at h1;simp only[Bool.false_eq_true,if_false]at h1;split at h1
 ·cases h1
 ·rename_i g1
  split at h1
  ·cases h1
  ·split at h1
   ·cases h1
   ·rename_i g2
    rw[not_or]at g1;have hb:db R s.ay < R.length:=by
     unfold db;split
     ·unfold aV;cases hf:R.findIdx? (called (cX s.ay))with
      |none=>simp only[];omega
      |some k=>have:=(List.findIdx?_eq_some_iff_getElem.1 hf).1;simp only[];omega
     ·unfold aV;cases hf:R.findIdx? (called (bk s.ay))with
      |none=>simp only[];omega
      |some k=>have:=(List.findIdx?_eq_some_iff_getElem.1 hf).1;simp only[];omega
    exact⟨(aV R (bk s.ay)).toNat,(db R s.ay).toNat,by omega,by omega,by omega,by omega⟩
theorem tK{f:Nds→Option Nds}:∀(ks p:Nds),dI f ks=some p→p.len=ks.len
 | .nil,p,h=>by cases h;rfl
 | .cons a b c d e t g r,p,h=>by
  unfold dI at h;obtain⟨g',_,h2⟩:=Option.bind_eq_some_iff.1 h;obtain⟨q,h3,rfl⟩:=Option.map_eq_some_iff.1 h2;simp only[Nds.len,tK r q h3]
theorem Ga{C:Wd→Nat}{W:Wri}{l:Its}{ks p:Nds}{i:Nat}(h:gK C W l ks i=some p):p.len=ks.len:=by
 unfold gK at h;split at h
 ·cases h;rfl
 ·split at h
  ·cases h;exact mD _ _ _
  ·cases h
theorem xS{C:Wd→Nat}{W:Wri}{l:Its}:∀(O:List Nat) (ks p:Nds),eG C W l O ks=some p→p.len=ks.len
 |[],ks,p,h=>by cases h;rfl
 |i::O,ks,p,h=>by
  unfold eG at h;obtain⟨q,h1,h2⟩:=Option.bind_eq_some_iff.1 h;rw[xS O q p h2,Ga h1]
def Gb(B:Fxr):Prop:=∀nm ks p,B nm ks=some p→p.len=ks.len
theorem IM{B:Fxr}(hB:Gb B){h:Hd}{ks p:Nds}(hh:hdF B h ks=some p):p.len=ks.len:=by
 unfold hdF at hh;split at hh
 ·split at hh
  ·exact tK _ _ hh
  ·exact hB _ _ _ hh
 ·cases hh;rfl
theorem lM{C:Wd→Nat}{W:Wri}{B:Fxr}:∀(l:Its) (ks p:Nds),aO C W B l ks=some p→p.len=ks.len
 | .nil,ks,p,h=>by unfold aO at h;cases h;rfl
 | .cons h l,.nil,p,hh=>by unfold aO at hh;cases hh;rfl
 | .when ..,.nil,p,h=>by unfold aO at h;cases h;rfl
 | .cons h l,.cons a b c d e f g r,p,hh=>by
  unfold aO at hh;obtain⟨g',_,h2⟩:=Option.bind_eq_some_iff.1 hh;obtain⟨q,h3,rfl⟩:=Option.map_eq_some_iff.1 h2;simp only[Nds.len,lM l r q h3]
 | .when p0 q0 body l,.cons a b c d e f g r,p,hh=>by
  unfold aO at hh;obtain⟨g',_,h2⟩:=Option.bind_eq_some_iff.1 hh;obtain⟨q,h3,rfl⟩:=Option.map_eq_some_iff.1 h2;simp only[Nds.len,lM l r q h3]
theorem xT{C:Wd→Nat}{W:Wri}{B:Fxr}{l:Its}{ks p:Nds}(h:fu C W B l ks=some p):p.len=ks.len:=by
 unfold fu at h;obtain⟨q,h1,h2⟩:=Option.bind_eq_some_iff.1 h;rw[xS _ _ _ h2,lM _ _ _ h1]
theorem qU{C:Wd→Nat}:∀L:List Ty,Gb (dn C L)
 |[],nm,ks,p,h=>by cases h;rfl
 |t::r,nm,ks,p,h=>by
  unfold dn at h;split at h
  ·exact xT h
  ·exact qU r nm ks p h
def xU(f:Nds→Option Nds)(q r:Nds):Option Nds:=(dI f r).map (q.app ·)
theorem Ab{f:Nds→Option Nds}{q r:Nds}{d:Nd}(h:f d.kids=none):xU f q (d.put r)=none:=by
 show((dI f (.cons d.name d.kind d.at_ d.size d.val d.text d.kids r)).map _)=none;unfold dI;rw[h];rfl
theorem Ac{f:Nds→Option Nds}{q r g:Nds}{d:Nd}(h:f d.kids=some g):xU f q (d.put r)=xU f (q.app (Nd.put {d with kids:=g} .nil)) r:=by
 show((dI f (.cons d.name d.kind d.at_ d.size d.val d.text d.kids r)).map _)=(dI f r).map _
 conv=>lhs;unfold dI
 rw[h];simp only[Option.bind_some,Option.map_map]
 congr 1
 funext z
 simp only[Function.comp,Nds.dM];rfl
def whF(C:Wd→Nat)(W:Wri)(B:Fxr)(body:Its)(e:Int)(g:Nds):Option Nds:=if e=0 then some g else fu C W B body g
def mS(C:Wd→Nat)(W:Wri)(B:Fxr)(q:Nds)(l:Its)(r:Nds):Option Nds:=(aO C W B l r).map (q.app ·)
theorem sn{C:Wd→Nat}{W:Wri}{B:Fxr}{q r:Nds}{h:Hd}{l:Its}{d:Nd}(hh:hdF B h d.kids=none):mS C W B q (.cons h l) (d.put r)=none:=by
 show((aO C W B (.cons h l) (.cons d.name d.kind d.at_ d.size d.val d.text d.kids r)).map _)=none;unfold aO;rw[hh];rfl
theorem Gc{C:Wd→Nat}{W:Wri}{B:Fxr}{q r g:Nds}{h:Hd}{l:Its}{d:Nd}(hh:hdF B h d.kids=some g):mS C W B q (.cons h l) (d.put r)=mS C W B (q.app (Nd.put {d with kids:=g} .nil)) l r:=by
 show((aO C W B (.cons h l) (.cons d.name d.kind d.at_ d.size d.val d.text d.kids r)).map _)=(aO C W B l r).map _
 conv=>lhs;unfold aO
 rw[hh];simp only[Option.bind_some,Option.map_map]
 congr 1
 funext z
 simp only[Function.comp,Nds.dM];rfl
theorem so{C:Wd→Nat}{W:Wri}{B:Fxr}{q r:Nds}{a:Nat}{c:Ex.X}{body l:Its}{d:Nd}(hh:whF C W B body d.val d.kids=none):mS C W B q (.when a c body l) (d.put r)=none:=by
 show((aO C W B (.when a c body l) (.cons d.name d.kind d.at_ d.size d.val d.text d.kids r)).map _)=none;unfold whF fu at hh
 conv=>lhs;unfold aO
 rw[hh];rfl
theorem Gd{C:Wd→Nat}{W:Wri}{B:Fxr}{q r g:Nds}{a:Nat}{c:Ex.X}{body l:Its}{d:Nd}(hh:whF C W B body d.val d.kids=some g):mS C W B q (.when a c body l) (d.put r)=mS C W B (q.app (Nd.put {d with kids:=g} .nil)) l r:=by
 show((aO C W B (.when a c body l) (.cons d.name d.kind d.at_ d.size d.val d.text d.kids r)).map _)=(aO C W B l r).map _;unfold whF fu at hh
 conv=>lhs;unfold aO
 rw[hh];simp only[Option.bind_some,Option.map_map]
 congr 1
 funext z
 simp only[Function.comp,Nds.dM];rfl
end Fx
end
section
open Go.RowKit
open Rd
theorem xV:(Tryz.prog.info? 3).map (fun i=>(i.zero,i.size,i.bytes))=some (some (.int .i64 0),1,8):=by kernel_rfl
def BA(R:List Tm.Sk)(out:List Nat):Int:=match Fx.next R out with
 |some k=>(k:Int)
 |none=> -1
theorem IN{R:List Tm.Sk}{out:List Nat}{k:Nat}(hk:k < R.length)(h1:∀j,j < k→Fx.ready R out j=false)(h2:Fx.ready R out k=true):Fx.next R out=some k:=by
 unfold Fx.next;rw[List.find?_range_eq_some];exact⟨h2,List.mem_range.2 hk,fun j hj=>by rw[h1 j hj];rfl⟩
theorem IP{R:List Tm.Sk}{out:List Nat}(h1:∀j,j < R.length→Fx.ready R out j=false):Fx.next R out=none:=by
 unfold Fx.next;rw[List.find?_eq_none];intro j hj;rw[h1 j (List.mem_range.1 hj)];simp
theorem DK(V w:World)(rb cap n lb ob on oc B:Nat)(l:Tm.Its)(ga oa:Option Addr)(bs:List Value)(out:List Nat)(hn:n=Tm.Its.len l)(hn2:n≤100000)(hon:on≤100000)(hR:Fx.jQ l.row)(h:OcS V w rb cap n l ga bs lb ob on oc B oa out):
  Calls Tryz.prog 120 #[.slice ga n cap,.func (.func 121) #[] #[.pointer (some ⟨lb,0,none⟩),.pointer (some ⟨ob,0,none⟩)]] w fun e w'=>e= .returned (.int .i64 (BA l.row out))∧Below w.heap.size w w':=by
 have hcap:n≤cap:=by rw[hn];exact aW h.it.own
 have HH:=hid h;have HN:=hid hn;have HR:=hid hR;clear h hn hR;go_enter Tryz.func120,Tryz.ntmps120;go_wp2_with fail;go_loopw [8] (fun v8 wr=>∃k:Nat,v8= .int .i64 k∧k≤n∧Hid (∀j,j < k→Fx.ready l.row out j=false)∧Hid (Below w.heap.size w wr)) (fun v8 _=>n - (intOf v8).toNat)
 case atStart=>exact⟨0,rfl,Nat.zero_le _,hid (fun j hj=>absurd hj (Nat.not_lt_zero _)),hid (Y4 _ _)⟩
 case round=>
  obtain⟨k,rfl,hk,HQ,HB⟩:=hrel
  by_cases hlt:k < n
  ·have hki:(k:Int) < (n:Int):=by omega
   have q1:decide ((k:Int) < (n:Int))=true:=Z9 hki;have q2:decide (k < n)=true:=Z9 hlt;obtain⟨x,rfl⟩:∃x,ga=some x:=by
    cases ga with
    |none=>have:=HH.out.it.own.aS.1;rw[← HN.out]at this;omega
    |some x=>exact⟨x,rfl⟩
   obtain⟨gb,rfl⟩:∃gb,x=⟨gb,0,none⟩:=⟨x.block,HH.out.it.own.row.1⟩;have hW:=HH.out.up HB.out;obtain⟨s,k0,k1,k4,k5,s3,b6,p8,a12,n12,c12,hs,hrow,hk0,hk4,hw4⟩:=hW.it.cells k (by rw[← HN.out];exact hlt);have HF:=hid (IK V wr rb cap n lb ob on oc B k l (some ⟨gb,0,none⟩) oa bs out HN.out hn2 hon hW s k0 k1 k4 k5 s3 b6 p8 a12 n12 c12 hk0 hk4 hs (fun hw=>HR.out.uniq k s hs hw) hlt);have HS:=hid hs;have HLT:=hid hlt;have c0:=hrow.cell 0 (by simp);have c1:=hrow.cell 1 (by simp);have c2:=hrow.cell 2 (by simp);have c3:=hrow.cell 3 (by simp);have c4:=hrow.cell 4 (by simp);have c5:=hrow.cell 5 (by simp);have c6:=hrow.cell 6 (by simp);have c7:=hrow.cell 7 (by simp);have c8:=hrow.cell 8 (by simp);have c9:=hrow.cell 9 (by simp);have c10:=hrow.cell 10 (by simp);have c11:=hrow.cell 11 (by simp);have c12:=hrow.cell 12 (by simp);simp only[aQ,Z0,Z1,Y2]at c0 c1 c2 c3 c4 c5 c6 c7 c8 c9 c10 c11 c12;clear hrow hs hk0 hk4 hw4 hW;go_wp2_with fail;refine HF.out.mono ?_;rintro e w2 ⟨rfl,hb2⟩;have HB2:=hid (HB.out.trans (hb2.mono HB.out.size));cases hc:Fx.ready l.row out k with
   |true=>
    have HC:=hid hc;clear hc hb2;go_wp2_with fail;go_ret;refine⟨?_,HB2.out⟩;unfold BA;rw[IN (by rw[Tm.cT,← HN.out];exact HLT.out) HQ.out HC.out];rfl
   |false=>
    have HC:=hid hc;clear hc hb2;go_wp2_with fail;go_roundw
    case rel=>exact⟨k+1,by go_num,by omega,hid (fun j hj=>by
     by_cases hjk:j < k
     ·exact HQ.out j hjk
     ·have:j=k:=by omega
      rw[this];exact HC.out),HB2⟩
    case measure=>simp[intOf];omega
  ·obtain rfl:k=n:=by omega
   have hd:decide ((k:Int) < (k:Int))=false:=by simp
   have hd2:decide (k < k)=false:=by simp
   go_wp2_with fail;go_ret;refine⟨?_,HB.out⟩;unfold BA;rw[IP (fun j hj=>HQ.out j (by rw[HN.out,← Tm.cT];exact hj))];rfl
theorem xW(L:List Nat)(k:Nat):cO ((L++[k]).map fun(i:Nat)=>(i:Int))=cO (L.map fun(i:Nat)=>(i:Int))++[.int .i64 (k:Nat)]:=by simp[cO]
structure OrS(V w W:World)(rb cap n:Nat)(l:Tm.Its)(ga:Option Addr)(bs:List Value)(oa:Option Addr)(oc:Nat)(out:List Nat):Prop where
 base:Below V.heap.size V w
 bel:Below w.heap.size w W
 oc:OcS V W rb cap n l ga bs w.heap.size (w.heap.size+1) out.length oc (w.heap.size+2) oa out
theorem OrS.push{V w W W':World}{rb cap n:Nat}{l:Tm.Its}{ga:Option Addr}{bs:List Value}{oa oa':Option Addr}{oc oc' k:Nat}{out:List Nat}(h:OrS V w W rb cap n l ga bs oa oc out)(hw:w.heap.size+2≤W.heap.size)
  (ho:ak W' (w.heap.size+2) 3 1 oa' (out.length+1) oc' (cO (out.map fun(i:Nat)=>(i:Int))++[.int .i64 (k:Nat)]))(hg:W.grownBy W' (blk oa))(hoff:∀x,oa=some x→w.heap.size+2≤x.block):
  OrS V w (W'.setCell ⟨w.heap.size+1,0,none⟩ (.slice oa' (out.length+1) oc')) rb cap n l ga bs oa' oc' (out++[k]):=by
 have hne:∀b,b < w.heap.size+2→some b≠blk oa:=fun b hb e=>by
  cases ha:oa with
  |none=>rw[ha]at e;cases e
  |some x=>rw[ha]at e;simp only[blk,Option.map_some]at e;injection e with e;have:=hoff x ha;omega
 have hkeep:∀b,b < w.heap.size+2→W'.heap[b]? =W.heap[b]? :=fun b hb=>hg.block b (by omega) (hne b hb)
 have hb2:Below (w.heap.size+2) W W':=⟨hg.os,hg.tape,hg.output,hg.size,hkeep⟩;have hbel:Below w.heap.size w W':=h.bel.trans (hb2.mono (by omega));have hr2:=(h.oc.r2.of_heap (hkeep _ (by omega))).ax 0 (by simp) (.slice oa' (out.length+1) oc');have hbs:=hbel.setCell (p:=⟨w.heap.size+1,0,none⟩) (show w.heap.size≤w.heap.size+1 by omega) (.slice oa' (out.length+1) oc');refine⟨h.base,hbs,?_,?_,?_,?_,rfl⟩
 ·exact⟨h.oc.it.own,h.oc.it.enc,h.base.trans (hbs.mono h.base.size)⟩
 ·exact(h.oc.r1.of_heap (hkeep _ (by omega))).far (p:=⟨w.heap.size+1,0,none⟩) (show w.heap.size≠w.heap.size+1 by omega) _
 ·rw[Z7];exact hr2
 ·rw[xW,Z7];exact ho.far (p:=⟨w.heap.size+1,0,none⟩) (fun x hx=>by subst hx;have:=ho.lt.1;simp only[];omega) _
def JW(o:Option Value):Nat:=match o with
 |some (.slice _ n _)=>n
 |_=>0
theorem Kt{R:List Tm.Sk}{k:Nat}{s:Tm.Sk}(h:R[k]? =some s):Fx.kN R k=Fx.xB s.ay:=by unfold Fx.kN;rw[h]
theorem Ge(p:Nat→Bool)(k:Nat):((List.range k).filter p).length≤k:=by
 have:=List.length_filter_le p (List.range k);simpa using this
theorem JX{R:List Tm.Sk}{m k:Nat}{out:List Nat}(h:Fx.mC R m out=Fx.ord R)(hk:Fx.next R out=some k):∃m',Fx.mC R m' (out++[k])=Fx.ord R:=by
 cases m with
 |zero=>
  have h2:out=Fx.ord R:=h;rw[h2,Fx.Iw]at hk;cases hk
 |succ m=>
  refine⟨m,?_⟩;rw[← h]
  conv=>rhs;unfold Fx.mC
  rw[hk]
theorem Gf{R:List Tm.Sk}{m:Nat}{out:List Nat}(h:Fx.mC R m out=Fx.ord R)(hk:Fx.next R out=none):out=Fx.ord R:=by
 rw[← h];cases m with
 |zero=>rfl
 |succ m=>unfold Fx.mC;rw[hk]
theorem qV{R:List Tm.Sk}{out:List Nat}(h:Fx.Good R out):out.length≤R.length:=by
 have h2:=List.Nodup.length_le_of_subset h.nodup (l₂:=List.range R.length) (fun i hi=>List.mem_range.2 (h.lt i hi));simpa using h2
theorem DL(V w:World)(rb cap n:Nat)(l:Tm.Its)(ga:Option Addr)(bs:List Value)(hn:n=Tm.Its.len l)(hn2:n≤100000)(hR:Fx.jQ l.row)(h:ItV V w rb l ga cap bs):
  Calls Tryz.prog 98 #[.slice ga n cap] w fun e w'=>Below w.heap.size w w'∧∃oa oc,e= .returned (.slice oa (Fx.ord l.row).length oc)∧ak w' w.heap.size 3 1 oa (Fx.ord l.row).length oc (cO ((Fx.ord l.row).map fun(i:Nat)=>(i:Int))):=by
 have hcap:n≤cap:=by rw[hn];exact aW h.own
 obtain⟨V1,hV1⟩:∃V1,V1=(w.alloc (.cells #[.slice ga n cap] 63)).alloc (.cells #[.slice none 0 0] 40):=⟨_,rfl⟩;have hb1:Below w.heap.size w V1:=by rw[hV1];exact((Y4 _ _).alloc (Z5 _) _).alloc (by simp) _
 have hs0:OrS V w V1 rb cap n l ga bs none 0 []:=by
  refine⟨h.bel,hb1,h.up hb1,?_,?_,ak.nil _ _ _ _,rfl⟩ <;> rw[hV1]
  ·exact(ae.new w _ _).alloc _
  ·exact ae.iI _ _ (by simp) _ _
 have hz1:w.heap.size+2≤V1.heap.size:=by rw[hV1];simp
 have HS0:=hid hs0;have HV1:=hid hV1;have HN:=hid hn;have HR:=hid hR;have HZ1:=hid hz1;have hq1:=hs0.oc.r1.cell0 0 (by simp);simp only[Z0]at hq1;rw[hV1]at hq1;have HIX:=hid (fun W on oc oa out (hon:on≤100000) hS=>DK V W rb cap n w.heap.size (w.heap.size+1) on oc (w.heap.size+2) l ga oa bs out hn (by omega) hon hR hS);clear hV1 hs0 hb1 h hR hn hz1;go_enter Tryz.func98,Tryz.ntmps98;go_wp2_with fail;rw[← HV1.out];go_loopw [8] (fun v8 wr=>∃(k:Nat) (oa:Option Addr) (oc:Nat),v8= .int .i64 k∧k≤n∧Hid (OrS V w wr rb cap n l ga bs oa oc ((List.range k).filter (Fx.kN l.row)))∧Hid (w.heap.size+2≤wr.heap.size)) (fun v8 _=>n - (intOf v8).toNat)
 case atStart=>exact⟨0,none,0,rfl,Nat.zero_le _,HS0,HZ1⟩
 case round=>
  clear hq1;obtain⟨k,oa,oc,rfl,hk,HS,HZ⟩:=hrel;have g1:=HS.out.oc.r1.cell0 0 (by simp);have g2:=HS.out.oc.r2.cell0 0 (by simp);simp only[Z0]at g1 g2
  by_cases hlt:k < n
  ·have hki:(k:Int) < (n:Int):=by omega
   have q1:decide ((k:Int) < (n:Int))=true:=Z9 hki;have q2:decide (k < n)=true:=Z9 hlt;obtain⟨x,rfl⟩:∃x,ga=some x:=by
    cases ga with
    |none=>have:=HS.out.oc.it.own.aS.1;rw[← HN.out]at this;omega
    |some x=>exact⟨x,rfl⟩
   obtain⟨gb,rfl⟩:∃gb,x=⟨gb,0,none⟩:=⟨x.block,HS.out.oc.it.own.row.1⟩;obtain⟨s,k0,k1,k4,k5,s3,b6,p8,a12,n12,c12,hs,hrow,hk0,hk4,hw4⟩:=HS.out.oc.it.cells k (by rw[← HN.out];exact hlt);have c9:=hrow.cell 9 (by simp);simp only[aQ,Z0,Z1]at c9;have HSC:=hid (Kt hs);have HLT:=hid hlt;clear hrow hk0 hk4 hw4 hlt;cases hsc:Fx.xB s.ay with
   |false=>
    have e9:(av s.ay).1=0∨(av s.ay).1=3:=by cases hr:s.ay <;> rw[hr]at hsc <;> simp[av,Fx.xB]at hsc⊢
    have q3:(((av s.ay).1:Nat):Int)≠1∧(((av s.ay).1:Nat):Int)≠2:=by omega
    have q4:((((av s.ay).1:Nat):Int)==1)=false:=Z8.2 q3.1;have q5:((((av s.ay).1:Nat):Int)==2)=false:=Z8.2 q3.2;have q6:((av s.ay).1==1)=false:=Z8.2 (by omega);have q7:((av s.ay).1==2)=false:=Z8.2 (by omega);have HF:=hid (show(List.range (k+1)).filter (Fx.kN l.row)=(List.range k).filter (Fx.kN l.row) by rw[List.range_succ,List.filter_append,List.filter_cons,HSC.out,hsc];simp);clear e9 q3 hs hsc;go_wp2_with fail;go_roundw
    case rel=>exact⟨k+1,oa,oc,by go_num,by have:=HLT.out;omega,hid (by rw[HF.out];exact HS.out),HZ⟩
    case measure=>have:=HLT.out;simp[intOf];omega
   |true=>
    have e9:(av s.ay).1=1∨(av s.ay).1=2:=by cases hr:s.ay <;> rw[hr]at hsc <;> simp[av,Fx.xB]at hsc⊢
    have HF:=hid (show(List.range (k+1)).filter (Fx.kN l.row)=(List.range k).filter (Fx.kN l.row)++[k] by rw[List.range_succ,List.filter_append,List.filter_cons,HSC.out,hsc];simp);obtain⟨out,hout⟩:∃out,out=(List.range k).filter (Fx.kN l.row):=⟨_,rfl⟩;rw[← hout]at HS HF g2;have hol:out.length≤k:=by rw[hout];exact Ge _ _
    have hml:out.length+1≤maxLen:=by unfold maxLen;omega
    have hby:(out.length+1) * 8≤140737488355328:=by omega
    have HOW:=hid HS.out.oc.own;have f2:=HS.out.oc.r2.frozen0 0 (by simp);obtain⟨m,hm⟩:∃m,m=out.length:=⟨_,rfl⟩;rw[← hm]at g2 hml hby HOW;have HM:=hid hm;have HPU:=hid (fun a' c' W' ho hg=>HS.out.push (oa':=a') (oc':=c') (W':=W') (k:=k) HZ.out ho hg (fun x hx=>by have:=HS.out.oc.own;subst hx;exact this.lt.1));rw[← hm]at HPU;have HKE:Hid (∀W',wr.grownBy W' (blk oa)→W'.cell? ⟨w.heap.size+1,0,none⟩=some (.slice oa m oc)∧W'.frozen? ⟨w.heap.size+1,0,none⟩=false∧w.heap.size+2≤W'.heap.size):=hid (fun W' hg=>by
     have hkeep:W'.heap[w.heap.size+1]? =wr.heap[w.heap.size+1]? :=hg.block _ (by have:=HZ.out;omega) (fun e=>by
      cases ha:oa with
      |none=>rw[ha]at e;cases e
      |some x=>
       rw[ha]at e;simp only[blk,Option.map_some]at e;injection e with e
       have:=HS.out.oc.own;rw[ha]at this;have:=this.lt.1;omega)
     have hr:=HS.out.oc.r2.of_heap hkeep;have:=hr.cell0 0 (by simp);simp only[Z0]at this;rw[← HM.out]at this;exact⟨this,hr.frozen0 0 (by simp),Nat.le_trans HZ.out hg.size⟩)
    clear hs hsc hout hol hm;rcases e9 with e9|e9
    all_goals
     rw[e9]at c9;go_wp2_with (with_reducible refine bS _ rfl _ _ 40 rfl (w.heap.size+2) 3 (.int .i64 0) 1 8 Tryz.underlying40 xV rfl (by decide) oa m oc _ rfl HOW.out [.int .i64 (k:Nat)] rfl (by simp[Value.oneCell']) rfl hml hby HZ.out ?_;intro a' cap' w' hown' hgrow hloc hsz' hex;have HPS:=hid (HPU.out a' cap' w' hown' hgrow);obtain⟨y0,z0,hz⟩:=HKE.out w' hgrow;have HZZ:=hid hz;clear hown' hgrow hloc hsz' hex hz);go_roundw
     case rel=>exact⟨k+1,a',cap',by go_num,by have:=HLT.out;omega,hid (by rw[HF.out];exact HPS.out),hid (by simpa using HZZ.out)⟩
     case measure=>have:=HLT.out;simp[intOf];omega
  ·obtain rfl:k=n:=by omega
   have hd:decide ((k:Int) < (k:Int))=false:=by simp
   have hd2:decide (k < k)=false:=by simp
   have hrl:l.row.length=k:=by rw[Tm.cT,← HN.out]
   have h0:(List.range k).filter (Fx.kN l.row)=Fx.DB l.row:=by unfold Fx.DB;rw[hrl]
   rw[h0]at HS g2;have HG:=hid (And.intro (Fx.FK l.row) (show ∃m,Fx.mC l.row m (Fx.DB l.row)=Fx.ord l.row from⟨_,rfl⟩));have HRL:=hid hrl;clear hrl h0;go_wp2_with fail;go_loopw [5] (fun v5 wt=>∃(out:List Nat) (oa:Option Addr) (oc:Nat),Hid (OrS V w wt rb cap k l ga bs oa oc out)∧Hid (Fx.Good l.row out∧∃m,Fx.mC l.row m out=Fx.ord l.row)∧Hid (w.heap.size+2≤wt.heap.size)) (fun _ wt=>k - JW (wt.cell? ⟨w.heap.size+1,0,none⟩))
   case atStart=>exact⟨_,oa,oc,HS,HG,HZ⟩
   case round=>
    clear g1 g2 HS HG HZ;obtain⟨out,oa,oc,HS,HG,HZ⟩:=hrel;have g1:=HS.out.oc.r1.cell0 0 (by simp);have g2:=HS.out.oc.r2.cell0 0 (by simp);simp only[Z0]at g1 g2;have hol:out.length≤k:=by rw[← HRL.out];exact qV HG.out.1
    have HIC:=hid (fun(W:World) hS=>HIX.out W out.length oc oa out (by omega) hS);have HME:=hid g2;obtain⟨nx,hnx⟩:∃nx,nx=Fx.next l.row out:=⟨_,rfl⟩;have HNX:=hid hnx;have HOL:=hid hol;clear hnx hol;go_wp2_with fail;refine(HIC.out _ HS.out.oc).mono ?_;rintro e w2 ⟨rfl,hb2⟩;unfold BA;rw[← HNX.out];have hS2:OrS V w w2 rb cap k l ga bs oa oc out:=⟨HS.out.base,HS.out.bel.trans (hb2.mono HS.out.bel.size),HS.out.oc.up hb2⟩;have HS2:=hid hS2;have g3:=hS2.oc.r2.cell0 0 (by simp);simp only[Z0]at g3;have HZ2:=hid (Nat.le_trans HZ.out hb2.size);cases nx with
    |none=>
     have HST:=hid (Gf HG.out.2.choose_spec HNX.out.symm);clear hb2 hS2;go_wp2_with fail;go_ret;refine⟨HS2.out.bel,oa,oc,by rw[HST.out];rfl,?_⟩;rw[← HST.out];exact HS2.out.oc.own.mono (by omega)
    |some j=>
     obtain⟨m',hm'⟩:=JX HG.out.2.choose_spec HNX.out.symm;have hgd:=Fx.nY HG.out.1 (Fx.nX HNX.out.symm);have HG2:=hid (And.intro hgd (show ∃m,Fx.mC l.row m (out++[j])=Fx.ord l.row from⟨m',hm'⟩));have hol2:out.length+1≤k:=by have:=qV hgd;rw[HRL.out,Z7]at this;exact this
     have q3:decide ((j:Int) < 0)=false:=Y9 (by omega);have hml:out.length+1≤maxLen:=by unfold maxLen;omega
     have hby:(out.length+1) * 8≤140737488355328:=by omega
     have HOW:=hid HS2.out.oc.own;obtain⟨m,hm⟩:∃m,m=out.length:=⟨_,rfl⟩;rw[← hm]at g3 hml hby HOW hol2 HME;have HM:=hid hm;have HO2:=hid hol2;have HPU:=hid (fun a' c' W' ho hg=>HS2.out.push (oa':=a') (oc':=c') (W':=W') (k:=j) HZ2.out ho hg (fun x hx=>by have:=HS2.out.oc.own;subst hx;exact this.lt.1));rw[← hm]at HPU;have HKE:Hid (∀W',w2.grownBy W' (blk oa)→W'.cell? ⟨w.heap.size+1,0,none⟩=some (.slice oa m oc)∧W'.frozen? ⟨w.heap.size+1,0,none⟩=false∧w.heap.size+2≤W'.heap.size):=hid (fun W' hg=>by
      have hkeep:W'.heap[w.heap.size+1]? =w2.heap[w.heap.size+1]? :=hg.block _ (by have:=HZ2.out;omega) (fun e=>by
       cases ha:oa with
       |none=>rw[ha]at e;cases e
       |some x=>
        rw[ha]at e;simp only[blk,Option.map_some]at e;injection e with e
        have:=HS2.out.oc.own;rw[ha]at this;have:=this.lt.1;omega)
      have hr:=HS2.out.oc.r2.of_heap hkeep;have:=hr.cell0 0 (by simp);simp only[Z0]at this;rw[← HM.out]at this;exact⟨this,hr.frozen0 0 (by simp),Nat.le_trans HZ2.out hg.size⟩)
     clear hm' hgd hm hb2 hS2 hol2 g1 g2;go_wp2_with (with_reducible refine bS _ rfl _ _ 40 rfl (w.heap.size+2) 3 (.int .i64 0) 1 8 Tryz.underlying40 xV rfl (by decide) oa m oc _ rfl HOW.out [.int .i64 (j:Nat)] rfl (by simp[Value.oneCell']) rfl hml hby HZ2.out ?_;intro a' cap' w' hown' hgrow hloc hsz' hex;have HPS:=hid (HPU.out a' cap' w' hown' hgrow);obtain⟨y0,z0,hz⟩:=HKE.out w' hgrow;have HZZ:=hid hz;clear hown' hgrow hloc hsz' hex hz);go_roundw
     case rel=>exact⟨out++[j],a',cap',HPS,HG2,hid (by simpa using HZZ.out)⟩
     case measure=>
      have e1:=HPS.out.oc.r2.cell0 0 (by simp);simp only[Z0]at e1;rw[e1,HME.out];show k - (out++[j]).length < k - m;rw[Z7,← HM.out];have:=HO2.out;simp only[Z6,Y3];omega
end
section
open Go Go.RowKit
open Rd
open Ly
theorem xX(k:Tm.Knd):((Tm.aJ k:Nat):Int)≠4∧Tm.aJ k≠4:=by cases k <;> simp[Tm.aJ]
theorem qW(k:Tm.Knd):(((Tm.aJ k:Nat):Int)==4)=false∧(Tm.aJ k==4)=false:=⟨Z8.2 (xX k).1,Z8.2 (xX k).2⟩
theorem DM{k:Tm.Knd}(h:∀t,k≠.struct t):(((Tm.aJ k:Nat):Int)==3)=false∧(Tm.aJ k==3)=false∧(((Tm.aJ k:Nat):Int)!=3)=true∧(Tm.aJ k !=3)=true:=by
 cases k with
 |struct t=>exact absurd rfl (h t)
 |scalar w=>exact⟨rfl,rfl,rfl,rfl⟩
 |bytes=>exact⟨rfl,rfl,rfl,rfl⟩
theorem oP(U w:World)(rb n cap gi oi gn on B c2 m:Nat)(a g2:Option Addr)(b2:List Nat)(vs2:List Value)(cv:Value)(h:Tm.Hd)(ks:Nds)(hU:Below U.heap.size U w)(hrow:ae U gi oi 70 (Tm.ag h cv))(hk:∀t,h.k≠.struct t)(hK:aM w B ks g2 c2 b2 vs2):
  Calls Tryz.prog 97 #[.agg #[.slice a n cap],.pointer (some ⟨gi,oi,none⟩),.pointer (some ⟨gn,on,none⟩)] w (ep w B g2 c2 b2 (some ks)):=by
 obtain⟨V1,hV1⟩:∃V1,V1=w.alloc (.cells #[.slice a n cap] 75):=⟨_,rfl⟩;have hb1:Below w.heap.size w V1:=by rw[hV1];exact(Y4 _ _).alloc (Z5 _) _
 have hr1:=(hrow.below hU hrow.lt).below hb1 (Nat.lt_of_lt_of_le hrow.lt hU.size);have c0:=hr1.cell 0 (by simp[Tm.aj]);simp only[Tm.ag,Z0,Z1,Y2]at c0;rw[hV1]at c0;obtain⟨q1,q2⟩:=qW h.k;obtain⟨q3,q4,q5,q6⟩:=DM hk;have HFIN:=hid (show ep w B g2 c2 b2 (some ks) (.returned .nilIface) V1 from⟨Mut.aA hb1,_,rfl,rfl,vs2,hK.an fun b _ hl=>hb1.block b hl⟩);have HV1:=hid hV1;clear hU hrow hk hK hb1 hr1 hV1;go_enter Tryz.func97,Tryz.ntmps97;go_wp2_with fail;go_ret;have:=HFIN.out;rw[HV1.out]at this;exact this
theorem DN(U w:World)(rb n cap gi oi gn on B c2 m ai:Nat)(a g2:Option Addr)(b2:List Nat)(vs2:List Value)(cv sv:Value)(d:Nd)(hU:Below U.heap.size U w)(hrow:ae U gi oi 70 (Tm.au ai cv sv))(hn:ae w gn on 28 (ab d.name d.kind d.at_ d.size 0 d.text (.slice g2 d.kids.len c2)))(hK:aM w B d.kids g2 c2 b2 vs2):
  Calls Tryz.prog 97 #[.agg #[.slice a n cap],.pointer (some ⟨gi,oi,none⟩),.pointer (some ⟨gn,on,none⟩)] w (ep w B g2 c2 b2 (some d.kids)):=by
 obtain⟨V1,hV1⟩:∃V1,V1=w.alloc (.cells #[.slice a n cap] 75):=⟨_,rfl⟩;have hb1:Below w.heap.size w V1:=by rw[hV1];exact(Y4 _ _).alloc (Z5 _) _
 have hr1:=(hrow.below hU hrow.lt).below hb1 (Nat.lt_of_lt_of_le hrow.lt hU.size);have c0:=hr1.cell 0 (by simp[Tm.au]);have e4:=(hn.below hb1 hn.lt).cell 4 (by simp[ab]);simp only[Tm.au,ab,Z0,Z1,Y2]at c0 e4;rw[hV1]at c0 e4;have HFIN:=hid (show ep w B g2 c2 b2 (some d.kids) (.returned .nilIface) V1 from⟨Mut.aA hb1,_,rfl,rfl,vs2,hK.an fun b _ hl=>hb1.block b hl⟩);have HV1:=hid hV1;clear hU hrow hK hb1 hr1 hV1 hn;go_enter Tryz.func97,Tryz.ntmps97;go_wp2_with fail;go_ret;have:=HFIN.out;rw[HV1.out]at this;exact this
theorem kG{U:World}{rb cap:Nat}{tys:List Tm.Ty}{a:Option Addr}(hE:FxE U rb tys a cap){t:Tm.Ty}(ht:t∈tys)(X:World)(hU:Below U.heap.size U X):
  Calls Tryz.prog 71 #[.agg #[.slice a tys.length cap],.string (aa t.name)] X fun e w'=>Below X.heap.size X w'∧∃ga capb bs,e= .returned (.slice ga t.items.len capb)∧ak U (rb+1) 70 13 ga t.items.len capb bs∧Tm.bu U rb t.items bs:=by
 obtain⟨Bt,tvs,h1,h2⟩:=hE.ex;refine(zR tys U X t.name hU rb cap Bt a tvs h1 h2 hE.few (List.mem_map.2 ⟨t,ht,rfl⟩)).mono ?_;rintro e w' ⟨hb,t2,ht2,ga,capb,bs,hn,he,ho,hc⟩;have:=hE.same ht2 ht hn;subst this;exact⟨hb,ga,capb,bs,he,ho,hc⟩
theorem Gg(U w:World)(rb cap gi oi gn on B c2 ai capc:Nat)(tys:List Tm.Ty)(a g2 gc:Option Addr)(b2:List Nat)(vs2 bsc:List Value)(cv:Value)(d:Nd)(W:Wri)(F:Nds→Option Nds)(body:Tm.Its)(hC:xQ U rb tys a cap W F body)(hU:Below U.heap.size U w)(hrow:ae U gi oi 70 (Tm.au ai cv (.slice gc body.len capc)))(hoc:ak U (rb+1) 70 13 gc body.len capc bsc)(hec:Tm.bu U rb body bsc)
  (hn:ae w gn on 28 (ab d.name d.kind d.at_ d.size d.val d.text (.slice g2 d.kids.len c2)))(hv:d.val≠0)(hK:aM w B d.kids g2 c2 b2 vs2)(hB:U.heap.size≤B)(hgn:gn∉aB g2++b2)(hok:d.kids.ok)(htot:d.kids.tot≤800000)(hw:(aF W body d.kids).isSome=true):
  Calls Tryz.prog 97 #[.agg #[.slice a tys.length cap],.pointer (some ⟨gi,oi,none⟩),.pointer (some ⟨gn,on,none⟩)] w (ep w B g2 c2 b2 (F d.kids)):=by
 obtain⟨n,hnn⟩:∃n,n=tys.length:=⟨_,rfl⟩;obtain⟨m,hm⟩:∃m,m=d.kids.len:=⟨_,rfl⟩;obtain⟨mb,hmb⟩:∃mb,mb=body.len:=⟨_,rfl⟩;obtain⟨V1,hV1⟩:∃V1,V1=w.alloc (.cells #[.slice a n cap] 75):=⟨_,rfl⟩;have hb1:Below w.heap.size w V1:=by rw[hV1];exact(Y4 _ _).alloc (Z5 _) _
 have hr0:ae V1 w.heap.size 0 75 [.slice a n cap]:=by rw[hV1];exact ae.new w _ _
 have hr1:=(hrow.below hU hrow.lt).below hb1 (Nat.lt_of_lt_of_le hrow.lt hU.size);have hn1:=hn.below hb1 hn.lt;have c0:=hr1.cell 0 (by simp[Tm.au]);have e4:=hn1.cell 4 (by simp[ab]);simp only[Tm.au,ab,Z0,Z1,Y2]at c0 e4;rw[hV1]at c0 e4;have hmem:=hK.mem;have hgiB:gi < U.heap.size:=hrow.lt;have hgnw:gn < w.heap.size:=hn.lt;have hSS:∀X,Mut V1 X (aB g2++b2)→X.cell? ⟨w.heap.size,0,none⟩=some (.slice a n cap)∧X.cell? ⟨gi,oi+12,none⟩=some (.slice gc mb capc)∧X.cell? ⟨gn,on+6,none⟩=some (.slice g2 m c2):=by
  intro X hX;have k0:=(hr0.of_heap (hX.block w.heap.size hr0.lt (fun hm=>by have:=hmem _ hm;omega))).cell0 0 (by simp);have k1:=(hr1.of_heap (hX.block gi hr1.lt (fun hm=>by have:=hmem _ hm;omega))).cell 12 (by simp[Tm.au]);have k2:=(hn1.of_heap (hX.block gn hn1.lt hgn)).cell 6 (by simp[ab]);simp only[Tm.au,ab,Z0,Z1]at k0 k1 k2;rw[hmb,hm];exact⟨k0,k1,k2⟩
 have HSS:=hid hSS;have HBK:Hid (∀X,Below V1.heap.size V1 X→Calls Tryz.prog 70 #[.agg #[.slice a n cap],.slice gc mb capc,.slice g2 m c2] X (ep X B g2 c2 b2 (F d.kids))):=hid (fun X hX=>by
  have hwX:=hb1.trans (hX.mono hb1.size);rw[hnn,hmb,hm];exact hC X B c2 capc gc g2 bsc vs2 b2 d.kids (hU.trans (hwX.mono hU.size)) hoc hec (hK.an fun b _ hl=>hwX.block b hl) hB hok htot hw)
 have hS1:=hSS V1.drew (Mut.aA (Y4 _ _).drew);rw[hV1]at hS1;have q1:(d.val==0)=false:=Z8.2 hv;have q2:(d.val !=0)=true:=by rw[bne,q1];rfl
 have HV1:=hid hV1;have HB1:=hid hb1;rw[← hnn];obtain⟨fk,hfk⟩:∃fk,fk=F d.kids:=⟨_,rfl⟩;rw[← hfk]at HBK⊢;obtain⟨dv,hdv⟩:∃dv,dv=d.val:=⟨_,rfl⟩;rw[← hdv]at q1 q2 e4;clear hC hU hrow hoc hec hn hv hK hB hgn hok htot hw hb1 hr0 hr1 hn1 hSS hV1 hmem hgiB hgnw hm hmb hnn hfk hdv;go_enter Tryz.func97,Tryz.ntmps97;go_wp2_with fail;rw[← HV1.out]at hS1;rw[← HV1.out];go_region_held3 (fun X=>X.cell? ⟨w.heap.size,0,none⟩=some (.slice a n cap)∧X.cell? ⟨gi,oi+12,none⟩=some (.slice gc mb capc)∧X.cell? ⟨gn,on+6,none⟩=some (.slice g2 m c2))
  (first
   |exact hS1
   |assumption)
  (first
   |(go_at_call 70;(with_reducible refine(HBK.out _ ?_).mono ?_);(next=>exact(Y4 V1.heap.size V1).drew);(rintro e w5 ⟨hm5,v,rfl,hv5⟩);(have HM5:=hid (Mut.trans (Mut.aA (Y4 V1.heap.size V1).drew) hm5));(have HV5:=hid hv5);(have hS5:=HSS.out w5 HM5.out)))
 all_goals
  go_wp2_with fail;go_ret;exact⟨(Mut.aA HB1.out).trans HM5.out,v,rfl,HV5.out⟩
end
end Go.Proofs.YtlomecfhobehnaaGreatDoor
