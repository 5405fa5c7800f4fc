import Derived.Test.YtlomecfhobehnaaGreatDoorMgFixDrops33
set_option linter.all false
set_option maxRecDepth 100000
set_option maxHeartbeats 4000000
namespace Go.Proofs.YtlomecfhobehnaaGreatDoor
open Lib (hid)
section
open Go Go.RowKit
open Rd
open Ly
def bf(q:List Nat):List Int:=q.map fun(k:Nat)=>(k:Int)
structure AtS(U w wr:World)(rb B nb:Nat)(tys:List Tm.Ty)(root:Tm.Wd)(d:Nd)(ps:List Int)(i:Nat)(q:List Nat)(gn on:Nat)(x:Nd)(g:Option Addr)(c:Nat)(bl:List Nat)(vs:List Value)(upv xv lv:Value):Prop where
 bel:Below w.heap.size w wr
 foc:Foc wr B nb d q gn on x g c bl vs
 pre:ps.take i=bf q
 len:q.length=i
 cxt:Cxt U rb tys root x q lv xv
 tdy:Fx.Tdy x.kids
 x0:q=[]→xv= .pointer none
 x1:q≠[]→(∃gx ox,xv= .pointer (some ⟨gx,ox,none⟩)∧Itm U tys root x q gx ox)∧∃q' k y gu ou g' c' bl' vs',q=q'++[k]∧upv= .pointer (some ⟨gu,ou,none⟩)∧Foc wr B nb d q' gu ou y g' c' bl' vs'
def ry(U w:World)(B nb:Nat)(tys:List Tm.Ty)(root:Tm.Wd)(d:Nd)(ps:List Int)(e:Ending)(w':World):Prop:=Below w.heap.size w w'∧
 ((e= .returned (.tuple #[.pointer none,.pointer none,.pointer none])∧∀q:List Nat,ps=bf q→Fx.bX q d=none)∨
  ∃(q:List Nat) (x:Nd) (gn on:Nat) (g:Option Addr) (c:Nat) (bl:List Nat) (vs:List Value) (upv xv:Value),ps=bf q∧e= .returned (.tuple #[upv,.pointer (some ⟨gn,on,none⟩),xv])∧Foc w' B nb d q gn on x g c bl vs∧(q=[]→xv= .pointer none)∧
   (q≠[]→(∃gx ox,xv= .pointer (some ⟨gx,ox,none⟩)∧Itm U tys root x q gx ox)∧∃q' k y gu ou g' c' bl' vs',q=q'++[k]∧upv= .pointer (some ⟨gu,ou,none⟩)∧Foc w' B nb d q' gu ou y g' c' bl' vs'))
theorem Gv{ps:List Int}{i:Nat}(hi:i < ps.length)(hn:ps.getD i 0 < 0)(q:List Nat)(h:ps=bf q):False:=by
 subst h;unfold bf at hi hn;rw[List.length_map]at hi;rw[List.getD_eq_getElem?_getD,List.getElem?_map,Y1 hi]at hn;simp only[Option.map_some,Option.getD_some]at hn;omega
theorem Jb{ps:List Int}{i kn:Nat}{q q2:List Nat}(hi:i < ps.length)(hk:ps.getD i 0=(kn:Int))(hp:ps.take i=bf q)(hl:q.length=i)(h:ps=bf q2):∃q3,q2=q++kn::q3:=by
 subst h;unfold bf at hi hp hk;rw[List.length_map]at hi;rw[List.getD_eq_getElem?_getD,List.getElem?_map,Y1 hi]at hk;simp only[Option.map_some,Option.getD_some]at hk;have hk2:q2[i]=kn:=by omega
 rw[← List.map_take]at hp;have hq:q2.take i=q:=by
  have inj:∀(a b:List Nat),a.map (fun(k:Nat)=>(k:Int))=b.map (fun(k:Nat)=>(k:Int))→a=b:=by
   intro a
   induction a with
   |nil=>intro b h;cases b <;> simp_all
   |cons x a ih=>
    intro b h;cases b with
    |nil=>simp at h
    |cons y b=>
     simp only[List.map_cons,List.cons.injEq]at h;rw[ih b h.2,show x=y by omega]
  exact inj _ _ hp
 refine⟨q2.drop (i+1),?_⟩;rw[← hq,← hk2,← List.drop_eq_getElem_cons hi,List.take_append_drop]
theorem DW{ps:List Int}{i kn:Nat}{q:List Nat}(hi:i < ps.length)(hk:ps.getD i 0=(kn:Int))(hp:ps.take i=bf q):ps.take (i+1)=bf (q++[kn]):=by
 rw[List.take_add_one,hp];rw[List.getD_eq_getElem?_getD,Y1 hi]at hk;rw[Y1 hi];simp only[Option.getD_some]at hk;rw[hk];unfold bf;simp
theorem Ap:∀(k:Nat) (X:Nds),X.len≤k→Fx.nth k X=none
 |k,.nil,_=>by cases k <;> rfl
 |0,.cons a b c e f g x r,h=>absurd h (by show ¬r.len+1≤0;omega)
 |k+1,.cons a b c e f g x r,h=>Ap k r (by have:r.len+1≤k+1:=h;omega)
theorem Aq(U w:World)(rb B nb cap pc:Nat)(tys:List Tm.Ty)(a pa:Option Addr)(root:Tm.Wd)(d:Nd)(ps:List Int)(hE:FxE U rb tys a cap)(hU:Below U.heap.size U w)(hT:dX w B nb d)(hk3:d.kind=3)(hwr:(wrS tys.reverse root d.kids).isSome=true)(htd:Fx.Tdy d.kids)(htot:d.tot≤800000)
  (hps:∀X,Below w.heap.size w X→RdI X pa ps)(hpl:ps.length≤1000)(hpc:ps.length≤pc):
  Calls Tryz.prog 72 #[.agg #[.slice a tys.length cap],.string (aa root),.pointer (some ⟨nb,0,none⟩),.slice pa ps.length pc] w (ry U w B nb tys root d ps):=by
 obtain⟨n,hn⟩:∃n,n=tys.length:=⟨_,rfl⟩;obtain⟨pn,hpn⟩:∃pn,pn=ps.length:=⟨_,rfl⟩;obtain⟨t,htm,htn,r0,hr0,hw0,hi0⟩:=Fx.Ao tys.reverse root d.kids hwr;have htm2:t∈tys:=List.mem_reverse.1 htm;obtain⟨mb,hmb⟩:∃mb,mb=t.items.len:=⟨_,rfl⟩;obtain⟨V1,hV1⟩:∃V1,V1=w.alloc (.cells #[.slice a n cap] 75):=⟨_,rfl⟩;have hb1:Below w.heap.size w V1:=by rw[hV1];exact(Y4 _ _).alloc (Z5 _) _
 have hr4:ae V1 w.heap.size 0 75 [.slice a n cap]:=by rw[hV1];exact ae.new w _ _
 have HIT:Hid (∀X (t':Tm.Ty),t'∈tys→Below w.heap.size w X→Calls Tryz.prog 71 #[.agg #[.slice a n cap],.string (aa t'.name)] X fun e w'=>Below X.heap.size X w'∧∃ga capb bs,e= .returned (.slice ga t'.items.len capb)∧ak U (rb+1) 70 13 ga t'.items.len capb bs∧Tm.bu U rb t'.items bs):=hid (fun X t' ht' hX=>by
  rw[hn];exact kG hE ht' X (hU.trans (hX.mono hU.size)))
 have HI0:Hid (∀X,Below w.heap.size w X→Calls Tryz.prog 71 #[.agg #[.slice a n cap],.string (aa root)] X fun e w'=>Below X.heap.size X w'∧∃ga capb bs,e= .returned (.slice ga t.items.len capb)∧ak U (rb+1) 70 13 ga t.items.len capb bs∧Tm.bu U rb t.items bs):=hid (fun X hX=>by
  have:=HIT.out X t htm2 hX;rw[htn]at this;exact this)
 obtain⟨g0,c0,bl0,vs0,hf0⟩:=hT.foc;have HAT0:Hid (∀X ga capb bs,Below w.heap.size w X→ak U (rb+1) 70 13 ga t.items.len capb bs→Tm.bu U rb t.items bs→AtS U w X rb B nb tys root d ps 0 [] nb 0 d g0 c0 bl0 vs0 (.pointer none) (.pointer none) (.slice ga t.items.len capb)):=hid (fun X ga capb bs hX ho he=>
  ⟨hX,hf0.up hX,rfl,rfl,.its t.items r0 ga capb bs rfl (by omega) (fun x hx=>List.mem_reverse.1 (hr0 x hx)) hw0 ho he (fun k p=>hi0 (k::p)),htd,fun _=>rfl,fun h=>absurd rfl h⟩)
 have HPS:=hid hps;have HPL:=hid hpl;have HPN:=hid hpn;have HUB:Hid (∀X gx ox e ys,Below w.heap.size w X→ae U gx ox e ys→ae X gx ox e ys):=hid (fun X gx ox e ys hX hr=>(hr.below hU hr.lt).below hX (Nat.lt_of_lt_of_le hr.lt hU.size));have HV1:=hid hV1;have HB1:=hid hb1;have HR4:=hid hr4;have hpc2:pn≤pc:=by rw[hpn];exact hpc
 have q4:=hr4.cell0 0 (by simp);simp only[Z0]at q4;rw[hV1]at q4;obtain⟨tn,htn2⟩:∃tn,tn=t.items.len:=⟨_,rfl⟩;rw[← htn2]at HI0 HAT0;have HTN:=hid htn2;rw[← hpn,← hn];clear hE hU hT hk3 hwr htd htot hps hpl hpc hn hpn htm htn hr0 hw0 hi0 htm2 hmb hV1 hb1 hr4 hf0 htn2;go_enter Tryz.func72,Tryz.ntmps72;go_wp2_with fail;rw[← HV1.out];refine(HI0.out V1 HB1.out).mono ?_;rintro e w2 ⟨hb2,ga,capb,bs0,rfl,ho2,he2⟩;have HB2:=hid (HB1.out.trans (hb2.mono HB1.out.size));have HR2:=hid (HR4.out.below hb2 HR4.out.lt);have HS0:=hid (HAT0.out w2 ga capb bs0 HB2.out ho2 he2);clear ho2 he2 hb2 q4;go_wp2_with fail;go_loopw [8,9,10,11,20] (fun v8 v9 v10 v11 v20 wr=>∃(i:Nat) (q:List Nat) (gn on:Nat) (x:Nd) (g:Option Addr) (c:Nat) (bl:List Nat) (vs:List Value) (upv xv lv:Value),v20= .int .i64 i∧v9= .pointer (some ⟨gn,on,none⟩)∧upv=v8∧xv=v10∧lv=v11∧i≤pn∧Hid (AtS U w wr rb B nb tys root d ps i q gn on x g c bl vs upv xv lv)∧Hid (Below w2.heap.size w2 wr)) (fun _ _ _ _ v20 _=>pn - (intOf v20).toNat)
 case atStart=>exact⟨0,[],nb,0,d,g0,c0,bl0,vs0,_,_,_,rfl,rfl,rfl,rfl,rfl,Nat.zero_le _,HS0,hid (Y4 _ _)⟩
 case round=>
  obtain⟨i,q,gn,on,x,g,c,bl,vs,upv,xv,lv,rfl,rfl,rfl,rfl,rfl,hin,HS,HBW⟩:=hrel
  by_cases hlt:i < pn
  ·have hki:(i:Int) < (pn:Int):=by omega
   have q1:decide ((i:Int) < (pn:Int))=true:=Z9 hki;have q2:decide (i < pn)=true:=Z9 hlt;have HLT:=hid hlt;have hrd:=HPS.out wr HS.out.bel;obtain⟨px,rfl,_,hci⟩:=hrd i (by rw[← HPN.out];exact hlt);obtain⟨kz,hkz⟩:∃kz,kz=ps.getD i 0:=⟨_,rfl⟩;rw[← hkz]at hci;have HKZ:=hid hkz;have hr4:=HR2.out.below HBW.out HR2.out.lt;obtain⟨m,hm⟩:∃m,m=x.kids.len:=⟨_,rfl⟩;have hrow:=HS.out.foc.row;rw[← hm]at hrow;have c6:=hrow.cell 6 (by simp[ab]);have c1:=hrow.cell 1 (by simp[ab]);simp only[ab,Z0,Z1]at c6 c1;have HM:=hid hm;obtain⟨kd,hkd⟩:∃kd,kd=x.kind:=⟨_,rfl⟩;rw[← hkd]at c1;have HKD:=hid hkd;clear hkd;have HBS:=hid HS.out.bel;clear hrd hkz hm hrow
   by_cases hneg:kz < 0
   ·have x1:decide (kz < 0)=true:=Z9 hneg;have HX:=hid (show ∀q2:List Nat,ps=bf q2→Fx.bX q2 d=none from fun q2 h2=>(Gv (by rw[← HPN.out];exact HLT.out) (by rw[← HKZ.out];exact hneg) q2 h2).elim);clear hneg hlt hr4;go_wp2_with fail;refine bodyPost_ret (v:= .tuple #[.pointer none,.pointer none,.pointer none]) (by simp[results,Tryz.results72,go_sem];first|done|rfl) rfl ?_;exact⟨HBS.out,.inl ⟨rfl,HX.out⟩⟩
   ·have x1:decide (kz < 0)=false:=Y9 hneg;obtain⟨kn,rfl⟩:∃kn:Nat,kz=(kn:Int):=⟨kz.toNat,by omega⟩
    by_cases hge:m≤kn
    ·have x2:decide ((m:Int)≤(kn:Int))=true:=Z9 (by omega);have x3:decide (m≤kn)=true:=Z9 hge;have HX:=hid (show ∀q2:List Nat,ps=bf q2→Fx.bX q2 d=none from fun q2 h2=>by
      obtain⟨q3,rfl⟩:=Jb (by rw[← HPN.out];exact HLT.out) HKZ.out.symm HS.out.pre HS.out.len h2;exact Fx.tP kn q q3 d x HS.out.foc.get (Ap kn x.kids (by rw[← HM.out];exact hge)))
     clear hneg hge hlt hr4;go_wp2_with fail;refine bodyPost_ret (v:= .tuple #[.pointer none,.pointer none,.pointer none]) (by simp[results,Tryz.results72,go_sem];first|done|rfl) rfl ?_;exact⟨HBS.out,.inl ⟨rfl,HX.out⟩⟩
    ·have hkm:kn < m:=by omega
     have x2:decide ((m:Int)≤(kn:Int))=false:=Y9 (by omega);have x3:decide (m≤kn)=false:=Y9 hge;have hkm2:(kn:Int) < (m:Int):=by omega
     obtain⟨k1,d2,r,hsp,hkl⟩:=Fx.rq kn x.kids (by rw[← HM.out];exact hkm);obtain⟨gb,hgb⟩:∃gb,g=some ⟨gb,0,none⟩:=by
      cases hg:g with
      |none=>have h0:=HS.out.foc.kv.own;rw[hg]at h0;have:=h0.aS.1;rw[← HM.out]at this;omega
      |some y=>have h0:=HS.out.foc.kv.own;rw[hg]at h0;exact⟨y.block,by have:=h0.row.1;rw[← this]⟩
     subst hgb;have hmc:m≤c:=by rw[HM.out];exact aW HS.out.foc.kv.own
     obtain⟨g2,c2,b2,vs2,hf2⟩:=HS.out.foc.down hsp;rw[hkl]at hf2;have hnth:Fx.nth kn x.kids=some d2:=by rw[hsp,← hkl];exact Fx.vm k1 d2 r
     have htd2:=HS.out.tdy.nth hnth;have hd1:=hf2.row.cell 1 (by simp[ab]);simp only[ab,Z0,Z1]at hd1;have HF2:=hid hf2;have HTD:=hid htd2.2;have HPRE:=hid (DW (by rw[← HPN.out];exact HLT.out) HKZ.out.symm HS.out.pre);have HNEW:Hid (∀X lv gx ox,Below wr.heap.size wr X→Cxt U rb tys root d2 (q++[kn]) lv (.pointer (some ⟨gx,ox,none⟩))→Itm U tys root d2 (q++[kn]) gx ox→AtS U w X rb B nb tys root d ps (i+1) (q++[kn]) gb (kn * 7) d2 g2 c2 b2 vs2 (.pointer (some ⟨gn,on,none⟩)) (.pointer (some ⟨gx,ox,none⟩)) lv):=hid (fun X lv gx ox hX hc hit=>
      ⟨HBS.out.trans (hX.mono HBS.out.size),HF2.out.up hX,HPRE.out,by rw[Z7,HS.out.len];rfl,hc,HTD.out,fun h=>absurd h (by simp),fun _=>⟨⟨gx,ox,rfl,hit⟩,q,kn,x,gn,on,_,_,_,_,rfl,rfl,HS.out.foc.up hX⟩⟩)
     have HBX:Hid (∀X,Below wr.heap.size wr X→X.cell? ⟨w.heap.size,0,none⟩=some (.slice a n cap)):=hid (fun X hX=>by
      have k0:=(hr4.below hX hr4.lt).cell0 0 (by simp);simp only[Z0]at k0;exact k0)
     have hx4:=HBX.out wr (Y4 _ _);have HTD1:=hid htd2.1;obtain⟨dk,hdk⟩:∃dk,dk=d2.kind:=⟨_,rfl⟩;rw[← hdk]at hd1;have HDK:=hid hdk;clear hf2 htd2 hdk hr4 hneg hge;cases HS.out.cxt with
     |leaf hl=>
      exfalso;have:=HM.out;rw[hl]at this;simp only[Nds.len]at this;omega
     |its l r1 gi capi bs hlv hk9 hr hw ho he hi=>
      subst hlv;have hll:l.len=m:=by
       have h1:=(Fx.dO.1 hw).1;rw[Fx.gE]at h1;rw[h1,HM.out]
      obtain⟨gx,hgx⟩:∃gx,gi=some ⟨gx,0,none⟩:=by
       cases gi with
       |none=>have:=ho.aS.1;omega
       |some y=>exact⟨y.block,by have:=ho.row.1;rw[← this]⟩
      subst hgx;obtain⟨hsk,hitm⟩:=IZ (rb:=rb) (root:=root) (q:=q) hnth HTD1.out hr hw ho he hi;have hmi:m≤capi:=by rw[← hll];exact aW ho
      have y1:(kd==9)=false:=Z8.2 (by rw[HKD.out];exact hk9);have y2:((kd:Int)==9)=false:=by rw[Z8];have:=HKD.out;omega
      have y3:((kd:Int)!=9)=true:=by rw[bne,y2];rfl
      have y4:(kd !=9)=true:=by rw[bne,y1];rfl
      rw[hll];have HITM:=hid hitm;clear hnth hk9 hr hw ho he hi hll hsp hkl hitm hkm hlt;cases hsk with
      |wh ai cv2 gc nc cc hrow2 hc=>
       have hrx:=HUB.out wr gx (kn * 13) _ _ HBS.out hrow2;have e0:=hrx.cell 0 (by simp[Tm.au]);have e12:=hrx.cell 12 (by simp[Tm.au]);simp only[Tm.au,Z0,Z1,Y2]at e0 e12;have HNS:=hid (HNEW.out wr _ _ _ (Y4 _ _) hc HITM.out);clear hrow2 hc hrx;go_wp2_with fail;go_roundw
       case rel=>exact⟨i+1,q++[kn],gb,kn * 7,d2,g2,c2,b2,vs2,_,_,_,by first|rfl|rw[az HLT.out (show i≤100000 by have:=HPL.out;have:=HPN.out;have:=HLT.out;omega)]|rw[az HLT.out (show pn≤100000 by have:=HPL.out;have:=HPN.out;omega)],rfl,rfl,rfl,rfl,by have:=HLT.out;omega,HNS,HBW⟩
       case measure=>(try rw[az HLT.out (show pn≤100000 by have:=HPL.out;have:=HPN.out;omega)]);simp only[intOf];have:=HLT.out;omega
      |st h2 cv2 t2 hrow2 hk2 hd3 ht2 hc=>
       have hrx:=HUB.out wr gx (kn * 13) _ _ HBS.out hrow2;have e0:=hrx.cell 0 (by simp[Tm.aj]);simp only[Tm.ag,hk2,Tm.aJ,Z0,Z1,Y2]at e0;have hdk3:dk=3:=by rw[HDK.out];exact hd3
       subst hdk3;have HIT2:=hid (fun X (hX:Below w.heap.size w X)=>HIT.out X t2 ht2 hX);obtain⟨tl,htl⟩:∃tl,tl=t2.items.len:=⟨_,rfl⟩;obtain⟨tnm,htnm⟩:∃tnm,tnm=t2.name:=⟨_,rfl⟩;have HS3:Hid (∀X,Below wr.heap.size wr X→X.cell? ⟨w.heap.size,0,none⟩=some (.slice a n cap)∧X.cell? ⟨gx,kn * 13+3,none⟩=some (.string (aa tnm))):=hid (fun X hX=>by
        have k3:=(hrx.below hX hrx.lt).cell 3 (by simp[Tm.aj]);simp only[Tm.ag,hk2,Tm.bw,Z0,Z1]at k3;rw[← htnm]at k3;exact⟨HBX.out X hX,k3⟩)
       have HNS2:Hid (∀X gi capi bs,Below wr.heap.size wr X→ak U (rb+1) 70 13 gi tl capi bs→Tm.bu U rb t2.items bs→AtS U w X rb B nb tys root d ps (i+1) (q++[kn]) gb (kn * 7) d2 g2 c2 b2 vs2 (.pointer (some ⟨gn,on,none⟩)) (.pointer (some ⟨gx,kn * 13,none⟩)) (.slice gi tl capi)):=hid (fun X gi capi bs hX ho he=>by
        rw[htl]at ho⊢;exact HNEW.out X _ _ _ hX (hc gi capi bs ho he) HITM.out)
       rw[← htl,← htnm]at HIT2;have hS1:=HS3.out wr.drew (Y4 wr.heap.size wr).drew;clear hrow2 hk2 hd3 ht2 hc hrx htl htnm;go_wp2_with fail;go_region_held3 (fun X=>X.cell? ⟨w.heap.size,0,none⟩=some (.slice a n cap)∧X.cell? ⟨gx,kn * 13+3,none⟩=some (.string (aa tnm)))
        (first
         |exact hS1
         |assumption)
        (first
         |(go_at_call 71;(with_reducible refine(HIT2.out _ ?_).mono ?_);(next=>exact HBS.out.drew);(rintro e wi ⟨hbi,gai,capb2,bsi,rfl,hoi,hei⟩);(have HBI:=hid (Below.trans (Y4 wr.heap.size wr).drew hbi));(have HOE:=hid (And.intro hoi hei));(have hSi:=HS3.out wi HBI.out)))
       all_goals
        have HNS:=hid (HNS2.out wi gai capb2 bsi HBI.out HOE.out.1 HOE.out.2);go_wp2_with fail;go_roundw
        case rel=>exact⟨i+1,q++[kn],gb,kn * 7,d2,g2,c2,b2,vs2,_,_,_,by first|rfl|rw[az HLT.out (show i≤100000 by have:=HPL.out;have:=HPN.out;have:=HLT.out;omega)]|rw[az HLT.out (show pn≤100000 by have:=HPL.out;have:=HPN.out;omega)],rfl,rfl,rfl,rfl,by have:=HLT.out;omega,HNS,hid (HBW.out.trans (HBI.out.mono HBW.out.size))⟩
        case measure=>(try rw[az HLT.out (show pn≤100000 by have:=HPL.out;have:=HPN.out;omega)]);simp only[intOf];have:=HLT.out;omega
      |no h2 cv2 hrow2 hk2 hc=>
       have hrx:=HUB.out wr gx (kn * 13) _ _ HBS.out hrow2;have e0:=hrx.cell 0 (by simp[Tm.aj]);simp only[Tm.ag,Z0,Z1,Y2]at e0;obtain⟨n4,n4b⟩:=qW h2.k;have HNS:=hid (HNEW.out wr _ _ _ (Y4 _ _) (hc (.slice (some ⟨gx,0,none⟩) m capi)) HITM.out);have hk22:(∀t,h2.k≠.struct t)∨dk≠3:=by rw[HDK.out];exact hk2
       by_cases hs3:Tm.aJ h2.k=3
       ·have hdk3:dk≠3:=by
         rcases hk22 with h9|h9
         ·exfalso;cases hkk:h2.k with
          |struct t9=>exact h9 t9 hkk
          |scalar w9=>rw[hkk]at hs3;simp[Tm.aJ]at hs3
          |bytes=>rw[hkk]at hs3;simp[Tm.aJ]at hs3
         ·exact h9
        rw[hs3]at e0;have u1:(dk==3)=false:=Z8.2 hdk3;have u2:((dk:Int)==3)=false:=by rw[Z8];omega
        clear hrow2 hk2 hc hrx hk22 hs3 hdk3 n4 n4b;go_wp2_with fail;go_roundw
        case rel=>exact⟨i+1,q++[kn],gb,kn * 7,d2,g2,c2,b2,vs2,_,_,_,by first|rfl|rw[az HLT.out (show i≤100000 by have:=HPL.out;have:=HPN.out;have:=HLT.out;omega)]|rw[az HLT.out (show pn≤100000 by have:=HPL.out;have:=HPN.out;omega)],rfl,rfl,rfl,rfl,by have:=HLT.out;omega,HNS,HBW⟩
        case measure=>(try rw[az HLT.out (show pn≤100000 by have:=HPL.out;have:=HPN.out;omega)]);simp only[intOf];have:=HLT.out;omega
       ·have u1:(Tm.aJ h2.k==3)=false:=Z8.2 hs3;have u2:(((Tm.aJ h2.k:Nat):Int)==3)=false:=by rw[Z8];omega
        clear hrow2 hk2 hc hrx hk22 hs3;go_wp2_with fail;go_roundw
        case rel=>exact⟨i+1,q++[kn],gb,kn * 7,d2,g2,c2,b2,vs2,_,_,_,by first|rfl|rw[az HLT.out (show i≤100000 by have:=HPL.out;have:=HPN.out;have:=HLT.out;omega)]|rw[az HLT.out (show pn≤100000 by have:=HPL.out;have:=HPN.out;omega)],rfl,rfl,rfl,rfl,by have:=HLT.out;omega,HNS,HBW⟩
        case measure=>(try rw[az HLT.out (show pn≤100000 by have:=HPL.out;have:=HPN.out;omega)]);simp only[intOf];have:=HLT.out;omega
     |lst h r1 gx ox cv hxv hrow1 hk9 hr hw hi=>
      subst hxv;obtain⟨hsk,hitm⟩:=Ja (rb:=rb) (root:=root) (q:=q) hnth HTD1.out hrow1 hr hw hi;have y1:(kd==9)=true:=beq_iff_eq.2 (by rw[HKD.out];exact hk9);have y2:((kd:Int)==9)=true:=by rw[beq_iff_eq];have:=HKD.out;omega
      have y3:((kd:Int)!=9)=false:=by rw[bne,y2];rfl
      have y4:(kd !=9)=false:=by rw[bne,y1];rfl
      have HITM:=hid hitm;clear hnth hk9 hr hw hi hsp hkl hitm hrow1 hkm hlt;cases hsk with
      |wh ai cv2 gc nc cc hrow2 hc=>
       have hrx:=HUB.out wr gx (ox) _ _ HBS.out hrow2;have e0:=hrx.cell 0 (by simp[Tm.au]);have e12:=hrx.cell 12 (by simp[Tm.au]);simp only[Tm.au,Z0,Z1,Y2]at e0 e12;have HNS:=hid (HNEW.out wr _ _ _ (Y4 _ _) hc HITM.out);clear hrow2 hc hrx;go_wp2_with fail;go_roundw
       case rel=>exact⟨i+1,q++[kn],gb,kn * 7,d2,g2,c2,b2,vs2,_,_,_,by first|rfl|rw[az HLT.out (show i≤100000 by have:=HPL.out;have:=HPN.out;have:=HLT.out;omega)]|rw[az HLT.out (show pn≤100000 by have:=HPL.out;have:=HPN.out;omega)],rfl,rfl,rfl,rfl,by have:=HLT.out;omega,HNS,HBW⟩
       case measure=>(try rw[az HLT.out (show pn≤100000 by have:=HPL.out;have:=HPN.out;omega)]);simp only[intOf];have:=HLT.out;omega
      |st h2 cv2 t2 hrow2 hk2 hd3 ht2 hc=>
       have hrx:=HUB.out wr gx (ox) _ _ HBS.out hrow2;have e0:=hrx.cell 0 (by simp[Tm.aj]);simp only[Tm.ag,hk2,Tm.aJ,Z0,Z1,Y2]at e0;have hdk3:dk=3:=by rw[HDK.out];exact hd3
       subst hdk3;have HIT2:=hid (fun X (hX:Below w.heap.size w X)=>HIT.out X t2 ht2 hX);obtain⟨tl,htl⟩:∃tl,tl=t2.items.len:=⟨_,rfl⟩;obtain⟨tnm,htnm⟩:∃tnm,tnm=t2.name:=⟨_,rfl⟩;have HS3:Hid (∀X,Below wr.heap.size wr X→X.cell? ⟨w.heap.size,0,none⟩=some (.slice a n cap)∧X.cell? ⟨gx,ox+3,none⟩=some (.string (aa tnm))):=hid (fun X hX=>by
        have k3:=(hrx.below hX hrx.lt).cell 3 (by simp[Tm.aj]);simp only[Tm.ag,hk2,Tm.bw,Z0,Z1]at k3;rw[← htnm]at k3;exact⟨HBX.out X hX,k3⟩)
       have HNS2:Hid (∀X gi capi bs,Below wr.heap.size wr X→ak U (rb+1) 70 13 gi tl capi bs→Tm.bu U rb t2.items bs→AtS U w X rb B nb tys root d ps (i+1) (q++[kn]) gb (kn * 7) d2 g2 c2 b2 vs2 (.pointer (some ⟨gn,on,none⟩)) (.pointer (some ⟨gx,ox,none⟩)) (.slice gi tl capi)):=hid (fun X gi capi bs hX ho he=>by
        rw[htl]at ho⊢;exact HNEW.out X _ _ _ hX (hc gi capi bs ho he) HITM.out)
       rw[← htl,← htnm]at HIT2;have hS1:=HS3.out wr.drew (Y4 wr.heap.size wr).drew;clear hrow2 hk2 hd3 ht2 hc hrx htl htnm;go_wp2_with fail;go_region_held3 (fun X=>X.cell? ⟨w.heap.size,0,none⟩=some (.slice a n cap)∧X.cell? ⟨gx,ox+3,none⟩=some (.string (aa tnm)))
        (first
         |exact hS1
         |assumption)
        (first
         |(go_at_call 71;(with_reducible refine(HIT2.out _ ?_).mono ?_);(next=>exact HBS.out.drew);(rintro e wi ⟨hbi,gai,capb2,bsi,rfl,hoi,hei⟩);(have HBI:=hid (Below.trans (Y4 wr.heap.size wr).drew hbi));(have HOE:=hid (And.intro hoi hei));(have hSi:=HS3.out wi HBI.out)))
       all_goals
        have HNS:=hid (HNS2.out wi gai capb2 bsi HBI.out HOE.out.1 HOE.out.2);go_wp2_with fail;go_roundw
        case rel=>exact⟨i+1,q++[kn],gb,kn * 7,d2,g2,c2,b2,vs2,_,_,_,by first|rfl|rw[az HLT.out (show i≤100000 by have:=HPL.out;have:=HPN.out;have:=HLT.out;omega)]|rw[az HLT.out (show pn≤100000 by have:=HPL.out;have:=HPN.out;omega)],rfl,rfl,rfl,rfl,by have:=HLT.out;omega,HNS,hid (HBW.out.trans (HBI.out.mono HBW.out.size))⟩
        case measure=>(try rw[az HLT.out (show pn≤100000 by have:=HPL.out;have:=HPN.out;omega)]);simp only[intOf];have:=HLT.out;omega
      |no h2 cv2 hrow2 hk2 hc=>
       have hrx:=HUB.out wr gx (ox) _ _ HBS.out hrow2;have e0:=hrx.cell 0 (by simp[Tm.aj]);simp only[Tm.ag,Z0,Z1,Y2]at e0;obtain⟨n4,n4b⟩:=qW h2.k;have HNS:=hid (HNEW.out wr _ _ _ (Y4 _ _) (hc lv) HITM.out);have hk22:(∀t,h2.k≠.struct t)∨dk≠3:=by rw[HDK.out];exact hk2
       by_cases hs3:Tm.aJ h2.k=3
       ·have hdk3:dk≠3:=by
         rcases hk22 with h9|h9
         ·exfalso;cases hkk:h2.k with
          |struct t9=>exact h9 t9 hkk
          |scalar w9=>rw[hkk]at hs3;simp[Tm.aJ]at hs3
          |bytes=>rw[hkk]at hs3;simp[Tm.aJ]at hs3
         ·exact h9
        rw[hs3]at e0;have u1:(dk==3)=false:=Z8.2 hdk3;have u2:((dk:Int)==3)=false:=by rw[Z8];omega
        clear hrow2 hk2 hc hrx hk22 hs3 hdk3 n4 n4b;go_wp2_with fail;go_roundw
        case rel=>exact⟨i+1,q++[kn],gb,kn * 7,d2,g2,c2,b2,vs2,_,_,_,by first|rfl|rw[az HLT.out (show i≤100000 by have:=HPL.out;have:=HPN.out;have:=HLT.out;omega)]|rw[az HLT.out (show pn≤100000 by have:=HPL.out;have:=HPN.out;omega)],rfl,rfl,rfl,rfl,by have:=HLT.out;omega,HNS,HBW⟩
        case measure=>(try rw[az HLT.out (show pn≤100000 by have:=HPL.out;have:=HPN.out;omega)]);simp only[intOf];have:=HLT.out;omega
       ·have u1:(Tm.aJ h2.k==3)=false:=Z8.2 hs3;have u2:(((Tm.aJ h2.k:Nat):Int)==3)=false:=by rw[Z8];omega
        clear hrow2 hk2 hc hrx hk22 hs3;go_wp2_with fail;go_roundw
        case rel=>exact⟨i+1,q++[kn],gb,kn * 7,d2,g2,c2,b2,vs2,_,_,_,by first|rfl|rw[az HLT.out (show i≤100000 by have:=HPL.out;have:=HPN.out;have:=HLT.out;omega)]|rw[az HLT.out (show pn≤100000 by have:=HPL.out;have:=HPN.out;omega)],rfl,rfl,rfl,rfl,by have:=HLT.out;omega,HNS,HBW⟩
        case measure=>(try rw[az HLT.out (show pn≤100000 by have:=HPL.out;have:=HPN.out;omega)]);simp only[intOf];have:=HLT.out;omega
  ·obtain rfl:i=pn:=by omega
   have hd:decide ((i:Int) < (i:Int))=false:=by simp
   have hd2:decide (i < i)=false:=by simp
   have HF:=hid HS.out.foc;have HX0:=hid HS.out.x0;have HX1:=hid HS.out.x1;have HBS:=hid HS.out.bel;have HPR:=hid (show ps=bf q by have:=HS.out.pre;rw[HPN.out,List.take_length]at this;exact this);clear hlt;go_wp2_with fail;refine bodyPost_ret (v:= .tuple #[upv,.pointer (some ⟨gn,on,none⟩),xv]) (by simp[results,Tryz.results72,go_sem];first|done|rfl) rfl ?_;exact⟨HBS.out,.inr ⟨q,x,gn,on,g,c,bl,vs,upv,xv,HPR.out,rfl,HF.out,HX0.out,HX1.out⟩⟩
end
end Go.Proofs.YtlomecfhobehnaaGreatDoor
