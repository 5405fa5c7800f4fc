import Derived.Test.YtlomecfhobehnaaGreatDoorMgFixDrops30
set_option linter.all false
set_option maxRecDepth 100000
set_option maxHeartbeats 4000000
namespace Go.Proofs.YtlomecfhobehnaaGreatDoor
open Lib (hid)
section
open Go Go.RowKit
open Rd
open Ly
theorem DS{O:List Nat}{j:Nat}(hj:j < O.length):∃i,O.drop j=i::O.drop (j+1)∧O[j]? =some i:=⟨O[j],List.drop_eq_getElem_cons hj,Y1 hj⟩
theorem Ah(U:World)(rb cap:Nat)(tys:List Tm.Ty)(a:Option Addr)(W:Wri)(Bf:Fx.Fxr)(l:Tm.Its)(hE:FxE U rb tys a cap)(hFT:∀t∈tys,Tm.bg t)(hWl:fs W)(hF:Tm.bG l)(hR:Fx.jQ l.row)(hll:l.len≤100000)
  (hWr:∀i a c b r,l.drop i= .when a c b r→kX tys W b)(hSt:∀i h r t,l.drop i= .cons h r→h.k= .struct t→uP tys W t)
  (hBd:∀i ai c b r,l.drop i= .when ai c b r→xQ U rb tys a cap W (Fx.fu Fx.bE W Bf b) b)(hSf:∀i h r t,l.drop i= .cons h r→h.k= .struct t→II U rb tys a cap W Bf t)(hL:Fx.Gb Bf)(hKW:Fx.kY W Bf)(hOk:Fx.OkF W Bf):xQ U rb tys a cap W (Fx.fu Fx.bE W Bf l) l:=by
 intro w B gcap capi gi gk bs vs bl ks hU hoi hei hK hUB hok htot hw;have hlen:ks.len=l.len:=by rw[← Fx.gE];exact(Fx.dO.1 hw).1.symm
 obtain⟨n,hn⟩:∃n,n=l.len:=⟨_,rfl⟩;obtain⟨nt,hnt⟩:∃nt,nt=tys.length:=⟨_,rfl⟩;have hcapi:n≤capi:=by rw[hn];exact aW hoi
 have hgcap:n≤gcap:=by rw[hn,← hlen];exact aW hK.own
 obtain⟨V1,hV1⟩:∃V1,V1=w.alloc (.cells #[.slice a nt cap] 75):=⟨_,rfl⟩;have hb1:Below w.heap.size w V1:=by rw[hV1];exact(Y4 _ _).alloc (Z5 _) _
 have hr0:ae V1 w.heap.size 0 75 [.slice a nt cap]:=by rw[hV1];exact ae.new w _ _
 have hU1:=hU.trans (hb1.mono hU.size);have hK1:=hK.an (w':=V1) fun b _ hl=>hb1.block b hl
 have hmem:=hK.mem;have hSS:∀X,Mut V1 X (aB gk++bl)→X.cell? ⟨w.heap.size,0,none⟩=some (.slice a nt cap):=by
  intro X hX;have k0:=(hr0.of_heap (hX.block w.heap.size hr0.lt (fun hm=>by have:=hmem _ hm;omega))).cell0 0 (by simp);simp only[Z0]at k0;exact k0
 have HSS:=hid hSS;have hUm:∀X,Mut V1 X (aB gk++bl)→Below U.heap.size U X:=fun X hX=>hX.below hU1 hU1.size (fun b hb=>Nat.le_trans hUB (hmem b hb).1)
 have HUM:=hid hUm;have hmR:∀x∈bl,x∈aB gk++bl:=fun x hx=>List.mem_append_right _ hx
 have HMR:=hid hmR;have h0:BkS V1 V1 B gk gcap 0 bl vs Fx.bE W Bf l ks .nil ks:=by
  refine⟨Mut.refl _ _,hK1.own,hK1.enc,rfl,by show 0+_=_;omega,?_,?_,hok,htot⟩
  ·rw[show l.drop 0=l by cases l <;> rfl];unfold Fx.mS;cases Fx.aO Fx.bE W Bf l ks <;> rfl
  ·rw[show l.drop 0=l by cases l <;> rfl];exact hw
 have hstep:∀(wr:World) (i:Nat) (q r:Nds) (gb g:Nat),gk=some ⟨gb,0,none⟩→gi=some ⟨g,0,none⟩→BkS V1 wr B (some ⟨gb,0,none⟩) gcap i bl vs Fx.bE W Bf l ks q r→i < l.len→∃(g3:Option Addr) (c3:Nat) (b3:List Nat) (o:Option Nds),(∀x∈aB g3++b3,x∈bl)∧(∀X,Below wr.heap.size wr X→Calls Tryz.prog 97 #[.agg #[.slice a nt cap],.pointer (some ⟨g,i * 13,none⟩),.pointer (some ⟨gb,i * 7,none⟩)] X (ep X B g3 c3 b3 o))∧
   (o=none→Fx.aO Fx.bE W Bf l ks=none)∧∀(w5:World) (p:Nds) (vs3':List Value),o=some p→Mut wr w5 (aB g3++b3)→aM w5 B p g3 c3 b3 vs3'→∃q' r',BkS V1 w5 B (some ⟨gb,0,none⟩) gcap (i+1) bl vs Fx.bE W Bf l ks q' r':=by
  intro wr i q r gb g hgk hgi hs hi;subst hgk;subst hgi;rw[hnt];exact hs.step hK.nodup hi hE hF hBd hSf hL hU1 hUB (fun b hb=>(hmem b (hmR b hb)).1) hoi hei
 have HSTEP:=hid hstep;have HORD:Hid (∀X,Below U.heap.size U X→Calls Tryz.prog 98 #[.slice gi n capi] X fun e w'=>Below X.heap.size X w'∧∃oa oc,e= .returned (.slice oa (Fx.ord l.row).length oc)∧ak w' X.heap.size 3 1 oa (Fx.ord l.row).length oc (cO ((Fx.ord l.row).map fun(i:Nat)=>(i:Int)))):=
  hid (fun X hX=>DL U X rb capi n l gi bs hn (by omega) hR ⟨hoi,hei,hX⟩)
 have HFI:Hid (∀X nm,Below U.heap.size U X→Calls Tryz.prog 99 #[.slice gi n capi,.string (aa nm)] X fun e w'=>e= .returned (.int .i64 (Tm.aV l.row nm))∧Below X.heap.size X w'):=
  hid (fun X nm hX=>Dz U rb capi n l gi bs nm X hn (by omega) ⟨hoi,hei,hX⟩)
 have HTX:Hid (∀X (gb g:Nat) (kj:Nds) (vj:List Value) (i j:Nat) (u:Tm.Wd),gk=some ⟨gb,0,none⟩→gi=some ⟨g,0,none⟩→Below U.heap.size U X→aM X B kj gk gcap bl vj→kj.ok→kj.tot≤800000→(aF W l kj).isSome=true→i≤j+1→j < l.len→Fx.jL W l kj i j=some u→u.length≤800000→
   Calls Tryz.prog 100 #[.agg #[.slice a nt cap],.slice gi n capi,.slice gk n gcap,.int .i64 (i:Nat),.int .i64 (j:Nat)] X fun e w'=>Below X.heap.size X w'∧e= .returned (.tuple #[.string (aa u),.nilIface])):=
  hid (fun X gb g kj vj i j u hgk hgi hX hk ho ht hw2 hij hj hu hul=>by
   subst hgk;subst hgi;rw[hnt,hn];exact IW hE hFT hWl hF hWr hSt hX hoi hei hk ho ht hw2 (by omega) hij hj hu hul)
 have HITM:Hid (∀(wt:World) (i gb g:Nat) (O:List Nat) (kj:Nds) (vj:List Value) (ko:Option Nds),gi=some ⟨g,0,none⟩→RlS V1 wt B (some ⟨gb,0,none⟩) gcap bl vj Fx.bE W l ko (i::O) kj→∃(h:Tm.Hd) (cv:Value) (wd:Tm.Wd) (a b:Nat),Fx.eT l i=some h∧i < l.len∧i < kj.len∧Tm.isNone h.ay=false∧h.k= .scalar wd∧(Tm.kindOf wd).isSome=true∧ae U g (i * 13) 70 (Tm.ag h cv)∧Fx.Aa l.row i h.ay a b):=
  hid (fun wt i gb g O kj vj ko hgi hs=>by subst hgi;exact hs.item hF hR hoi hei)
 have HGI:=hid (fun(h:0 < n)=>show ∃g,gi=some ⟨g,0,none⟩ by
  cases gi with
  |none=>have:=hoi.aS.1;omega
  |some x=>exact⟨x.block,by have:=hoi.row.1;rw[← this]⟩)
 have HGK:=hid (fun(h:0 < n)=>show ∃g,gk=some ⟨g,0,none⟩ by
  cases gk with
  |none=>have:=hK.own.aS.1;omega
  |some x=>exact⟨x.block,by have:=hK.own.row.1;rw[← this]⟩)
 have H0:=hid h0;have HV1:=hid hV1;have HB1:=hid hb1;have HN:=hid hn;have HN9:=hid (show n≤100000 by omega);have HLEN:=hid hlen;have HND:=hid hK.nodup;have HMEM:=hid hmem;have HWF:=hid (fun(q:Nds) (hq:Fx.aO Fx.bE W Bf l ks=some q)=>And.intro (Fx.dj hKW l hF ks q hq hw) (Fx.iG Fx.jb hWl hKW hOk l hF ks q hq hw hok htot));have HNEXT:=hid (fun(wt:World) (i gb:Nat) (O:List Nat) (kj:Nds) (vj:List Value) (ko:Option Nds) (h:Tm.Hd) (V:Int) (hs:RlS V1 wt B (some ⟨gb,0,none⟩) gcap bl vj Fx.bE W l ko (i::O) kj) (hi:i < kj.len) (hh:Fx.eT l i=some h) (hV:Fx.av Fx.bE W l kj h=V) (hf:dG (Fx.wOf h.k) V=true)=>hs.next Fx.jb hWl hF hi hh hV hf);have HWL:=hid hWl;have HTOT:=hid htot;obtain⟨fin,hfin⟩:∃fin,fin=Fx.fu Fx.bE W Bf l ks:=⟨_,rfl⟩;rw[← hfin];have HFIN:=hid hfin;rw[hlen,← hn,← hnt];clear hE hFT hWl hF hR hWr hSt hBd hSf hL hKW hOk hU hoi hei hK hok htot hw hlen hn hnt hV1 hb1 hr0 hU1 hK1 hmem hSS hUm hmR h0 hstep hfin hll;go_enter Tryz.func70,Tryz.ntmps70;go_wp2_with fail;rw[← HV1.out];go_loopw [25] (fun v25 wr=>∃(i:Nat) (q r:Nds),v25= .int .i64 i∧i≤n∧Hid (BkS V1 wr B gk gcap i bl vs Fx.bE W Bf l ks q r)) (fun v25 _=>n - (intOf v25).toNat)
 case atStart=>exact⟨0,.nil,ks,rfl,Nat.zero_le _,H0⟩
 case round=>
  obtain⟨i,q,r,rfl,hin,HBK⟩:=hrel
  by_cases hlt:i < n
  ·have hki:(i:Int) < (n:Int):=by omega
   have q1:decide ((i:Int) < (n:Int))=true:=Z9 hki;have q2:decide (i < n)=true:=Z9 hlt;obtain⟨g,hg⟩:=HGI.out (by omega);obtain⟨gb,hgb⟩:=HGK.out (by omega);have hbk:=HBK.out;rw[hgb]at hbk;obtain⟨g3,c3,b3,o,hsub,hcall,hnone,hnext⟩:=HSTEP.out wr i q r gb g hgb hg hbk (by rw[← HN.out];exact hlt);have HCALL:=hid hcall;have HSUB:=hid hsub;have HNONE:=hid hnone;have HNX:=hid hnext;have HS3:Hid (∀X,Mut wr X bl→X.cell? ⟨w.heap.size,0,none⟩=some (.slice a nt cap)):=hid (fun X hX=>HSS.out X ((HBK.out.mu.trans hX).mono HMR.out));have hS1:=HS3.out wr.drew (Mut.aA (Y4 wr.heap.size wr).drew);have HLT:=hid hlt;have HGB:=hid hgb;subst hg;subst hgb;clear hsub hcall hnone hnext hlt hbk;go_wp2_with fail;go_region_held3 (fun X=>X.cell? ⟨w.heap.size,0,none⟩=some (.slice a nt cap))
    (first
     |exact hS1
     |assumption)
    (first
     |(go_at_call 97;(with_reducible refine(HCALL.out _ ?_).mono ?_);(next=>exact(Y4 wr.heap.size wr).drew);(rintro e w5 ⟨hm5,v,rfl,hv5⟩);(have HM5:=hid (Mut.trans (Mut.aA (Y4 wr.heap.size wr).drew) hm5));(have HV5:=hid hv5);(have hS5:=HS3.out w5 (HM5.out.mono HSUB.out))))
   all_goals
    have hv5:=HV5.out;unfold IH at hv5;cases o with
    |none=>
     simp only[]at hv5;subst hv5;go_wp2_with fail;go_ret;refine⟨(Mut.aA HB1.out).trans ((HBK.out.mu.trans (HM5.out.mono HSUB.out)).mono HMR.out),_,rfl,?_⟩;rw[HFIN.out];unfold Fx.fu;rw[HNONE.out (by trivial)];rfl
    |some p=>
     simp only[]at hv5;obtain⟨rfl,vs5,hk5⟩:=hv5;have hnx:=HNX.out w5 p vs5 (by trivial) HM5.out hk5;have HNX2:=hid hnx;clear hk5 hnx;go_wp2_with fail;go_roundw
     case rel=>
      obtain⟨q',r',hq⟩:=HNX2.out;exact⟨i+1,q',r',by first|rfl|rw[az HLT.out HN9.out],by have:=HLT.out;omega,hid hq⟩
     case measure=>(try rw[az HLT.out HN9.out]);simp only[intOf];have:=HLT.out;omega
  ·obtain rfl:i=n:=by omega
   obtain⟨wa,hwa⟩:∃wa,wa=wr:=⟨_,rfl⟩;subst hwa;have hd:decide ((i:Int) < (i:Int))=false:=by simp
   have hd2:decide (i < i)=false:=by simp
   have hr0:r= .nil:=by
    have h1:=HBK.out.len;have h2:=HBK.out.Gi;have h3:=HLEN.out;have h4:=HN.out;cases r with
    |nil=>rfl
    |cons=>exfalso;simp only[Nds.len]at h1;omega
   subst hr0;have hrest:=HBK.out.rest;rw[HN.out,Tm.df]at hrest;have hpq:Fx.aO Fx.bE W Bf l ks=some q:=by
    rw[← hrest];show some (q.app .nil)=some q;rw[Nds.fe]
   obtain⟨w1,w2,w3⟩:=HWF.out q hpq;obtain⟨O,hO⟩:∃O,O=Fx.ord l.row:=⟨_,rfl⟩;have hrl:RlS V1 wa B gk gcap bl vs Fx.bE W l fin O q:=by
    refine⟨HBK.out.mu.mono HMR.out,⟨?_,?_,HND.out⟩,?_,w1,w2,?_,fun i hi=>by rw[← hO];exact hi⟩
    ·rw[HBK.out.Gi,HN.out,← HLEN.out];exact HBK.out.own
    ·have:=HBK.out.enc;rw[Nds.fe]at this;exact this
    ·rw[HFIN.out];unfold Fx.fu;rw[hpq,hO];rfl
    ·have:=HBK.out.tot;have h9:=w3;exact Nat.le_trans (Nat.le_of_eq h9) HTOT.out
   have HRL:=hid hrl;have HORD2:=hid (HORD.out wa (HUM.out wa hrl.mu));rw[← hO]at HORD2;have HO:=hid hO;clear hrl w1 w2 w3 hpq hrest hO HORD;go_wp2_with fail;refine HORD2.out.mono ?_;rintro e w2 ⟨hb2,oa,oc,rfl,hoo⟩;obtain⟨on,hon⟩:∃on,on=O.length:=⟨_,rfl⟩;rw[← hon]at hoo⊢;have honl:on≤oc:=aW hoo;have HON:=hid hon;have HOO:=hid hoo;have HRL2:=hid (HRL.out.up hb2);have HSZ:=hid (Nat.le_trans HRL.out.mu.size (Z5 _));have HB2:=hid hb2;have hon9:on≤100000:=by
    have h1:=qV (Fx.Iv l.row);rw[Tm.cT,← HN.out,← HO.out,← HON.out]at h1;have:=HN9.out;omega
   have HON9:=hid hon9;clear hoo hon hb2 hon9;go_wp2_with fail;go_loopw [43] (fun v43 wt=>∃(j:Nat) (kj:Nds) (vj:List Value),v43= .int .i64 j∧j≤on∧Hid (RlS V1 wt B gk gcap bl vj Fx.bE W l fin (O.drop j) kj)∧Hid (ak wt wa.heap.size 3 1 oa on oc (cO (O.map fun(i:Nat)=>(i:Int))))) (fun v43 _=>on - (intOf v43).toNat)
   case atStart=>exact⟨0,q,vs,rfl,Nat.zero_le _,hid HRL2.out,HOO⟩
   case round=>
    clear hd hd2;obtain⟨j,kj,vj,rfl,hjn,HRJ,HOJ⟩:=hrel
    by_cases hlt:j < on
    ·have hki:(j:Int) < (on:Int):=by omega
     have q1:decide ((j:Int) < (on:Int))=true:=Z9 hki;have q2:decide (j < on)=true:=Z9 hlt;obtain⟨x,hdr,hget⟩:=DS (O:=O) (j:=j) (by rw[← HON.out];exact hlt);have hxm:x∈O:=List.mem_of_getElem? hget;have hn0:0 < i:=by
      have:=(Fx.Iv l.row).lt x (by rw[← HO.out];exact hxm);rw[Tm.cT,← HN.out]at this;omega
     obtain⟨g,hg⟩:=HGI.out hn0;obtain⟨gb,hgb⟩:=HGK.out hn0;have hrj:=HRJ.out;rw[hdr,hgb]at hrj;obtain⟨h,cv,wd,ra,rbb,hh,hil,hik,hrn,hk,hkw,hrow,hra⟩:=HITM.out wr x gb g _ kj vj fin hg hrj;obtain⟨go,hgo⟩:∃go,oa=some ⟨go,0,none⟩:=by
      cases oa with
      |none=>have:=HOJ.out.aS.1;omega
      |some y=>exact⟨y.block,by have:=HOJ.out.row.1;rw[← this]⟩
     have hcell:wr.cell? ⟨go,j,none⟩=some (.int .i64 (x:Nat)):=by
      have h1:=HOJ.out;rw[hgo]at h1;have h2:=h1.int j (by rw[List.length_map,← HON.out];exact hlt);rw[h2,List.getD_eq_getElem?_getD,List.getElem?_map,hget];rfl
     have hUB2:∀X,Below wr.heap.size wr X→Below U.heap.size U X:=fun X hX=>HUM.out X (HRJ.out.mu.trans (Mut.aA hX))
     have HROW:Hid (∀X,Below wr.heap.size wr X→ae X g (x * 13) 70 (Tm.ag h cv)∧X.cell? ⟨w.heap.size,0,none⟩=some (.slice a nt cap)):=hid (fun X hX=>⟨hrow.below (hUB2 X hX) hrow.lt,HSS.out X (HRJ.out.mu.trans (Mut.aA hX))⟩);have HFJ:Hid (∀X nm,Below wr.heap.size wr X→Calls Tryz.prog 99 #[.slice gi i capi,.string (aa nm)] X fun e w'=>e= .returned (.int .i64 (Tm.aV l.row nm))∧Below X.heap.size X w'):=hid (fun X nm hX=>HFI.out X nm (hUB2 X hX));obtain⟨u,hu,hul⟩:=Fx.oQ HWL.out hrj.wrt ra rbb;have hul8:u.length≤800000:=Nat.le_trans hul hrj.tot;have HTJ:Hid (∀X,Below wr.heap.size wr X→Calls Tryz.prog 100 #[.agg #[.slice a nt cap],.slice gi i capi,.slice gk i gcap,.int .i64 (ra:Nat),.int .i64 (rbb:Nat)] X fun e w'=>Below X.heap.size X w'∧e= .returned (.tuple #[.string (aa u),.nilIface])):=hid (fun X hX=>HTX.out X gb g kj vj ra rbb u hgb hg (hUB2 X hX) (by have:=(HRJ.out.up hX).kv;exact this) hrj.ok hrj.tot hrj.wrt (by have:=hra.le;omega) (by have:=hra.lt;rw[Tm.cT]at this;exact this) hu hul8);have hkl:kj.len=i:=by
      have:=(Fx.dO.1 hrj.wrt).1;rw[Fx.gE,← HN.out]at this;exact this.symm
     have hai:ra < i:=by have h1:=hra.lt;have h2:=hra.le;rw[Tm.cT,← HN.out]at h1;omega
     have hbi:rbb < i:=by have h1:=hra.lt;rw[Tm.cT,← HN.out]at h1;omega
     have hxi:x < i:=by rw[HN.out];exact hil
     have HKEEP:Hid (∀X,Below wr.heap.size wr X→∀v:Int,ak (X.setCell ⟨gb,x * 7+4,none⟩ (.int .i64 v)) wa.heap.size 3 1 oa on oc (cO (O.map fun(i:Nat)=>(i:Int)))):=hid (fun X hX v=>(HOJ.out.below hX (Z5 _)).far (p:=⟨gb,x * 7+4,none⟩) (fun y hy e=>by
      have h1:wa.heap.size≤y.block:=by have h0:=HOJ.out;rw[hy]at h0;exact h0.lt.1
      have h2:=HRL.out.kv.mem gb (by rw[hgb];simp[aB]);have h3:y.block=gb:=e;omega) _)
     have HRJ2:=hid hrj;have HHH:=hid hh;have HRA:=hid hra;have HUU:=hid hu;have HK:=hid hk;have HKW:=hid hkw;have HLT:=hid hlt;have HDR:=hid hdr;have HKL:=hid hkl;have HU8:=hid hul8;have HGKE:=hid hgb;obtain⟨kv1,kv2,kv3⟩:=qm hkw;have hai2:(ra:Int) < (i:Int):=by omega
     have hxi2:(x:Int) < (i:Int):=by omega
     have na:decide ((ra:Int) < 0)=false:=Y9 (by omega);have nb:decide ((rbb:Int) < 0)=false:=Y9 (by omega);subst hg;subst hgb;subst hgo;clear hrj hh hra hu hrow hlt hdr hget hxm hul hul8 hUB2 hkl hil hik hn0 HITM HFI HTX HGI HGK HSTEP HWF;cases hr:h.ay with
     |none=>rw[hr]at hrn;cases hrn
     |size f=>
      have hce:∀X,Below wr.heap.size wr X→X.cell? ⟨g,x * 13+4,none⟩=some (.int .i64 (bo wd:Nat))∧X.cell? ⟨g,x * 13+6,none⟩=some (.bool (eR wd))∧X.cell? ⟨g,x * 13+9,none⟩=some (.int .i64 1)∧X.cell? ⟨g,x * 13+10,none⟩=some (.string (aa f))∧X.cell? ⟨g,x * 13+11,none⟩=some (.string (aa []))∧X.cell? ⟨w.heap.size,0,none⟩=some (.slice a nt cap):=by
       intro X hX;obtain⟨hr1,hr2⟩:=HROW.out X hX;have k4:=hr1.cell 4 (by simp[Tm.aj]);have k6:=hr1.cell 6 (by simp[Tm.aj]);have k9:=hr1.cell 9 (by simp[Tm.aj]);have k10:=hr1.cell 10 (by simp[Tm.aj]);have k11:=hr1.cell 11 (by simp[Tm.aj]);simp only[Tm.ag,hk,hr,av,Tm.bA,Z0,Z1]at k4 k6 k9 k10 k11;rw[kv1]at k4;rw[kv3]at k6;exact⟨k4,k6,k9,k10,k11,hr2⟩
      have HCE:=hid hce;have hfa:Tm.aV l.row f=(ra:Int):=by have:=HRA.out.first;rw[hr]at this;exact this
      have hab:ra=rbb:=by
       have h1:=HRA.out.last;rw[hr]at h1;have h2:Tm.aV l.row f=(rbb:Int):=h1;rw[hfa]at h2;omega
      have HAB:=hid hab;have HFA:=hid hfa;obtain⟨V,hV⟩:∃V:Nat,V=u.length:=⟨_,rfl⟩;have hVV:Fx.av Fx.bE W l kj h=(V:Int):=by
       unfold Fx.av;rw[hr];simp only[];rw[hfa,Int.toNat_natCast];have h3:=HUU.out;rw[← hab]at h3;rw[h3,hV];rfl
      have hV9:V≤4294967296:=by have:=HU8.out;omega
      have HVL:=hid hV;obtain⟨ft,hft⟩:∃ft,ft=dG wd (V:Int):=⟨_,rfl⟩;have HFT:Hid (∀X,Calls Tryz.prog 39 #[.int .i64 (V:Nat),.int .i64 (bo wd:Nat),.bool (eR wd)] X fun e w'=>e= .returned (.bool ft)∧X=w'):=hid (fun X=>by rw[hft];exact rj wd HKW.out (V:Int) (Fx.kH hV9) X);have HVV:=hid hVV;have HFTE:Hid (dG (Fx.wOf h.k) (V:Int)=ft):=hid (by rw[hft,HK.out];rfl);have HC4:Hid (∀X,Below wr.heap.size wr X→∃v:Int,X.cell? ⟨gb,x * 7+4,none⟩=some (.int .i64 v)∧X.frozen? ⟨gb,x * 7+4,none⟩=false):=hid (fun X hX=>aM.Gp (HRJ2.out.up hX).kv (by rw[HKL.out];exact hxi));obtain⟨x4,x6,x9,x10,x11,xb⟩:=HCE.out wr (Y4 _ _);clear hce hfa hft hVV hk hr hrn hkw kv1 kv2 kv3 hV9 hab hV;go_wp2_with fail;refine(HFJ.out wr f (Y4 _ _)).mono ?_;rintro e w3 ⟨rfl,hb3⟩;rw[HFA.out];have HB3:=hid hb3;clear x4 x6 x9 x10 x11 xb hcell hb3;obtain⟨x4,x6,x9,x10,x11,xb⟩:=HCE.out w3 HB3.out;go_wp2_with fail;have HB4:=HB3;obtain⟨w4,hw4⟩:∃w4,w4=w3:=⟨_,rfl⟩;rw[← hw4]at x4 x6 x9 x10 x11 xb HB4⊢;clear hw4;have htj:=HTJ.out w4 HB4.out;rw[← HAB.out]at htj;have HTJ:=hid (fun(X:World) (_:Below wr.heap.size wr X) (hX:X=w4)=>htj);clear htj;refine(HTJ.out w4 HB4.out rfl).mono ?_;rintro e w5 ⟨hb5,rfl⟩;have HB5:=hid (HB4.out.trans (hb5.mono HB4.out.size));clear x4 x6 x9 x10 x11 xb hb5;obtain⟨x4,x6,x9,x10,x11,xb⟩:=HCE.out w5 HB5.out;have xlen:((u.length:Nat):Int)=(V:Int):=by rw[HVL.out]
      go_wp2_with fail;go_quiet (first|(go_at_call 39;with_reducible exact Calls.quiet_of_same (tX (HFT.out _))));have HB7:=hid (fy HB5.out nq);obtain⟨w7,hw7⟩:∃w7,w7=w5.drewN nq:=⟨_,rfl⟩;rw[← hw7]at HB7⊢;clear hw7 x4 x6 x9 x10 x11 xb;obtain⟨v4,y4,z4⟩:=HC4.out w7 HB7.out;cases ft with
      |false=>
       have HBAD:=hid (RlS.bad (HRJ2.out.up HB7.out) HHH.out HVV.out HFTE.out);go_wp2_with fail;go_ret;refine⟨(Mut.aA HB1.out).trans (HRJ.out.mu.trans (Mut.aA HB7.out)),_,rfl,?_⟩;rw[HBAD.out];rfl
      |true=>
       have HNXT:=hid (HNEXT.out w7 x gb _ kj vj fin h (V:Int) (HRJ2.out.up HB7.out) (by rw[HKL.out];exact hxi) HHH.out HVV.out HFTE.out);have HKP:=hid (HKEEP.out w7 HB7.out (V:Int));go_wp2_with fail;go_roundw
       case rel=>exact⟨j+1,_,_,by first|rfl|rw[az HLT.out HON9.out],by have:=HLT.out;omega,HNXT,HKP⟩
       case measure=>(try rw[az HLT.out HON9.out]);simp only[intOf];have:=HLT.out;omega
     |count f=>
      have hce:∀X,Below wr.heap.size wr X→X.cell? ⟨g,x * 13+4,none⟩=some (.int .i64 (bo wd:Nat))∧X.cell? ⟨g,x * 13+6,none⟩=some (.bool (eR wd))∧X.cell? ⟨g,x * 13+9,none⟩=some (.int .i64 2)∧X.cell? ⟨g,x * 13+10,none⟩=some (.string (aa f))∧X.cell? ⟨g,x * 13+11,none⟩=some (.string (aa []))∧X.cell? ⟨w.heap.size,0,none⟩=some (.slice a nt cap):=by
       intro X hX;obtain⟨hr1,hr2⟩:=HROW.out X hX;have k4:=hr1.cell 4 (by simp[Tm.aj]);have k6:=hr1.cell 6 (by simp[Tm.aj]);have k9:=hr1.cell 9 (by simp[Tm.aj]);have k10:=hr1.cell 10 (by simp[Tm.aj]);have k11:=hr1.cell 11 (by simp[Tm.aj]);simp only[Tm.ag,hk,hr,av,Tm.bA,Z0,Z1]at k4 k6 k9 k10 k11;rw[kv1]at k4;rw[kv3]at k6;exact⟨k4,k6,k9,k10,k11,hr2⟩
      have HCE:=hid hce;have hfa:Tm.aV l.row f=(ra:Int):=by have:=HRA.out.first;rw[hr]at this;exact this
      have hab:ra=rbb:=by
       have h1:=HRA.out.last;rw[hr]at h1;have h2:Tm.aV l.row f=(rbb:Int):=h1;rw[hfa]at h2;omega
      have HAB:=hid hab;have HFA:=hid hfa;obtain⟨d,g2,c2,hnth,hcd⟩:=aM.count HRJ2.out.kv (a:=ra) (by rw[HKL.out];exact hai);obtain⟨V,hV⟩:∃V:Nat,V=d.kids.len:=⟨_,rfl⟩;have hVV:Fx.av Fx.bE W l kj h=(V:Int):=by
       unfold Fx.av;rw[hr];simp only[];rw[hfa,Int.toNat_natCast,hnth,hV];rfl
      have hV9:V≤4294967296:=by
       have h3:=Fx.re Fx.jb HWL.out HRJ2.out.wrt HRJ2.out.tot h;have h4:V * 8≤kj.tot:=by
        rw[hV];exact Fx.BB ra kj d hnth
       have:=HRJ2.out.tot;omega
      have HCD:Hid (∀X,Below wr.heap.size wr X→X.cell? ⟨gb,ra * 7+6,none⟩=some (.slice g2 V c2)):=hid (fun X hX=>by
       rw[hV];have hl:gb < wr.heap.size:=World.block_lt_of_cell? _ _ hcd;exact(World.cell?_of_block (hX.block gb hl)).trans hcd)
      clear hnth hcd hV;obtain⟨ft,hft⟩:∃ft,ft=dG wd (V:Int):=⟨_,rfl⟩;have HFT:Hid (∀X,Calls Tryz.prog 39 #[.int .i64 (V:Nat),.int .i64 (bo wd:Nat),.bool (eR wd)] X fun e w'=>e= .returned (.bool ft)∧X=w'):=hid (fun X=>by rw[hft];exact rj wd HKW.out (V:Int) (Fx.kH hV9) X);have HVV:=hid hVV;have HFTE:Hid (dG (Fx.wOf h.k) (V:Int)=ft):=hid (by rw[hft,HK.out];rfl);have HC4:Hid (∀X,Below wr.heap.size wr X→∃v:Int,X.cell? ⟨gb,x * 7+4,none⟩=some (.int .i64 v)∧X.frozen? ⟨gb,x * 7+4,none⟩=false):=hid (fun X hX=>aM.Gp (HRJ2.out.up hX).kv (by rw[HKL.out];exact hxi));obtain⟨x4,x6,x9,x10,x11,xb⟩:=HCE.out wr (Y4 _ _);clear hce hfa hft hVV hk hr hrn hkw kv1 kv2 kv3 hV9 hab;go_wp2_with fail;refine(HFJ.out wr f (Y4 _ _)).mono ?_;rintro e w3 ⟨rfl,hb3⟩;rw[HFA.out];have HB3:=hid hb3;clear x4 x6 x9 x10 x11 xb hcell hb3;obtain⟨x4,x6,x9,x10,x11,xb⟩:=HCE.out w3 HB3.out;go_wp2_with fail;have HB4:=HB3;obtain⟨w4,hw4⟩:∃w4,w4=w3:=⟨_,rfl⟩;rw[← hw4]at x4 x6 x9 x10 x11 xb HB4⊢;clear hw4;have htj:=HTJ.out w4 HB4.out;rw[← HAB.out]at htj;have HTJ:=hid (fun(X:World) (_:Below wr.heap.size wr X) (hX:X=w4)=>htj);clear htj;refine(HTJ.out w4 HB4.out rfl).mono ?_;rintro e w5 ⟨hb5,rfl⟩;have HB5:=hid (HB4.out.trans (hb5.mono HB4.out.size));clear x4 x6 x9 x10 x11 xb hb5;obtain⟨x4,x6,x9,x10,x11,xb⟩:=HCE.out w5 HB5.out;have xc:=HCD.out w5 HB5.out;go_wp2_with fail;go_quiet (first|(go_at_call 39;with_reducible exact Calls.quiet_of_same (tX (HFT.out _))));have HB7:=hid (fy HB5.out nq);obtain⟨w7,hw7⟩:∃w7,w7=w5.drewN nq:=⟨_,rfl⟩;rw[← hw7]at HB7⊢;clear hw7 x4 x6 x9 x10 x11 xb;obtain⟨v4,y4,z4⟩:=HC4.out w7 HB7.out;cases ft with
      |false=>
       have HBAD:=hid (RlS.bad (HRJ2.out.up HB7.out) HHH.out HVV.out HFTE.out);go_wp2_with fail;go_ret;refine⟨(Mut.aA HB1.out).trans (HRJ.out.mu.trans (Mut.aA HB7.out)),_,rfl,?_⟩;rw[HBAD.out];rfl
      |true=>
       have HNXT:=hid (HNEXT.out w7 x gb _ kj vj fin h (V:Int) (HRJ2.out.up HB7.out) (by rw[HKL.out];exact hxi) HHH.out HVV.out HFTE.out);have HKP:=hid (HKEEP.out w7 HB7.out (V:Int));go_wp2_with fail;go_roundw
       case rel=>exact⟨j+1,_,_,by first|rfl|rw[az HLT.out HON9.out],by have:=HLT.out;omega,HNXT,HKP⟩
       case measure=>(try rw[az HLT.out HON9.out]);simp only[intOf];have:=HLT.out;omega
     |check f f2=>
      have hce:∀X,Below wr.heap.size wr X→X.cell? ⟨g,x * 13+4,none⟩=some (.int .i64 (bo wd:Nat))∧X.cell? ⟨g,x * 13+6,none⟩=some (.bool (eR wd))∧X.cell? ⟨g,x * 13+9,none⟩=some (.int .i64 3)∧X.cell? ⟨g,x * 13+10,none⟩=some (.string (aa f))∧X.cell? ⟨g,x * 13+11,none⟩=some (.string (aa f2))∧X.cell? ⟨w.heap.size,0,none⟩=some (.slice a nt cap):=by
       intro X hX;obtain⟨hr1,hr2⟩:=HROW.out X hX;have k4:=hr1.cell 4 (by simp[Tm.aj]);have k6:=hr1.cell 6 (by simp[Tm.aj]);have k9:=hr1.cell 9 (by simp[Tm.aj]);have k10:=hr1.cell 10 (by simp[Tm.aj]);have k11:=hr1.cell 11 (by simp[Tm.aj]);simp only[Tm.ag,hk,hr,av,Tm.bA,Z0,Z1]at k4 k6 k9 k10 k11;rw[kv1]at k4;rw[kv3]at k6;exact⟨k4,k6,k9,k10,k11,hr2⟩
      have HCE:=hid hce;have hfa:Tm.aV l.row f=(ra:Int):=by have:=HRA.out.first;rw[hr]at this;exact this
      have hfb:Tm.aV l.row f2=(rbb:Int):=by have:=HRA.out.last;rw[hr]at this;exact this
      have HFB:=hid hfb;have HFA:=hid hfa;obtain⟨V,hV⟩:∃V:Nat,V=Fx.bE u:=⟨_,rfl⟩;have hVV:Fx.av Fx.bE W l kj h=(V:Int):=by
       unfold Fx.av;rw[hr];simp only[];rw[hfa,hfb,if_neg (by omega),Int.toNat_natCast,Int.toNat_natCast];rw[HUU.out,hV];rfl
      have hV9:V≤4294967296:=by rw[hV];exact Nat.le_of_lt (Fx.jb u)
      have HCR:Hid (∀X,Calls Tryz.prog 101 #[.string (aa u)] X fun e w'=>e= .returned (.int .u32 (V:Nat))∧Below X.heap.size X w'):=hid (fun X=>by
       rw[hV];exact IU (aa u) X (by rw[aq];have:=HU8.out;omega))
      have wv:IntKind.i64.wrap (V:Int)=(V:Int):=IntWalk.i64_in _ ⟨by omega,by omega⟩;have wv2:wrap64 (V:Int)=(V:Int):=IntWalk.wrap64_in _ ⟨by omega,by omega⟩;clear hV;obtain⟨ft,hft⟩:∃ft,ft=dG wd (V:Int):=⟨_,rfl⟩;have HFT:Hid (∀X,Calls Tryz.prog 39 #[.int .i64 (V:Nat),.int .i64 (bo wd:Nat),.bool (eR wd)] X fun e w'=>e= .returned (.bool ft)∧X=w'):=hid (fun X=>by rw[hft];exact rj wd HKW.out (V:Int) (Fx.kH hV9) X);have HVV:=hid hVV;have HFTE:Hid (dG (Fx.wOf h.k) (V:Int)=ft):=hid (by rw[hft,HK.out];rfl);have HC4:Hid (∀X,Below wr.heap.size wr X→∃v:Int,X.cell? ⟨gb,x * 7+4,none⟩=some (.int .i64 v)∧X.frozen? ⟨gb,x * 7+4,none⟩=false):=hid (fun X hX=>aM.Gp (HRJ2.out.up hX).kv (by rw[HKL.out];exact hxi));obtain⟨x4,x6,x9,x10,x11,xb⟩:=HCE.out wr (Y4 _ _);clear hce hfa hft hVV hk hr hrn hkw kv1 kv2 kv3 hV9 hfb;go_wp2_with fail;refine(HFJ.out wr f (Y4 _ _)).mono ?_;rintro e w3 ⟨rfl,hb3⟩;rw[HFA.out];have HB3:=hid hb3;clear x4 x6 x9 x10 x11 xb hcell hb3;obtain⟨x4,x6,x9,x10,x11,xb⟩:=HCE.out w3 HB3.out;go_wp2_with fail;refine(HFJ.out w3 f2 HB3.out).mono ?_;rintro e w4 ⟨rfl,hb4⟩;rw[HFB.out];have HB4:=hid (HB3.out.trans (hb4.mono HB3.out.size));clear x4 x6 x9 x10 x11 xb hb4;obtain⟨x4,x6,x9,x10,x11,xb⟩:=HCE.out w4 HB4.out;go_wp2_with fail;refine(HTJ.out w4 HB4.out).mono ?_;rintro e w5 ⟨hb5,rfl⟩;have HB5:=hid (HB4.out.trans (hb5.mono HB4.out.size));clear x4 x6 x9 x10 x11 xb hb5;obtain⟨x4,x6,x9,x10,x11,xb⟩:=HCE.out w5 HB5.out;go_wp2_with fail;refine(HCR.out _).mono ?_;rintro e w6 ⟨rfl,hb6⟩;have HB6:=hid (HB5.out.trans (hb6.mono HB5.out.size));clear x4 x6 x9 x10 x11 xb hb6;obtain⟨x4,x6,x9,x10,x11,xb⟩:=HCE.out w6 HB6.out;go_wp2_with fail;go_quiet (first|(go_at_call 39;with_reducible exact Calls.quiet_of_same (tX (HFT.out _))));have HB7:=hid (fy HB6.out nq);obtain⟨w7,hw7⟩:∃w7,w7=w6.drewN nq:=⟨_,rfl⟩;rw[← hw7]at HB7⊢;clear hw7 x4 x6 x9 x10 x11 xb;obtain⟨v4,y4,z4⟩:=HC4.out w7 HB7.out;cases ft with
      |false=>
       have HBAD:=hid (RlS.bad (HRJ2.out.up HB7.out) HHH.out HVV.out HFTE.out);go_wp2_with fail;go_ret;refine⟨(Mut.aA HB1.out).trans (HRJ.out.mu.trans (Mut.aA HB7.out)),_,rfl,?_⟩;rw[HBAD.out];rfl
      |true=>
       have HNXT:=hid (HNEXT.out w7 x gb _ kj vj fin h (V:Int) (HRJ2.out.up HB7.out) (by rw[HKL.out];exact hxi) HHH.out HVV.out HFTE.out);have HKP:=hid (HKEEP.out w7 HB7.out (V:Int));go_wp2_with fail;go_roundw
       case rel=>exact⟨j+1,_,_,by first|rfl|rw[az HLT.out HON9.out],by have:=HLT.out;omega,HNXT,HKP⟩
       case measure=>(try rw[az HLT.out HON9.out]);simp only[intOf];have:=HLT.out;omega
    ·obtain rfl:j=on:=by omega
     have hd:decide ((j:Int) < (j:Int))=false:=by simp
     have hd2:decide (j < j)=false:=by simp
     have hrj:=HRJ.out;rw[HON.out,List.drop_length]at hrj;have HF9:=hid (show fin=some kj from hrj.run.symm);have HRE:=hid hrj;clear hrj;go_wp2_with fail;go_ret;refine⟨(Mut.aA HB1.out).trans HRE.out.mu,_,rfl,?_⟩;rw[HF9.out];exact⟨rfl,vj,HRE.out.kv⟩
end
end Go.Proofs.YtlomecfhobehnaaGreatDoor
