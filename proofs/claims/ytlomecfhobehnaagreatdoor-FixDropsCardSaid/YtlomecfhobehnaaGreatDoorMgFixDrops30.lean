import Derived.Test.YtlomecfhobehnaaGreatDoorMgFixDrops29
set_option linter.all false
namespace Go.Proofs.YtlomecfhobehnaaGreatDoor
open Lib (hid)
section
open Go Go.RowKit
open Rd
open Ly
theorem oy{W:Wri}:∀(l:Tm.Its) (ks:Nds),Fx.eU l=ks.len→(Fx.texts W l ks).length=ks.len
 | .nil,.nil,_=>rfl
 | .nil,.cons ..,h=>by simp[Fx.eU,Nds.len]at h
 | .cons ..,.nil,h=>by simp[Fx.eU,Nds.len]at h
 | .when ..,.nil,h=>by simp[Fx.eU,Nds.len]at h
 | .cons _ l,.cons a b c d e f g r,h=>by
  have:=oy (W:=W) l r (by simp only[Fx.eU,Nds.len]at h;omega);simp only[Fx.texts,Z6,Nds.len,this]
 | .when _ _ _ l,.cons a b c d e f g r,h=>by
  have:=oy (W:=W) l r (by simp only[Fx.eU,Nds.len]at h;omega);simp only[Fx.texts,Z6,Nds.len,this]
theorem IW{U X:World}{rb cap capi gi gb gcap B:Nat}{tys:List Tm.Ty}{a:Option Addr}{bs vs:List Value}{bl:List Nat}{W:Wri}{l:Tm.Its}{ks:Nds}(hE:FxE U rb tys a cap)(hFT:∀t∈tys,Tm.bg t)(hWl:fs W)(hF:Tm.bG l)(hW:∀i a c b r,l.drop i= .when a c b r→kX tys W b)(hSt:∀i h r t,l.drop i= .cons h r→h.k= .struct t→uP tys W t)
  (hU:Below U.heap.size U X)(hoi:ak U (rb+1) 70 13 (some ⟨gi,0,none⟩) l.len capi bs)(hei:Tm.bu U rb l bs)(hk:aM X B ks (some ⟨gb,0,none⟩) gcap bl vs)(hok:ks.ok)(htot:ks.tot≤800000)(hw:(aF W l ks).isSome=true)(hll:l.len≤100000){i j:Nat}(hij:i≤j+1)(hj:j < l.len){u:Tm.Wd}(hu:Fx.jL W l ks i j=some u)(hul:u.length≤800000):
  Calls Tryz.prog 100 #[.agg #[.slice a tys.length cap],.slice (some ⟨gi,0,none⟩) l.len capi,.slice (some ⟨gb,0,none⟩) l.len gcap,.int .i64 (i:Nat),.int .i64 (j:Nat)] X fun e w'=>Below X.heap.size X w'∧e= .returned (.tuple #[.string (aa u),.nilIface]):=by
 have h2:=Fx.dO.1 hw;have hlen:ks.len=l.len:=by rw[← Fx.gE];exact h2.1.symm
 have hci:l.len≤capi:=aW hoi;have hcg:l.len≤gcap:=by rw[← hlen];exact aW hk.own
 obtain⟨Bt,tvs,ho,he⟩:=hE.ex;refine DD (Fx.texts W l ks) X a tys.length cap capi gcap gi gb l.len i j u hll hci hcg (by rw[oy l ks h2.1,hlen]) hj hij (by omega) hu (fun k a2 Y hkl hT hY=> ?_);exact FJ tys a2 U Y rb cap Bt a tvs (hU.trans (hY.mono hU.size)) ho he hFT hE.few hE.nodup ⟨gi,k * 13,none⟩ ⟨gb,k * 7,none⟩ (fun Z fb hZ hfm=>by
  exact IC tys W hWl l hF hW hSt U X rb capi gcap B gi gb bs vs ks bl hU hoi hei hk.own hk.enc hok (by omega) k hkl (by rw[hlen];exact hkl) a2 hT Z fb (hY.trans (hZ.mono hY.size)) hfm)
structure RlS(w wt:World)(B:Nat)(gk:Option Addr)(gcap:Nat)(bl:List Nat)(vs:List Value)(C:Tm.Wd→Nat)(W:Wri)(l:Tm.Its)(ko:Option Nds)(O:List Nat)(ks:Nds):Prop where
 mu:Mut w wt (aB gk++bl)
 kv:aM wt B ks gk gcap bl vs
 run:Fx.eG C W l O ks=ko
 wrt:(aF W l ks).isSome=true
 ok:ks.ok
 tot:ks.tot≤800000
 sub:∀i∈O,i∈Fx.ord l.row
theorem RlS.up{w wt X:World}{B gcap:Nat}{gk:Option Addr}{bl:List Nat}{vs:List Value}{C:Tm.Wd→Nat}{W:Wri}{l:Tm.Its}{ko:Option Nds}{O:List Nat}{ks:Nds}(h:RlS w wt B gk gcap bl vs C W l ko O ks)(hb:Below wt.heap.size wt X):RlS w X B gk gcap bl vs C W l ko O ks:=
 ⟨h.mu.trans (Mut.aA hb),h.kv.an fun b _ hl=>hb.block b hl,h.run,h.wrt,h.ok,h.tot,h.sub⟩
theorem RlS.next{w wt:World}{B gb gcap i:Nat}{bl:List Nat}{vs:List Value}{C:Tm.Wd→Nat}{W:Wri}{l:Tm.Its}{ko:Option Nds}{O:List Nat}{ks:Nds}{h:Tm.Hd}{V:Int}(hs:RlS w wt B (some ⟨gb,0,none⟩) gcap bl vs C W l ko (i::O) ks)(hC:∀u,C u < 4294967296)(hWl:fs W)(hF:Tm.bG l)(hi:i < ks.len)(hh:Fx.eT l i=some h)(hV:Fx.av C W l ks h=V)(hf:dG (Fx.wOf h.k) V=true):
  RlS w (wt.setCell ⟨gb,i * 7+4,none⟩ (.int .i64 V)) B (some ⟨gb,0,none⟩) gcap bl (vs.set (i * 7+4) (.int .i64 V)) C W l ko O (Fx.dR i V ks):=by
 subst hV;have h1:Fx.gK C W l ks i=some (Fx.dR i (Fx.av C W l ks h) ks):=by unfold Fx.gK;rw[hh];simp only[];rw[if_pos hf]
 refine⟨hs.mu.trans (Mut.setCell (by simp[aB]) _ _),aM.dR hs.kv hi _,?_,Fx.mG hF (hs.sub i (by simp)) h1 hs.wrt,Fx.vc _ _ _ (Fx.re hC hWl hs.wrt hs.tot h) hs.ok,by rw[Fx.oq];exact hs.tot,fun j hj=>hs.sub j (by simp[hj])⟩;have h2:=hs.run;unfold Fx.eG at h2;rw[h1]at h2;exact h2
theorem RlS.bad{w wt:World}{B gb gcap i:Nat}{bl:List Nat}{vs:List Value}{C:Tm.Wd→Nat}{W:Wri}{l:Tm.Its}{ko:Option Nds}{O:List Nat}{ks:Nds}{h:Tm.Hd}{V:Int}(hs:RlS w wt B (some ⟨gb,0,none⟩) gcap bl vs C W l ko (i::O) ks)(hh:Fx.eT l i=some h)(hV:Fx.av C W l ks h=V)(hf:dG (Fx.wOf h.k) V=false):ko=none:=by
 subst hV;rw[← hs.run];unfold Fx.eG Fx.gK;rw[hh];simp only[];rw[if_neg (by rw[hf];decide)];rfl
theorem rj(wd:Tm.Wd)(hk:(Tm.kindOf wd).isSome=true)(V:Int)(hV:Ex.InR V)(W:World):Calls Tryz.prog 39 #[.int .i64 V,.int .i64 (bo wd:Nat),.bool (eR wd)] W fun e w'=>e= .returned (.bool (dG wd V))∧W=w':=by
 obtain⟨wo1,wo2,wo3⟩:=mh hk;cases hs:eR wd with
 |true=>
  refine(sU V (bo wd) W hV.1 hV.2 (by omega) (by omega)).mono ?_;rintro e w' ⟨rfl,rfl⟩;refine⟨?_,rfl⟩;unfold dG;rw[hs,if_pos rfl]
  congr 2
 |false=>
  refine(qo V (bo wd) W hV.1 hV.2 (by omega) (by omega)).mono ?_;rintro e w' ⟨rfl,rfl⟩;refine⟨?_,rfl⟩;unfold dG;rw[hs,if_neg (by decide)]
  congr 3
  rw[Bool.eq_iff_iff,beq_iff_eq,decide_eq_true_iff];omega
theorem RlS.item{w wt:World}{B gb gcap i:Nat}{bl:List Nat}{vs:List Value}{C:Tm.Wd→Nat}{W:Wri}{l:Tm.Its}{ko:Option Nds}{O:List Nat}{ks:Nds}(hs:RlS w wt B (some ⟨gb,0,none⟩) gcap bl vs C W l ko (i::O) ks)(hF:Tm.bG l)(hR:Fx.jQ l.row){U:World}{rb gi capi:Nat}{bs:List Value}(hoi:ak U (rb+1) 70 13 (some ⟨gi,0,none⟩) l.len capi bs)(hei:Tm.bu U rb l bs):
  ∃(h:Tm.Hd) (cv:Value) (wd:Tm.Wd) (a b:Nat),Fx.eT l i=some h∧i < l.len∧i < ks.len∧Tm.isNone h.ay=false∧h.k= .scalar wd∧(Tm.kindOf wd).isSome=true∧ae U gi (i * 13) 70 (Tm.ag h cv)∧Fx.Aa l.row i h.ay a b:=by
 obtain⟨h,h1,h2⟩:=Fx.lJ (hs.sub i (by simp));have hf:=Fx.fV hF h1;obtain⟨wd,hwd,_⟩:=Fx.py hf h2;obtain⟨r,hdr⟩:=Fx.ow l i h h1;obtain⟨cv,_,hrow,_⟩:=Tm.bu.hd hoi hei hdr;have hrow2:=Fx.jN l i;rw[h1]at hrow2;obtain⟨a,b,hab⟩:=Fx.IL hR hrow2 h2;have hil:i < l.len:=by rw[← Tm.cT];exact(List.getElem?_eq_some_iff.1 hrow2).1
 have hlen:ks.len=l.len:=by rw[← Fx.gE];exact(Fx.dO.1 hs.wrt).1.symm
 refine⟨h,cv,wd,a,b,h1,hil,by omega,h2,hwd,?_,hrow,hab⟩;have:=hf.1;rw[hwd]at this;exact this
theorem aM.count{X:World}{B gb gcap a:Nat}{ks:Nds}{bl:List Nat}{vs:List Value}(h:aM X B ks (some ⟨gb,0,none⟩) gcap bl vs)(ha:a < ks.len):∃(d:Nd) (g2:Option Addr) (c2:Nat),Fx.nth a ks=some d∧X.cell? ⟨gb,a * 7+6,none⟩=some (.slice g2 d.kids.len c2):=by
 obtain⟨d,r,hd1,_⟩:=ks.cF a ha;obtain⟨g2,c2,bs,b1,e1,_⟩:=aU.nd h.own h.enc hd1;have k:=e1.cell 6 (by simp[ab]);simp only[ab,Z0,Z1]at k;exact⟨d,g2,c2,Fx.ye a ks d r hd1,k⟩
theorem aM.Gp{X:World}{B gb gcap a:Nat}{ks:Nds}{bl:List Nat}{vs:List Value}(h:aM X B ks (some ⟨gb,0,none⟩) gcap bl vs)(ha:a < ks.len):∃v:Int,X.cell? ⟨gb,a * 7+4,none⟩=some (.int .i64 v)∧X.frozen? ⟨gb,a * 7+4,none⟩=false:=by
 obtain⟨d,r,hd1,_⟩:=ks.cF a ha;obtain⟨g2,c2,bs,b1,e1,_⟩:=aU.nd h.own h.enc hd1;have k:=e1.cell 4 (by simp[ab]);simp only[ab,Z0,Z1]at k;exact⟨d.val,k,e1.frozen 4 (by simp[ab])⟩
end
end Go.Proofs.YtlomecfhobehnaaGreatDoor
