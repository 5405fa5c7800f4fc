import Derived.Test.YtlomecfhobehnaaGreatDoorMgFixDrops28
set_option linter.all false
namespace Go.Proofs.YtlomecfhobehnaaGreatDoor
open Lib (hid)
section
open Go Go.RowKit
open Rd
open Ly
structure BkS(w wr:World)(B:Nat)(gk:Option Addr)(gcap i:Nat)(bl:List Nat)(vs:List Value)(C:Tm.Wd→Nat)(W:Wri)(Bf:Fx.Fxr)(l:Tm.Its)(ks q r:Nds):Prop where
 mu:Mut w wr bl
 own:ak wr B 28 7 gk ks.len gcap vs
 enc:aU wr B (q.app r) bl vs
 Gi:q.len=i
 len:q.len+r.len=ks.len
 rest:Fx.mS C W Bf q (l.drop i) r=Fx.aO C W Bf l ks
 wrt:(aF W (l.drop i) r).isSome=true
 ok:r.ok
 tot:r.tot≤800000
theorem rh{l r:Tm.Its}{i:Nat}{h:Tm.Hd}(hd:l.drop i= .cons h r):l.drop (i+1)=r:=by
 induction i generalizing l with
 |zero=>cases l <;> simp_all[Tm.Its.drop]
 |succ i ih=>cases l with
  |nil=>simp[Tm.Its.drop]at hd
  |cons h0 l=>exact ih hd
  |when a c b l=>exact ih hd
theorem ri{l r b:Tm.Its}{i a:Nat}{c:Ex.X}(hd:l.drop i= .when a c b r):l.drop (i+1)=r:=by
 induction i generalizing l with
 |zero=>cases l <;> simp_all[Tm.Its.drop]
 |succ i ih=>cases l with
  |nil=>simp[Tm.Its.drop]at hd
  |cons h0 l=>exact ih hd
  |when a c b l=>exact ih hd
theorem BkS.part{w wr:World}{B gcap i gb:Nat}{bl:List Nat}{vs:List Value}{C:Tm.Wd→Nat}{W:Wri}{Bf:Fx.Fxr}{l:Tm.Its}{ks q r:Nds}{d:Nd}(hs:BkS w wr B (some ⟨gb,0,none⟩) gcap i bl vs C W Bf l ks q (d.put r))(hnd:([gb]++bl).Nodup):
  ∃(g3:Option Addr) (c3:Nat) (b3:List Nat) (vs3:List Value),aM wr B d.kids g3 c3 b3 vs3∧(∀x∈aB g3++b3,x∈bl)∧gb∉aB g3++b3∧ae wr gb (i * 7) 28 (ab d.name d.kind d.at_ d.size d.val d.text (.slice g3 d.kids.len c3))∧d.kids.ok∧d.kids.tot≤800000∧
   ∀(w5:World) (p:Nds) (vs3':List Value),p.len=d.kids.len→Mut wr w5 (aB g3++b3)→aM w5 B p g3 c3 b3 vs3'→Fx.mS C W Bf (q.app (Nd.put {d with kids:=p} .nil)) (l.drop (i+1)) r=Fx.aO C W Bf l ks→(aF W (l.drop (i+1)) r).isSome=true→BkS w w5 B (some ⟨gb,0,none⟩) gcap (i+1) bl vs C W Bf l ks (q.app (Nd.put {d with kids:=p} .nil)) r:=by
 obtain⟨e1,e2,e3,rfl,e5,e6,e7,e8,e9⟩:=hs;have hn2:=List.nodup_append.1 hnd;obtain⟨g3,c3,b3,vs3,i1,i2,i3,i4⟩:=aU.focus q d r bl vs e3 hn2.2.1;have hrow:=e2.row.2.2.2.2.part (q.len * 7) 7;rw[Nat.zero_add,i3]at hrow;have hgb:gb∉bl:=fun hb=>hn2.2.2 gb (by simp) gb hb rfl
 have ht:d.tot+r.tot≤800000:=by rw[← fP];exact e9
 have ht3:d.kids.tot≤d.tot:=by unfold Nd.tot;omega
 refine⟨g3,c3,b3,vs3,i1,i2,fun hb=>hgb (i2 _ hb),hrow,(qI e8).1.2,by omega,fun w5 p vs3' hpl hm hk5 hr hw=> ?_⟩;refine⟨e1.trans (hm.mono i2),e2.an fun x hx=>hm.block _ (e2.gY x hx) (fun hb=> ?_),?_,?_,?_,hr,hw,(qI e8).2,by omega⟩
 ·cases hx;exact hgb (i2 _ hb)
 ·rw[Nds.dM];exact i4 w5 p vs3' hm hpl hk5
 ·rw[Nds.bZ];rfl
 ·rw[Nds.bZ];have:(d.put r).len=r.len+1:=rfl;show q.len+1+r.len=ks.len;omega
theorem BkS.step{U w wr:World}{rb cap capi gi B gcap i gb:Nat}{tys:List Tm.Ty}{a:Option Addr}{bl:List Nat}{vs bs:List Value}{C:Tm.Wd→Nat}{W:Wri}{Bf:Fx.Fxr}{l:Tm.Its}{ks q r:Nds}(hs:BkS w wr B (some ⟨gb,0,none⟩) gcap i bl vs C W Bf l ks q r)(hnd:([gb]++bl).Nodup)(hi:i < l.len)
  (hE:FxE U rb tys a cap)(hF:Tm.bG l)(hB:∀i ai c b r,l.drop i= .when ai c b r→xQ U rb tys a cap W (Fx.fu C W Bf b) b)(hS:∀i h r t,l.drop i= .cons h r→h.k= .struct t→II U rb tys a cap W Bf t)(hL:Fx.Gb Bf)
  (hU:Below U.heap.size U w)(hUB:U.heap.size≤B)(hbl:∀b∈bl,B≤b)(hoi:ak U (rb+1) 70 13 (some ⟨gi,0,none⟩) l.len capi bs)(hei:Tm.bu U rb l bs):
  ∃(g3:Option Addr) (c3:Nat) (b3:List Nat) (o:Option Nds),(∀x∈aB g3++b3,x∈bl)∧(∀X,Below wr.heap.size wr X→Calls Tryz.prog 97 #[.agg #[.slice a tys.length cap],.pointer (some ⟨gi,i * 13,none⟩),.pointer (some ⟨gb,i * 7,none⟩)] X (ep X B g3 c3 b3 o))∧
   (o=none→Fx.aO C W Bf l ks=none)∧∀(w5:World) (p:Nds) (vs3':List Value),o=some p→Mut wr w5 (aB g3++b3)→aM w5 B p g3 c3 b3 vs3'→∃q' r',BkS w w5 B (some ⟨gb,0,none⟩) gcap (i+1) bl vs C W Bf l ks q' r':=by
 have hUr:Below U.heap.size U wr:=hs.mu.below hU hU.size (fun b hb=>Nat.le_trans hUB (hbl b hb));cases r with
 |nil=>
  have:=hs.wrt;rcases Tm.cF l i hi with⟨h,r,hdr⟩|⟨a,c,bd,r,hdr⟩ <;> rw[hdr]at this <;> cases this
 |cons nm kd at_ sz v tx kk r=>
  obtain⟨g3,c3,b3,vs3,k1,k2,k3,k4,k5,k6,k7⟩:=BkS.part (d:=⟨nm,kd,at_,sz,v,tx,kk⟩) hs hnd;simp only[]at k1 k4 k5 k6 k7;have hup:∀X,Below wr.heap.size wr X→Below U.heap.size U X∧ae X gb (i * 7) 28 (ab nm kd at_ sz v tx (.slice g3 kk.len c3))∧aM X B kk g3 c3 b3 vs3:=fun X hX=>⟨hUr.trans (hX.mono hUr.size),k4.below hX k4.lt,k1.an fun b _ hl=>hX.block b hl⟩
  rcases Tm.cF l i hi with⟨h,l',hdr⟩|⟨ai,c,bd,l',hdr⟩
  ·obtain⟨cv,hcv,hrow,hnx⟩:=Tm.bu.hd hoi hei hdr;have hwr:=hs.wrt;rw[hdr]at hwr;have hw2:=Fx.bR hwr;have hrest:=hs.rest;rw[hdr]at hrest;refine⟨g3,c3,b3,Fx.hdF Bf h kk,k2,fun X hX=> ?_,fun hno=> ?_,fun w5 p vs5 hso hm hk5=>⟨_,r,k7 w5 p vs5 (Fx.IM hL hso) hm hk5 ?_ ?_⟩⟩
   ·obtain⟨x1,x2,x3⟩:=hup X hX;cases hk:h.k with
    |scalar w0=>
     have:Fx.hdF Bf h kk=some kk:=by unfold Fx.hdF;rw[hk]
     rw[this];exact oP U X rb tys.length cap gi (i * 13) gb (i * 7) B c3 0 a g3 b3 vs3 cv h kk x1 hrow (fun t ht=>by rw[hk]at ht;cases ht) x3
    |bytes=>
     have:Fx.hdF Bf h kk=some kk:=by unfold Fx.hdF;rw[hk]
     rw[this];exact oP U X rb tys.length cap gi (i * 13) gb (i * 7) B c3 0 a g3 b3 vs3 cv h kk x1 hrow (fun t ht=>by rw[hk]at ht;cases ht) x3
    |struct t0=>
     obtain⟨t,htm,rfl,W',hWW,hC⟩:=hS i h l' t0 hdr hk;have hpw:=hw2.1;unfold aY at hpw;cases hmb:Tm.ba h with
     |true=>
      have hmh:Tm.cP h=true:=hmb;have:Fx.hdF Bf h kk=Fx.dI (Bf t.name) kk:=by unfold Fx.hdF;rw[hk];simp only[];rw[if_pos hmh]
      rw[this];rw[if_pos hmh]at hpw;split at hpw
      ·cases hpw
      ·exact Ad U X rb cap gi (i * 13) gb (i * 7) B c3 tys a g3 hE b3 vs3 cv ⟨nm,kd,at_,sz,v,tx,kk⟩ W W' (Bf t.name) h t htm hk hmb hWW hC x1 hrow (fun ks p hp=>hL t.name ks p hp) x2 x3 hUB k3 k5 k6 hpw
     |false=>
      have hmh:Tm.cP h=false:=hmb;have:Fx.hdF Bf h kk=Bf t.name kk:=by unfold Fx.hdF;rw[hk];simp only[];rw[if_neg (by rw[hmh];decide)]
      rw[this];rw[if_neg (by rw[hmh];decide)]at hpw;exact Gh U X rb cap gi (i * 13) gb (i * 7) B c3 tys a g3 hE b3 vs3 cv ⟨nm,kd,at_,sz,v,tx,kk⟩ W W' (Bf t.name) h t htm hk hmb hC x1 hrow x2 x3 hUB k3 k5 k6 (by rw[← hWW];exact Fx.bj hk hpw)
   ·rw[← hrest];exact Fx.sn (d:=⟨nm,kd,at_,sz,v,tx,kk⟩) hno
   ·rw[rh hdr,← hrest];exact(Fx.Gc (d:=⟨nm,kd,at_,sz,v,tx,kk⟩) hso).symm
   ·rw[rh hdr];exact hw2.2
  ·obtain⟨cb,gc,capc,bsc,hxc,hoc,hec,hrow,hnx⟩:=Tm.bu.wh hoi hei hdr;have hwr:=hs.wrt;rw[hdr]at hwr;have hw2:=Fx.bI hwr;have hrest:=hs.rest;rw[hdr]at hrest;refine⟨g3,c3,b3,Fx.whF C W Bf bd v kk,k2,fun X hX=> ?_,fun hno=> ?_,fun w5 p vs5 hso hm hk5=>⟨_,r,k7 w5 p vs5 ?_ hm hk5 ?_ ?_⟩⟩
   ·obtain⟨x1,x2,x3⟩:=hup X hX
    by_cases hv:v=0
    ·subst hv;have:Fx.whF C W Bf bd 0 kk=some kk:=by unfold Fx.whF;rw[if_pos rfl]
     rw[this];exact DN U X rb tys.length cap gi (i * 13) gb (i * 7) B c3 0 ai a g3 b3 vs3 _ _ ⟨nm,kd,at_,sz,0,tx,kk⟩ x1 hrow x2 x3
    ·have:Fx.whF C W Bf bd v kk=Fx.fu C W Bf bd kk:=by unfold Fx.whF;rw[if_neg hv]
     rw[this];exact Gg U X rb cap gi (i * 13) gb (i * 7) B c3 ai capc tys a g3 gc b3 vs3 bsc _ ⟨nm,kd,at_,sz,v,tx,kk⟩ W (Fx.fu C W Bf bd) bd (hB i ai c bd l' hdr) x1 hrow hoc hec x2 hv x3 hUB k3 k5 k6 (hw2.1 hv)
   ·rw[← hrest];exact Fx.so (d:=⟨nm,kd,at_,sz,v,tx,kk⟩) hno
   ·unfold Fx.whF at hso;split at hso
    ·cases hso;rfl
    ·exact Fx.xT hso
   ·rw[ri hdr,← hrest];exact(Fx.Gd (d:=⟨nm,kd,at_,sz,v,tx,kk⟩) hso).symm
   ·rw[ri hdr];exact hw2.2.2
end
end Go.Proofs.YtlomecfhobehnaaGreatDoor
