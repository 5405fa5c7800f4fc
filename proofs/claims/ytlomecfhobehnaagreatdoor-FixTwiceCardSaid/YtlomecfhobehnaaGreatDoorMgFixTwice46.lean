import Derived.Test.YtlomecfhobehnaaGreatDoorMgFixTwice0
import Derived.Test.YtlomecfhobehnaaGreatDoorMgFixTwice45
import Derived.Test.YtlomecfhobehnaaGreatDoorMgFixTwice33
import Derived.Test.YtlomecfhobehnaaGreatDoorMgFixTwice5
set_option linter.unusedVariables false
set_option linter.unusedSimpArgs false
namespace Go.Proofs.YtlomecfhobehnaaGreatDoor
open Lib (hid)
section
open Go Go.RowKit
open Rd
open Ly
namespace Fx
open Tm Ly
def E5(S:Sub):Prop:=∀nm st ks st',S nm st=some (ks,st')→Tdy ks
def TdN(d:Nd):Prop:=(d.kind=1∨d.kind=2→d.kids= .nil)∧Tdy d.kids
theorem zx{d:Nd}{r:Nds}(h:TdN d)(hr:Tdy r):Tdy (d.put r):=⟨h.1,h.2,hr⟩
theorem tE{S:Sub}(hS:E5 S){s:Wd}{N:Ex.Names}{h:Hd}{st st':St}{d:Nd}(ho:bF S s N h st=some (d,st')):TdN d:=by
 unfold bF at ho
 cases hn:nod st with
 |none=>rw[hn]at ho;cases ho
 |some st1=>
  rw[hn]at ho
  simp only[Option.bind_some]at ho
  cases hk:h.k with
  |scalar w=>
   rw[hk]at ho
   simp only[]at ho
   obtain⟨p,_,h2⟩:=Option.map_eq_some_iff.1 ho
   cases h2
   exact⟨fun _=>rfl,trivial⟩
  |bytes=>
   rw[hk]at ho
   simp only[]at ho
   obtain⟨k,_,h1⟩:=Option.bind_eq_some_iff.1 ho
   obtain⟨p,_,h2⟩:=Option.map_eq_some_iff.1 h1
   cases h2
   exact⟨fun _=>rfl,trivial⟩
  |struct t=>
   rw[hk]at ho
   simp only[]at ho
   obtain⟨p,h1,h2⟩:=Option.map_eq_some_iff.1 ho
   cases h2
   exact⟨fun h=>(by rcases h with h|h <;> simp at h),hS _ _ _ _ h1⟩
theorem zy{f:St→Option (Nd×St)}(hf:∀st st' d,f st=some (d,st')→TdN d):∀(k:Nat) (st st':St) (ks:Nds),Ly.rep f k st=some (ks,st')→Tdy ks
 |0,st,st',ks,h=>by cases h;trivial
 |k+1,st,st',ks,h=>by
  have h2:(f st).bind (fun p=>(Ly.rep f k p.2).map fun q=>(p.1.put q.1,q.2))=some (ks,st'):=h
  obtain⟨p,h3,h4⟩:=Option.bind_eq_some_iff.1 h2
  obtain⟨q,h5,h6⟩:=Option.map_eq_some_iff.1 h4
  cases h6
  exact zx (hf _ _ _ h3) (zy hf k _ _ _ h5)
theorem F5{S:Sub}(hS:E5 S){s:Wd}{N:Ex.Names}{h:Hd}{st st':St}{d:Nd}(ho:hdR S s N h st=some (d,st')):TdN d:=by
 unfold hdR at ho
 split at ho
 ·unfold gV at ho
  obtain⟨st1,_,h1⟩:=Option.bind_eq_some_iff.1 ho
  obtain⟨k,_,h2⟩:=Option.bind_eq_some_iff.1 h1
  split at h2
  ·cases h2
  ·obtain⟨p,h3,h4⟩:=Option.map_eq_some_iff.1 h2
   cases h4
   exact⟨fun h=>(by rcases h with h|h <;> simp at h),zy (fun _ _ _=>tE hS) _ _ _ _ h3⟩
 ·exact tE hS ho
theorem oh{S:Sub}(hS:E5 S)(s:Wd):∀(l:Its) (N N':Ex.Names) (st st':St) (ks:Nds),bJ S s l N st=some (ks,N',st')→Tdy ks
 | .nil,N,N',st,st',ks,h=>by cases h;trivial
 | .cons h l,N,N',st,st',ks,ho=>by
  cases h1:hdR S s N h st with
  |none=>rw[fO h1]at ho;cases ho
  |some p=>
   obtain⟨d,st1⟩:=p
   rw[py h1]at ho
   obtain⟨⟨r2,N2,s2⟩,h2,h3⟩:=Option.map_eq_some_iff.1 ho
   cases h3
   exact zx (F5 hS h1) (oh hS s l _ _ _ _ _ h2)
 | .when a c b l,N,N',st,st',ks,ho=>by
  rw[jh]at ho
  unfold eS at ho
  obtain⟨p,h1,h2⟩:=Option.bind_eq_some_iff.1 ho
  obtain⟨⟨r2,N2,s2⟩,h3,h4⟩:=Option.map_eq_some_iff.1 h2
  cases h4
  obtain⟨st1,_,h5⟩:=Option.bind_eq_some_iff.1 h1
  obtain⟨v,_,h6⟩:=Option.bind_eq_some_iff.1 h5
  obtain⟨z,h7,h8⟩:=Option.map_eq_some_iff.1 h6
  cases h8
  refine⟨fun h=>(by rcases h with h|h <;> simp at h),?_,oh hS s l _ _ _ _ _ h3⟩
  split at h7
  ·cases h7;trivial
  ·exact oh hS s b _ _ _ _ _ h7
theorem tF(s:Wd):∀l:List Ty,E5 (rdS s l)
 |[],nm,st,ks,st',h=>by cases h
 |t::r,nm,st,ks,st',h=>by
  by_cases hn:t.name=nm
  ·subst hn
   rw[sY]at h
   obtain⟨p,h1,h2⟩:=Option.map_eq_some_iff.1 h
   obtain⟨k2,N2,st2⟩:=p
   cases h2
   exact oh (tF s r) s _ _ _ _ _ _ h1
  ·rw[jl hn]at h
   exact tF s r nm st ks st' h
theorem Dz{tys:List Ty}{root s:Wd}{d:Nd}(h:aJ tys root s=some d):TdN d:=by
 unfold aJ at h
 obtain⟨p,h1,h2⟩:=Option.bind_eq_some_iff.1 h
 split at h2
 ·cases h2
  exact tE (tF s _) (st':=p.2) (d:=p.1) h1
 ·cases h2
theorem qc(f:Nd→Nd):∀(p:List Nat) (d x:Nd),dZ p d=some x→di (fun _=>f x) p d=di f p d
 |[],d,x,h=>by cases h;rfl
 |k::p,d,x,h=>by
  have h2:(nth k d.kids).bind (dZ p)=some x:=h
  obtain⟨y,h3,h4⟩:=Option.bind_eq_some_iff.1 h2
  show({d with kids:=atN (di (fun _=>f x) p) k d.kids}:Nd)={d with kids:=atN (di f p) k d.kids}
  congr 1
  have:∀(j:Nat) (X:Nds),nth j X=some y→atN (di (fun _=>f x) p) j X=atN (di f p) j X:=by
   intro j X
   induction j generalizing X with
   |zero=>
    cases X with
    |nil=>intro h;cases h
    |cons a b c e f' g x' r=>
     intro h
     cases h
     show(di (fun _=>f x) p _).put r=(di f p _).put r
     rw[qc f p _ x h4]
   |succ j ih=>
    cases X with
    |nil=>intro h;cases h
    |cons a b c e f' g x' r=>
     intro h
     show Nds.cons a b c e f' g x' (atN _ j r)=Nds.cons a b c e f' g x' (atN _ j r)
     rw[ih r h]
  exact this k d.kids h3
theorem tG(f:Nd→Nd)(hf:∀d:Nd,d.ok→(f d).ok):∀(p:List Nat) (d:Nd),d.ok→(di f p d).ok
 |[],d,h=>hf d h
 |k::p,d,h=>by
  refine⟨h.1,?_⟩
  show(atN (di f p) k d.kids).ok
  have:∀(j:Nat) (X:Nds),X.ok→(atN (di f p) j X).ok:=by
   intro j X
   induction j generalizing X with
   |zero=>
    cases X with
    |nil=>exact id
    |cons a b c e f' g x' r=>exact fun h=>⟨(tG f hf p ⟨a,b,c,e,f',g,x'⟩ ⟨h.1,h.2.1⟩).1,(tG f hf p ⟨a,b,c,e,f',g,x'⟩ ⟨h.1,h.2.1⟩).2,h.2.2⟩
   |succ j ih=>
    cases X with
    |nil=>exact id
    |cons a b c e f' g x' r=>exact fun h=>⟨h.1,h.2.1,ih r h.2.2⟩
  exact this k d.kids h.2
theorem vT(f:Nd→Nd)(b:Nat)(hf:∀d:Nd,(f d).tot≤d.tot+b):∀(p:List Nat) (d:Nd),(di f p d).tot≤d.tot+b
 |[],d=>hf d
 |k::p,d=>by
  have:∀(j:Nat) (X:Nds),(atN (di f p) j X).tot≤X.tot+b:=by
   intro j X
   induction j generalizing X with
   |zero=>
    cases X with
    |nil=>exact Nat.zero_le _
    |cons a b' c e f' g x' r=>
     have h1:=vT f b hf p ⟨a,b',c,e,f',g,x'⟩
     have h2:(atN (di f p) 0 (.cons a b' c e f' g x' r)).tot=(di f p ⟨a,b',c,e,f',g,x'⟩).tot+r.tot:=rfl
     have h3:(Nds.cons a b' c e f' g x' r).tot=Nd.tot ⟨a,b',c,e,f',g,x'⟩+r.tot:=rfl
     omega
   |succ j ih=>
    cases X with
    |nil=>exact Nat.zero_le _
    |cons a b' c e f' g x' r=>
     have h1:=ih r
     simp only[atN,Nds.tot]
     omega
  have h2:=this k d.kids
  show(d.text.length+8+(atN (di f p) k d.kids).tot)≤d.text.length+8+d.kids.tot+b
  omega
end Fx
end
section
open Go Go.RowKit
open Rd
open Ly
theorem yz{w:World}{g off i:Nat}{e:TypeId}{xs:List Value}(h:ae w g off e xs)(hi:i < xs.length)(v:Value):(w.setCell ⟨g,off+i,none⟩ v).heap[g]? =(w.setCells g off (xs.set i v)).heap[g]? :=by
 obtain⟨cur,fz,h1,h2,h3⟩:=h
 have hle:off+xs.length≤cur.size:=by
  have h4:=h2 (xs.length - 1) (by omega)
  have h5:(xs[xs.length - 1]?).isSome=true:=by simp;omega
  rw[← h4]at h5
  have:=(Array.getElem?_eq_some_iff.1 (Option.isSome_iff_exists.1 h5).choose_spec).1
  omega
 obtain⟨cur',a1,a2,a3⟩:=iN g e fz (xs.set i v) off w cur h1 (by rw[List.length_set];exact hle)
 rw[a1]
 have:(w.setCell ⟨g,off+i,none⟩ v).heap[g]? =some (.cells (cur.setIfInBounds (off+i) v) e fz):=by simp[World.setCell,Array.getElem?_modify,h1]
 rw[this]
 congr 2
 apply Array.ext_getElem?
 intro k
 rw[a3 k,Array.getElem?_setIfInBounds,List.length_set]
 by_cases hk:off≤k∧k < off+xs.length
 ·rw[if_pos hk,List.getElem?_set]
  by_cases he:off+i=k
  ·rw[if_pos he,if_pos (by omega),if_pos (by omega)]
   rw[if_pos (by omega)]
  ·rw[if_neg he,if_neg (by omega),← h2 (k - off) (by omega)]
   congr 1;omega
 ·rw[if_neg hk,if_neg (by omega)]
theorem F6{w:World}{g o o':Nat}{e e':TypeId}{xs ys:List Value}(h:ae w g o e xs)(h':ae w g o' e' ys):e=e':=by
 obtain⟨cur,fz,h1,_⟩:=h
 obtain⟨cur',fz',h2,_⟩:=h'
 rw[h1]at h2
 injection h2 with h2
 injection h2
theorem aQ.Gp{w w':World}{B:Nat}{ks:Nds}{ga:Option Addr}{cap:Nat}{bl:List Nat}{vs:List Value}(h:aQ w B ks ga cap bl vs)(hk:∀b∈aU ga++bl,w'.heap[b]? =w.heap[b]?):aQ w' B ks ga cap bl vs:=
 ⟨h.own.al fun x hx=>hk _ (List.mem_append_left _ (by rw[hx];simp[aU])),h.enc.al _ _ _ fun b hb=>hk b (List.mem_append_right _ hb),h.nodup⟩
theorem DA{X:World}{B nb gn on c:Nat}{d x:Nd}{q:List Nat}{g:Option Addr}{bl:List Nat}{vs:List Value}(h:Foc X B nb d q gn on x g c bl vs)(txt:Tm.Wd):fW (X.setCell ⟨gn,on+5,none⟩ (.string (aa txt))) B nb (Fx.di (fun d=>{d with text:=txt}) q d):=by
 rw[← Fx.qc (fun d=>{d with text:=txt}) q d x h.get]
 have hs:=yz (i:=5) h.row (by simp[ad]) (.string (aa txt))
 exact h.put _ {x with text:=txt} g c bl vs hs (fun b hb hn _=>Below.heap_setCell _ _ _ _ hn) (aQ.Gp h.kv fun b hb=>Below.heap_setCell _ _ _ _ (fun e=>h.off (by rw[← show b=gn from e];exact hb))) (fun b hb=> .inl hb)
def zz(w X:World)(nb:Nat)(tys:List Tm.Ty)(root:Tm.Wd)(ErrC:Int→Prop)(OkC:Nd→Prop)(e:Ending)(w':World):Prop:=Below w.heap.size w w'∧((∃k:Int,ErrC k∧e= .returned (.iface 48 (.int .i64 k)))∨
 ∃d',OkC d'∧e= .returned .nilIface∧fW w' w.heap.size nb d'∧w'.heap[nb+1]? =X.heap[nb+1]? ∧d'.ok∧d'.tot≤800000∧(Fx.wrT tys.reverse root d').isSome=true)
def qd(w:World)(tys:List Tm.Ty)(root:Tm.Wd)(ps:List Int)(o:Option Nd)(ErrC:List Nat→Nd→Nd→Int→Prop)(OkC:List Nat→Nd→Nd→Nd→Prop)(e:Ending)(w':World):Prop:=Below w.heap.size w w'∧match o with
 |none=>∃t v,e= .returned (.tuple #[.string {data:= #[]},.iface t v])
 |some d=>((∀q,ps=dU q→q=[]∨Fx.dZ q d=none)∧e= .returned (.tuple #[.string {data:= #[]},.iface 48 (.int .i64 7)]))∨
   ∃q x,ps=dU q∧q≠[]∧Fx.dZ q d=some x∧((∃k,ErrC q d x k∧e= .returned (.tuple #[.string {data:= #[]},.iface 48 (.int .i64 k)]))∨
    ∃d',OkC q d x d'∧(Fx.wrT tys.reverse root d').isSome=true∧e=(match Fx.cP Fx.bP tys.reverse root d' with
     | .ok u=> .returned (.tuple #[.string (aa u),.nilIface])
     | .bad k=> .returned (.tuple #[.string {data:= #[]},.iface 48 (.int .i64 (F2 k))])))
theorem fW.Gq{w:World}{B nb:Nat}{d:Nd}{bl:List Nat}{g:Option Addr}{c:Nat}(h:NdV w B bl d (.agg (ad d.name d.kind d.at_ d.size d.val d.text (.slice g d.kids.len c)).toArray))(hn:bl.Nodup)(hr:ae w nb 0 28 (ad d.name d.kind d.at_ d.size d.val d.text (.slice g d.kids.len c)))(hb:nb∉bl):fW w B nb d:=by
 obtain⟨ga,cap,bs,b1,e,rfl,h1,h2⟩:=h
 have e2:(Value.slice g d.kids.len c)= .slice ga d.kids.len cap:=by
  have h3:(ad d.name d.kind d.at_ d.size d.val d.text (.slice g d.kids.len c)).toArray=(ad d.name d.kind d.at_ d.size d.val d.text (.slice ga d.kids.len cap)).toArray:=by injection e
  have h4:=congrArg Array.toList h3
  simpa[ad]using h4
 rw[e2]at hr
 exact⟨ga,cap,b1,bs,hr,⟨h1,h2,hn⟩,hb⟩
end
section
set_option maxRecDepth 100000
set_option maxHeartbeats 4000000
open Go Go.RowKit
open Rd
open Ly
theorem vU(w:World)(B cap pc tb:Nat)(tys:List Tm.Ty)(a pa:Option Addr)(vs:List Value)(root s:Tm.Wd)(ps:List Int)(ErrC:List Nat→Nd→Nd→Int→Prop)(OkC:List Nat→Nd→Nd→Nd→Prop)(hT:TyF w B tys a cap vs)(hr:root.length≤200000000000000)(hs:s.length≤4000)
  (hps:∀X,Below w.heap.size w X→RdI X pa ps)(hpl:ps.length≤1000)(hpc:ps.length≤pc)
  (hdo:∀(X:World) (q:List Nat) (d x:Nd) (nb gn on:Nat) (g:Option Addr) (c:Nat) (bl:List Nat) (vsx:List Value) (upv:Value) (gx ox:Nat),Below w.heap.size w X→aJ tys root s=some d→ps=dU q→q≠[]→Foc X w.heap.size nb d q gn on x g c bl vsx→w.heap.size≤gn→gn≠nb+1→w.heap.size≤nb→nb+1 < X.heap.size→Itm w tys root x q gx ox→(∃q' k y gu ou g' c' bl' vs',q=q'++[k]∧upv= .pointer (some ⟨gu,ou,none⟩)∧Foc X w.heap.size nb d q' gu ou y g' c' bl' vs')→
   Calls Tryz.prog 40 #[upv,.pointer (some ⟨gn,on,none⟩),.pointer (some ⟨gx,ox,none⟩),.pointer (some ⟨tb,0,none⟩)] X (zz w X nb tys root (ErrC q d x) (OkC q d x))):
  Calls Tryz.prog 37 #[.slice a tys.length cap,.string (aa root),.string (aa s),.slice pa ps.length pc,.func (.func 40) #[] #[.pointer (some ⟨tb,0,none⟩)]] w (qd w tys root ps (aJ tys root s) ErrC OkC):=by
 have hF:∀t∈tys,Tm.bh t∧Tm.Its.sz t.items≤100000:=hT.ep
 obtain⟨n,hn⟩:∃n,n=tys.length:=⟨_,rfl⟩
 obtain⟨pn,hpn⟩:∃pn,pn=ps.length:=⟨_,rfl⟩
 have hRD:=fF tys root s w B cap B a vs hT.own hT.enc hF hT.few hT.chain hr (by omega)
 have HRT:Hid (∀d,aJ tys root s=some d→d.ok∧d.tot≤8000∧(wrS tys.reverse root d.kids).isSome=true∧d.kind=3∧Fx.Tdy d.kids):=hid (fun d hd=>by
  obtain⟨d1,d2,d3⟩:=il hT hs hd
  have hwd:(Fx.wrT tys.reverse root d).isSome=true:=by unfold Fx.wrT;rw[d3];rfl
  obtain⟨k1,k2,k3⟩:=Fx.fT hwd
  exact⟨d1,d2,k1,k3,(Fx.Dz hd).2⟩)
 have HAT:Hid (∀X d nb,Below w.heap.size w X→aJ tys root s=some d→fW X w.heap.size nb d→Calls Tryz.prog 72 #[.agg #[.slice a n cap],.string (aa root),.pointer (some ⟨nb,0,none⟩),.slice pa pn pc] X (Dw w X w.heap.size nb tys root d ps)):=hid (fun X d nb hX hd ht=>by
  obtain⟨d1,d2,d3,d4,d5⟩:=HRT.out d hd
  rw[hn,hpn]
  exact F4 w X B w.heap.size nb cap pc tys a pa root d ps hT.fxe hX ht d4 d3 d5 (by omega) (fun Y hY=>hps Y (hX.trans (hY.mono hX.size))) hpl hpc)
 have HDN:Hid (∀X d Bn bl v,Below w.heap.size w X→d.ok→d.tot≤800000→(Fx.wrT tys.reverse root d).isSome=true→NdV X Bn bl d v→Calls Tryz.prog 34 #[.agg #[.slice a n cap],.string (aa root),v] X (tt X (Fx.cP Fx.bP tys.reverse root d))):=hid (fun X d Bn bl v hX d1 d2 d3 hv=>by
  obtain⟨u0,hu0⟩:=Option.isSome_iff_exists.1 d3
  rw[hn]
  exact rS tys root u0 d X B cap Bn a vs v bl (hT.up hX) hr hv d1 d2 hu0)
 have HDO:=hid hdo
 obtain⟨o,ho⟩:∃o,o=aJ tys root s:=⟨_,rfl⟩
 rw[← ho]at hRD HRT HAT HDO⊢
 rw[← hn,← hpn]at *
 have HRD:=hid hRD
 clear hT hr hs hps hpl hpc hdo hF hRD ho hn hpn
 go_enter Tryz.func37,Tryz.ntmps37
 go_wp2_with fail
 refine HRD.out.mono ?_
 unfold dW
 rintro e w2 ⟨hb2,hv2⟩
 have HB2:=hid hb2
 cases o with
 |none=>
  obtain⟨ty,vv,rfl⟩:=hv2
  clear hb2
  go_wp2_with fail
  go_ret2
  exact⟨HB2.out.alloc HB2.out.size _,ty,vv,rfl⟩
 |some d=>
  obtain⟨v2,bl2,rfl,hnd2,hnp2⟩:=hv2
  obtain⟨g2,cc2,hve⟩:=hnd2.cells
  subst hve
  obtain⟨V,hV⟩:∃V,V=(w2.alloc (.cells #[.string (aa d.name),.int .i64 (d.kind:Nat),.int .i64 (d.at_:Nat),.int .i64 (d.size:Nat),.int .i64 d.val,.string (aa d.text),.slice g2 d.kids.len cc2] 28)).alloc (.cells #[.slice a n cap] 75):=⟨_,rfl⟩
  have hbV:Below w2.heap.size w2 V:=by rw[hV];exact((Y4 _ _).alloc (Z5 _) _).alloc (by simp) _
  have hVs:V.heap.size=w2.heap.size+2:=by rw[hV];simp
  have hq0:ae V w2.heap.size 0 28 [.string (aa d.name),.int .i64 (d.kind:Nat),.int .i64 (d.at_:Nat),.int .i64 (d.size:Nat),.int .i64 d.val,.string (aa d.text),.slice g2 d.kids.len cc2]:=by rw[hV];exact(ae.new w2 _ _).alloc _
  have hq1:ae V (w2.heap.size+1) 0 75 [.slice a n cap]:=by rw[hV];exact ae.iq _ _ (by simp) _ _
  have hndV:=hnd2.al (w':=V) fun b hb=>hbV.block b (hnd2.mem b hb).2
  have htr:fW V w.heap.size w2.heap.size d:=fW.Gq hndV hnp2 hq0 (fun hb=>by have:=(hnd2.mem _ hb).2;omega)
  have hbVw:Below w.heap.size w V:=hb2.trans (hbV.mono hb2.size)
  have HAV:=hid (HAT.out V d w2.heap.size hbVw rfl htr)
  have HQ1:=hid hq1
  have j0:=hq1.cell0 0 (by simp)
  simp only[Z0]at j0
  obtain⟨ml,hml⟩:∃ml,ml=d.kids.len:=⟨_,rfl⟩
  rw[← hml]at hV⊢
  rw[hV]at j0
  have HV:=hid hV;have HBV:=hid hbVw;have HVS:=hid hVs
  clear hb2 hnd2 hnp2 hV hbV hq0 hq1 hndV htr hbVw hml hVs
  go_wp2_with fail
  rw[← HV.out]
  refine HAV.out.mono ?_
  unfold Dw
  rintro e w4 ⟨hb4,⟨rfl,hno⟩|⟨q,x,gn,on,g,c,bl,vsx,upv,xv,hq,rfl,hfoc,hx0,hx1⟩⟩
  ·have HB4:=hid (HBV.out.trans (hb4.mono HBV.out.size))
   have HNO:=hid hno
   clear hb4 hno j0
   go_wp2_with fail
   go_ret2
   exact⟨HB4.out,.inl ⟨fun q hq=> .inr (HNO.out q hq),rfl⟩⟩
  ·have HB4:=hid (HBV.out.trans (hb4.mono HBV.out.size))
   have hq14:=HQ1.out.below hb4 HQ1.out.lt
   have hz4:w2.heap.size+1 < w4.heap.size:=by have:=hb4.size;have:=HVS.out;omega
   by_cases hqn:q=[]
   ·have hxe:=hx0 hqn
    subst hxe
    have HNO:=hid (show ∀q2,ps=dU q2→q2=[]∨Fx.dZ q2 d=none from fun q2 h2=> .inl (by
     subst hqn
     rw[hq]at h2
     cases q2 with
     |nil=>rfl
     |cons y q2=>simp[dU]at h2))
    clear hb4 hx0 hx1 hqn hq14 hz4 j0 hq hfoc
    go_wp2_with fail
    go_ret2
    exact⟨HB4.out,.inl ⟨HNO.out,rfl⟩⟩
   ·obtain⟨⟨gx,ox,rfl,hitm⟩,hpar⟩:=hx1 hqn
    have hgn1:gn≠w2.heap.size+1:=fun e=>by
     have h1:=hfoc.row
     rw[e]at h1
     have:=F6 h1 hq14
     exact absurd this (by decide)
    have hgnB:w.heap.size≤gn:=by
     rcases hfoc.base with h|h
     ·exact h
     ·have:=HB2.out.size;omega
    have HCL:=hid (HDO.out w4 q d x w2.heap.size gn on g c bl vsx upv gx ox HB4.out rfl hq hqn hfoc hgnB hgn1 HB2.out.size hz4 hitm hpar)
    have HQX:=hid (And.intro hq (And.intro hqn hfoc.get))
    have HQ14:=hid hq14
    clear hb4 hx0 hx1 hq hfoc hitm hpar hgn1 hgnB hq14 hz4 j0
    go_wp2_with fail
    refine HCL.out.mono ?_
    unfold zz
    rintro e w5 ⟨hb5,⟨k,hek,rfl⟩|⟨d2,hok2,rfl,ht5,hk5,ho5,ht25,hw5⟩⟩
    ·have HB5:=hid hb5;have HEK:=hid hek
     clear hb5 hek hqn
     go_wp2_with fail
     go_ret2
     exact⟨HB5.out,.inr ⟨q,x,HQX.out.1,HQX.out.2.1,HQX.out.2.2,.inl ⟨k,HEK.out,rfl⟩⟩⟩
    ·have HB5:=hid hb5
     obtain⟨g5,c5,bl5,vs5,hr5,hkv5,hn5⟩:=ht5
     have hq5:=HQ14.out.of_heap hk5
     have j5:=hq5.cell0 0 (by simp)
     simp only[Z0]at j5
     have hnd5:=hkv5.nd d2.name d2.kind d2.at_ d2.size d2.val d2.text
     have HD5:=hid (HDN.out w5 d2 _ _ _ hb5 ho5 ht25 hw5 hnd5)
     obtain⟨m5,hm5⟩:∃m5,m5=d2.kids.len:=⟨_,rfl⟩
     rw[← hm5]at hr5 HD5
     have e5:Value.agg (ad d2.name d2.kind d2.at_ d2.size d2.val d2.text (.slice g5 m5 c5)).toArray= .agg #[.string (aa d2.name),.int .i64 (d2.kind:Nat),.int .i64 (d2.at_:Nat),.int .i64 (d2.size:Nat),.int .i64 d2.val,.string (aa d2.text),.slice g5 m5 c5]:=rfl
     rw[e5]at HD5
     have hr5b:ae w5 w2.heap.size 0 28 [.string (aa d2.name),.int .i64 (d2.kind:Nat),.int .i64 (d2.at_:Nat),.int .i64 (d2.size:Nat),.int .i64 d2.val,.string (aa d2.text),.slice g5 m5 c5]:=hr5
     have c0:=hr5b.cell0 0 (by simp)
     have c1:=hr5b.cell0 1 (by simp)
     have c2:=hr5b.cell0 2 (by simp)
     have c3:=hr5b.cell0 3 (by simp)
     have c4:=hr5b.cell0 4 (by simp)
     have cc5:=hr5b.cell0 5 (by simp)
     have c6:=hr5b.cell0 6 (by simp)
     simp only[Z0,Z1]at c0 c1 c2 c3 c4 cc5 c6
     have HOK:=hid (And.intro hok2 hw5)
     obtain⟨rr,hrr⟩:∃rr,rr=Fx.cP Fx.bP tys.reverse root d2:=⟨_,rfl⟩
     rw[← hrr]at HD5
     have HRR:=hid hrr
     clear hb5 hok2 hr5 hr5b hkv5 hn5 hq5 hnd5 ho5 ht25 hw5 hk5 e5 hm5 hqn hrr
     go_wp2_with fail
     refine HD5.out.mono ?_
     rintro e w6 ⟨hb6,hv6⟩
     have HB6:=hid (HB5.out.trans (hb6.mono HB5.out.size))
     clear hb6
     cases rr with
     |ok u=>
      simp only[]at hv6
      subst hv6
      go_wp2_with fail
      go_ret2
      refine⟨HB6.out,.inr ⟨q,x,HQX.out.1,HQX.out.2.1,HQX.out.2.2,.inr ⟨d2,HOK.out.1,HOK.out.2,?_⟩⟩⟩
      rw[← HRR.out]
      rfl
     |bad k=>
      simp only[]at hv6
      subst hv6
      go_wp2_with fail
      go_ret2
      refine⟨HB6.out,.inr ⟨q,x,HQX.out.1,HQX.out.2.1,HQX.out.2.2,.inr ⟨d2,HOK.out.1,HOK.out.2,?_⟩⟩⟩
      rw[← HRR.out]
      rfl
end
section
set_option maxRecDepth 100000
set_option maxHeartbeats 2000000
open Go Go.RowKit
open Rd
open Ly
def lU(q:List Nat)(d x:Nd)(k:Int):Prop:=x.kind≠2∧k=1
def tH(tys:List Tm.Ty)(root txt:Tm.Wd)(q:List Nat)(d x d':Nd):Prop:=x.kind=2∧d'=Fx.di (fun d=>{d with text:=txt}) q d∧∃h,Fx.itS tys.reverse root q=some h∧kNo h.k=2
theorem tI{tys:List Tm.Ty}{root txt:Tm.Wd}{q:List Nat}{d x:Nd}{h:Tm.Hd}(hd:(Fx.wrT tys.reverse root d).isSome=true)(hq:q≠[])(hi:Fx.itS tys.reverse root q=some h)(hx:Fx.dZ q d=some x)(hk:x.kind=2)(hk2:kNo h.k=2):(Fx.wrT tys.reverse root (Fx.di (fun d=>{d with text:=txt}) q d)).isSome=true:=by
 cases q with
 |nil=>exact absurd rfl hq
 |cons k q=>
  refine Fx.C7 (fun W d hd=> ?_) hd hi hx (by rw[hk,hk2])
  unfold ba at hd⊢
  simp only[]at hd⊢
  split at hd
  ·cases hd
  ·rename_i hn
   rw[if_neg hn]
   cases hc:h.k with
   |scalar w=>rw[hc]at hk2;cases hk2
   |bytes=>rfl
   |struct t=>rw[hc]at hk2;cases hk2
theorem BC(w X:World)(tys:List Tm.Ty)(root txt s:Tm.Wd)(q:List Nat)(d x:Nd)(nb gn on tb gx ox c B cap:Nat)(a:Option Addr)(vs:List Value)(g:Option Addr)(bl:List Nat)(vsx:List Value)(upv:Value)(hT:TyF w B tys a cap vs)(hs:s.length≤4000)(htl:txt.length≤1000)(hX:Below w.heap.size w X)(hb:ae w tb 0 9 [.string (aa txt)])(hd:aJ tys root s=some d)(hq:q≠[])(hf:Foc X w.heap.size nb d q gn on x g c bl vsx)(hgn:w.heap.size≤gn)(hgn1:gn≠nb+1)(hit:Itm w tys root x q gx ox):
  Calls Tryz.prog 40 #[upv,.pointer (some ⟨gn,on,none⟩),.pointer (some ⟨gx,ox,none⟩),.pointer (some ⟨tb,0,none⟩)] X (zz w X nb tys root (lU q d x) (tH tys root txt q d x)):=by
 have hrow:=hf.row
 have c1:=hrow.cell 1 (by simp[ad]);have c5:=hrow.cell 5 (by simp[ad]);have z5:=hrow.frozen 5 (by simp[ad])
 have b0:=(hb.below hX hb.lt).cell0 0 (by simp)
 simp only[ad,Z0,Z1]at c1 c5 b0
 obtain⟨xt,hxt⟩:∃xt,xt=aa x.text:=⟨_,rfl⟩
 rw[← hxt]at c5
 obtain⟨kd,hkd⟩:∃kd,kd=x.kind:=⟨_,rfl⟩
 rw[← hkd]at c1
 have HKD:=hid hkd
 have HX:=hid hX
 by_cases h2:kd=2
 ·have q1:((kd:Int)==2)=true:=by rw[beq_iff_eq];omega
  have q2:((kd:Int)!=2)=false:=by rw[bne,q1];rfl
  have q3:(kd==2)=true:=beq_iff_eq.2 h2
  have q4:(kd !=2)=false:=by rw[bne,q3];rfl
  have hx2:x.kind=2:=by rw[← hkd];exact h2
  obtain⟨h,hi,hk2⟩:∃h,Fx.itS tys.reverse root q=some h∧kNo h.k=2:=by
   cases hit with
   |hd h cv hr hi hk=>exact⟨h,hi,by rcases hk with hk|hk <;> omega⟩
   |wh ai cv sv hr hk=>omega
  obtain⟨d1,dt,d3⟩:=il hT hs hd
  have hwd:(Fx.wrT tys.reverse root d).isSome=true:=by unfold Fx.wrT;rw[d3];rfl
  have HR:=hid (show zz w X nb tys root (lU q d x) (tH tys root txt q d x) (.returned .nilIface) (X.setCell ⟨gn,on+5,none⟩ (.string (aa txt)))from
   ⟨hX.setCell (p:=⟨gn,on+5,none⟩) hgn _,.inr ⟨_,⟨hx2,rfl,h,hi,hk2⟩,rfl,DA hf txt,Below.heap_setCell _ _ _ _ (fun e=>hgn1 (show gn=nb+1 from e.symm)),Fx.tG (fun d=>{d with text:=txt}) (fun d h=>h) q d d1,by
    have:=Fx.vT (fun d=>{d with text:=txt}) txt.length (fun d=>by unfold Nd.tot;simp only[];omega) q d
    omega,tI hwd hq hi hf.get hx2 hk2⟩⟩)
  clear hT hs htl hX hb hd hq hf hgn hgn1 hit hrow hkd h2 hx2 hi hk2 d1 dt d3 hwd hxt
  go_enter Tryz.func40,Tryz.ntmps40
  go_wp2_with fail
  go_ret
  exact HR.out
 ·have q1:((kd:Int)==2)=false:=by rw[Z8];omega
  have q2:((kd:Int)!=2)=true:=by rw[bne,q1];rfl
  have q3:(kd==2)=false:=Z8.2 h2
  have q4:(kd !=2)=true:=by rw[bne,q3];rfl
  have HE:=hid (show lU q d x 1 from⟨by rw[← hkd];exact h2,rfl⟩)
  clear hT hs htl hX hb hd hq hf hgn hgn1 hit hrow hkd h2 hxt
  go_enter Tryz.func40,Tryz.ntmps40
  go_wp2_with fail
  go_ret
  exact⟨HX.out,.inl ⟨1,HE.out,rfl⟩⟩
theorem qd.below{w w1 w':World}{tys:List Tm.Ty}{root:Tm.Wd}{ps:List Int}{o:Option Nd}{E:List Nat→Nd→Nd→Int→Prop}{O:List Nat→Nd→Nd→Nd→Prop}{e:Ending}(h:qd w1 tys root ps o E O e w')(hb:Below w.heap.size w w1):qd w tys root ps o E O e w':=⟨hb.trans (h.1.mono hb.size),h.2⟩
theorem qd.two{w w':World}{tys:List Tm.Ty}{root:Tm.Wd}{ps:List Int}{o:Option Nd}{E:List Nat→Nd→Nd→Int→Prop}{O:List Nat→Nd→Nd→Nd→Prop}{e:Ending}(h:qd w tys root ps o E O e w'):∃u v,e= .returned (.tuple #[.string u,v]):=by
 obtain⟨_,h2⟩:=h
 cases o with
 |none=>obtain⟨t,v,rfl⟩:=h2;exact⟨_,_,rfl⟩
 |some d=>
  rcases h2 with⟨_,rfl⟩|⟨q,x,_,_,_,⟨k,_,rfl⟩|⟨d',_,_,rfl⟩⟩
  ·exact⟨_,_,rfl⟩
  ·exact⟨_,_,rfl⟩
  ·cases Fx.cP Fx.bP tys.reverse root d' <;> exact⟨_,_,rfl⟩
theorem DB(w:World)(B cap pc:Nat)(tys:List Tm.Ty)(a pa:Option Addr)(vs:List Value)(root s txt:Tm.Wd)(ps:List Int)(hT:TyF w B tys a cap vs)(hr:root.length≤200000000000000)(hs:s.length≤4000)(htl:txt.length≤1000)
  (hps:∀X,Below w.heap.size w X→RdI X pa ps)(hpl:ps.length≤1000)(hpc:ps.length≤pc):
  Calls Tryz.prog 16 #[.slice a tys.length cap,.string (aa root),.string (aa s),.slice pa ps.length pc,.string (aa txt)] w (qd w tys root ps (aJ tys root s) lU (tH tys root txt)):=by
 obtain⟨n,hn⟩:∃n,n=tys.length:=⟨_,rfl⟩
 obtain⟨pn,hpn⟩:∃pn,pn=ps.length:=⟨_,rfl⟩
 obtain⟨V1,hV1⟩:∃V1,V1=w.alloc (.cells #[.string (aa txt)] 9):=⟨_,rfl⟩
 have hb1:Below w.heap.size w V1:=by rw[hV1];exact(Y4 _ _).alloc (Z5 _) _
 have hbx:ae V1 w.heap.size 0 9 [.string (aa txt)]:=by rw[hV1];exact ae.new w _ _
 have HCH:=hid (vU V1 B cap pc w.heap.size tys a pa vs root s ps lU (tH tys root txt) (hT.up hb1) hr hs (fun X hX=>hps X (hb1.trans (hX.mono hb1.size))) hpl hpc (fun X q d x nb gn on g c bl vsx upv gx ox hX hd hq hqn hf hg1 hg2 hnb hnz hit hpar=>BC V1 X tys root txt s q d x nb gn on w.heap.size gx ox c B cap a vs g bl vsx upv (hT.up hb1) hs htl hX hbx hd hqn hf hg1 hg2 hit))
 have HV1:=hid hV1;have HB1:=hid hb1
 rw[← hn,← hpn]at HCH⊢
 clear hT hr hs htl hps hpl hpc hn hpn hV1 hb1 hbx
 go_enter Tryz.func16,Tryz.ntmps16
 go_wp2_with fail
 rw[← HV1.out]
 refine HCH.out.mono ?_
 intro e w5 hco
 have HCO:=hid hco
 obtain⟨u,v,rfl⟩:=hco.two
 clear hco
 go_wp2_with fail
 go_ret2
 exact HCO.out.below HB1.out
end
section
set_option maxRecDepth 100000
set_option maxHeartbeats 4000000
open Go Go.RowKit
open Rd
open Ly
def lV(w:World)(e:Ending)(w':World):Prop:=Below w.heap.size w w'∧((∃a n c,e= .returned (.tuple #[.slice a n c,.bool false]))∨
 ∃s2 tys a cap vs,List.length s2≤3000∧pz w' w.heap.size s2 tys a cap vs∧Tm.chk [] tys=none∧e= .returned (.tuple #[.slice a (List.length tys) cap,.bool true]))
theorem yA(s:List UInt8)(hne:s≠[])(w:World)(hB:jY w):Calls Tryz.prog 8 #[.string (aa s)] w (lV w):=by
 have q0:(s==[])=false:=Z8.2 hne
 have q1:s.isEmpty=false:=by cases s;exact absurd rfl hne;rfl
 have HLG:=hid (fun W=>ue s W)
 have HB:=hid hB
 clear hB hne
 go_enter Tryz.func8,Tryz.ntmps8
 go_wp2_with fail
 refine(HLG.out _).mono ?_
 rintro e w1 ⟨rfl,rfl⟩
 by_cases h9:900 < s.length
 ·have d9:decide (900 < s.length)=true:=Z9 h9
  go_wp2_with fail
  go_ret2
  exact⟨Y4 _ _,.inl ⟨_,_,_,rfl⟩⟩
 ·have d9:decide (900 < s.length)=false:=Y9 h9
  have hs3:s.length≤3000:=by omega
  have HS3:=hid hs3
  have HPS:=hid (kL s w hs3 HB.out)
  clear h9 hs3 HLG
  go_wp2_with fail
  refine HPS.out.mono ?_
  rintro e w2 ⟨hb2,⟨tys,a,cap,vs,hm,rfl⟩|⟨hno,g,rfl⟩⟩
  ·have HSS:=True.intro
   have HM:=hid hm
   have HB2:=hid hb2
   have HCK:=hid (kK (hm.up (Y4 w2.heap.size w2).drew) HS3.out)
   obtain⟨n,hn⟩:∃n,n=tys.length:=⟨_,rfl⟩
   rw[← hn]at HCK⊢
   have HN:=hid hn
   obtain⟨o,ho⟩:∃o,o=Tm.chk [] tys:=⟨_,rfl⟩
   rw[← ho]at HCK
   unfold ji at HCK
   have HO:=hid ho
   clear hm hb2 hn ho HPS
   go_wp2_with fail
   cases o with
   |none=>
    go_region_held3 (fun _=>True) (trivial)
     (first
      |(go_at_call 26;(refine HCK.out.mono ?_);(rintro e w8 ⟨hb8,rfl⟩)))
    all_goals
     have HB8:=hid (show Below w2.heap.size w2 w8 from Below.trans (Y4 _ _).drew hb8)
     clear hb8
     go_wp2_with fail
     go_ret2
     refine⟨HB2.out.trans (HB8.out.mono HB2.out.size),.inr ⟨s,tys,a,cap,vs,HS3.out,HM.out.up HB8.out,HO.out.symm,?_⟩⟩
     rw[← HN.out]
     rfl
   |some k=>
    go_region_held3 (fun _=>True) (trivial)
     (first
      |(go_at_call 26;(refine HCK.out.mono ?_);(rintro e w8 ⟨hb8,g8,p8,rfl,_⟩)))
    all_goals
     have HB8:=hid (show Below w2.heap.size w2 w8 from Below.trans (Y4 _ _).drew hb8)
     clear hb8
     go_wp2_with fail
     go_ret2
     exact⟨HB2.out.trans (HB8.out.mono HB2.out.size),.inl ⟨_,_,_,rfl⟩⟩
  ·have HB2:=hid hb2
   clear hno hb2 HPS
   go_wp2_with fail
   go_quiet (fail)
   go_wp2_with fail
   go_ret2
   exact⟨fc HB2.out _,.inl ⟨_,_,_,rfl⟩⟩
theorem yB(w:World)(hB:jY w):Calls Tryz.prog 8 #[.string (aa [])] w (lV w):=by
 have hbl:(Tm.cI Tm.bR).length≤3000:=by rw[Tm.lJ];omega
 have HS3:=hid hbl
 have hlg:=fun W=>ue (Tm.cI Tm.bR) W
 rw[show decide (900 < (Tm.cI Tm.bR).length)=false by rw[Tm.lJ];rfl]at hlg
 have hps:=kL (Tm.cI Tm.bR) w hbl hB
 rw[Tm.mB]at hlg hps
 have HLG:=hid hlg
 have HPS:=hid hps
 clear hlg hps hB hbl
 go_enter Tryz.func8,Tryz.ntmps8
 go_wp2_with fail
 refine(HLG.out _).mono ?_
 rintro e w1 ⟨rfl,rfl⟩
 clear HLG
 go_wp2_with fail
 refine HPS.out.mono ?_
 rintro e w2 ⟨hb2,⟨tys,a,cap,vs,hm,rfl⟩|⟨hno,g,rfl⟩⟩
 ·rw[← Tm.mB]at hm
  have HM:=hid hm
  have HB2:=hid hb2
  have HCK:=hid (kK (hm.up (Y4 w2.heap.size w2).drew) HS3.out)
  obtain⟨n,hn⟩:∃n,n=tys.length:=⟨_,rfl⟩
  rw[← hn]at HCK⊢
  have HN:=hid hn
  obtain⟨o,ho⟩:∃o,o=Tm.chk [] tys:=⟨_,rfl⟩
  rw[← ho]at HCK
  unfold ji at HCK
  have HO:=hid ho
  clear hm hb2 hn ho HPS
  go_wp2_with fail
  cases o with
  |none=>
   go_region_held3 (fun _=>True) (trivial)
    (first
     |(go_at_call 26;(refine HCK.out.mono ?_);(rintro e w8 ⟨hb8,rfl⟩)))
   all_goals
    have HB8:=hid (show Below w2.heap.size w2 w8 from Below.trans (Y4 _ _).drew hb8)
    clear hb8
    go_wp2_with fail
    go_ret2
    refine⟨HB2.out.trans (HB8.out.mono HB2.out.size),.inr ⟨Tm.cI Tm.bR,tys,a,cap,vs,HS3.out,HM.out.up HB8.out,HO.out.symm,?_⟩⟩
    rw[← HN.out]
    rfl
  |some k=>
   go_region_held3 (fun _=>True) (trivial)
    (first
     |(go_at_call 26;(refine HCK.out.mono ?_);(rintro e w8 ⟨hb8,g8,p8,rfl,_⟩)))
   all_goals
    have HB8:=hid (show Below w2.heap.size w2 w8 from Below.trans (Y4 _ _).drew hb8)
    clear hb8
    go_wp2_with fail
    go_ret2
    exact⟨HB2.out.trans (HB8.out.mono HB2.out.size),.inl ⟨_,_,_,rfl⟩⟩
 ·have HB2:=hid hb2
  clear hno hb2 HPS
  go_wp2_with fail
  go_quiet (fail)
  go_wp2_with fail
  go_ret2
  exact⟨fc HB2.out _,.inl ⟨_,_,_,rfl⟩⟩
theorem BD(s:List UInt8)(w:World)(hB:jY w):Calls Tryz.prog 8 #[.string (aa s)] w (lV w):=by
 by_cases h:s=[]
 ·subst h;exact yB w hB
 ·exact yA s h w hB
end
section
set_option maxRecDepth 100000
set_option maxHeartbeats 4000000
open Go Go.RowKit
open Rd
open Ly
namespace Ly
def dw:Nd:=⟨dT,3,0,12,0,[],dY⟩
theorem qe{tys:List Tm.Ty}(h:Tm.bW Tm.bR tys):bF (rdS bT tys.reverse) bT (fun _=>none) (bZ dT) ⟨0,0⟩=some (dw,⟨12,13⟩):=by
 rw[← zi bT (kM h)]
 exact vc
theorem qf{tys:List Tm.Ty}(h:Tm.bW Tm.bR tys):aJ tys dT bT=some dw:=by
 unfold aJ
 rw[qe h]
 rfl
theorem nH{tys:List Tm.Ty}(h:Tm.bW Tm.bR tys)(hF:∀t∈tys,Tm.bh t):ba (wrS tys.reverse) (bZ dT) dw=some bT:=
 pC (fun t ht=>hF t (List.mem_reverse.1 ht)) (qe h) rfl
theorem rX:dw.ok∧dw.tot≤1000000:=by
 refine⟨?_,by decide⟩
 unfold Nd.ok dw dY
 simp[Nds.ok,Ex.InR]
end Ly
theorem ec(w:World):Calls Tryz.prog 23 #[] w fun e w'=>e= .returned (.string (aa bT))∧w=w':=by
 go_enter Tryz.func23,Tryz.ntmps23
 go_wp2_with fail
 go_ret
 exact⟨rfl,rfl⟩
theorem vV(w:World)(hB:jY w):Calls Tryz.prog 7 #[] w fun e w'=>e= .returned (.bool true)∧Below w.heap.size w w':=by
 have HBX:=hid (rE w hB)
 clear hB
 go_enter Tryz.func7,Tryz.ntmps7
 go_wp2_with fail
 refine HBX.out.mono ?_
 rintro e w1 ⟨hb1,tys,a,cap,vs,hsame,hm,rfl⟩
 have hbl:(Tm.cI Tm.bR).length≤3000:=by rw[Tm.lJ];omega
 obtain⟨f1,f2,_,f4⟩:=hm.ep hbl
 have hchk:Tm.chk [] tys=none:=by rw[Tm.oT hsame Tm.ia];exact Tm.sX
 have hlen:tys.length=2:=by
  have:∀{l m:List Tm.Ty},Tm.bW l m→l.length=m.length:=by
   intro l m h
   induction h with
   |nil=>rfl
   |cons _ _ ih=>simp[ih]
  exact(this hsame).symm
 have hF:∀t∈tys,Tm.bh t∧Tm.Its.sz t.items≤100000:=fun t ht=>⟨(f2 t ht).1,(f2 t ht).2.2⟩
 have hRD:=fF tys dT bT w1 w.heap.size cap w.heap.size a vs hm.own hm.enc hF (by omega) (mC hchk) (by decide) (by decide)
 rw[qf hsame,hlen]at hRD
 unfold dW at hRD
 have HRD:=hid hRD
 have HM:=hid hm;have HB1:=hid hb1;have HF:=hid hF;have HCH:=hid (mC hchk);have HLEN:=hid hlen;have HWR:=hid (nH hsame f1)
 clear hRD hm hb1 hF hchk hlen f1 f2 f4 hsame hbl HBX
 go_wp2_with fail
 refine(ec _).mono ?_
 rintro e w9 ⟨rfl,rfl⟩
 go_wp2_with fail
 refine HRD.out.mono ?_
 rintro e w2 ⟨hb2,v,bl,rfl,hnd,hnodup⟩
 obtain⟨g0,c0,hv⟩:=hnd.cells
 have hv2:v= .agg #[.string (aa dT),.int .i64 3,.int .i64 0,.int .i64 12,.int .i64 0,.string (aa []),.slice g0 5 c0]:=hv
 subst hv2
 have HND:=hid hnd
 have HB2:=hid hb2
 clear hb2 hnd hnodup hv HRD
 have hbx:ae (w2.alloc (.cells #[.string {data:= #[]},.int .i64 0,.int .i64 0,.int .i64 0,.int .i64 0,.string {data:= #[]},.slice none 0 0] 28)) w2.heap.size 0 28 [.string {data:= #[]},.int .i64 0,.int .i64 0,.int .i64 0,.int .i64 0,.string {data:= #[]},.slice none 0 0]:=ae.new w2 28 #[.string {data:= #[]},.int .i64 0,.int .i64 0,.int .i64 0,.int .i64 0,.string {data:= #[]},.slice none 0 0]
 have y0:=hbx.cell0 0 (by simp);have z0:=hbx.frozen0 0 (by simp)
 have y1:=hbx.cell0 1 (by simp);have z1:=hbx.frozen0 1 (by simp)
 have y2:=hbx.cell0 2 (by simp);have z2:=hbx.frozen0 2 (by simp)
 have y3:=hbx.cell0 3 (by simp);have z3:=hbx.frozen0 3 (by simp)
 have y4:=hbx.cell0 4 (by simp);have z4:=hbx.frozen0 4 (by simp)
 have y5:=hbx.cell0 5 (by simp);have z5:=hbx.frozen0 5 (by simp)
 have y6:=hbx.cell0 6 (by simp);have z6:=hbx.frozen0 6 (by simp)
 simp only[Z0,Z1]at y0 y1 y2 y3 y4 y5 y6
 obtain⟨V,hV⟩:∃V,V=w2.alloc (.cells #[.string (aa dT),.int .i64 3,.int .i64 0,.int .i64 12,.int .i64 0,.string (aa []),.slice g0 5 c0] 28):=⟨_,rfl⟩
 have hbV:Below w2.heap.size w2 V:=by rw[hV];exact(Y4 _ _).alloc (Z5 _) _
 have hrV:ae V w2.heap.size 0 28 [.string (aa dT),.int .i64 3,.int .i64 0,.int .i64 12,.int .i64 0,.string (aa []),.slice g0 5 c0]:=by rw[hV];exact ae.new w2 _ _
 have hndV:=HND.out.al (w':=V) (fun b hb=>hbV.block b (HND.out.mem b hb).2)
 have hmV:=(HM.out.up HB2.out).up hbV
 have hWR:=iI tys dT bT dw V w.heap.size cap w.heap.size _ a vs _ bl hmV.own hmV.enc HF.out (by rw[HLEN.out];decide) HCH.out (by decide) hndV rX.1 rX.2 HWR.out
 rw[HLEN.out]at hWR
 have HWC:=hid hWR
 have r0:=hrV.cell0 0 (by simp);have r1:=hrV.cell0 1 (by simp);have r2:=hrV.cell0 2 (by simp);have r3:=hrV.cell0 3 (by simp);have r4:=hrV.cell0 4 (by simp);have r5:=hrV.cell0 5 (by simp);have r6:=hrV.cell0 6 (by simp)
 simp only[Z0,Z1]at r0 r1 r2 r3 r4 r5 r6
 rw[hV]at r0 r1 r2 r3 r4 r5 r6
 have HRV:=hid hrV;have HNV:=hid hndV;have HBV:=hid (And.intro HB2.out hbV);have HV:=hid hV
 clear hbx hV hbV hrV hndV hmV hWR
 go_wp2_with fail
 rw[← HV.out]
 refine HWC.out.mono ?_
 rintro e w3 ⟨hb3,rfl⟩
 clear y0 y1 y2 y3 y4 y5 y6 z0 z1 z2 z3 z4 z5 z6 r0 r1 r2 r3 r4 r5 r6
 have hbx3:=HRV.out.below hb3 HRV.out.lt
 have hnd3:=HNV.out.al (w':=w3) (fun b hb=>hb3.block b (HNV.out.mem b hb).2)
 have k6:=hbx3.cell0 6 (by simp)
 simp only[Z0,Z1]at k6
 have HFB:=hid (show Below w.heap.size w w3 from(HB1.out.trans (HBV.out.1.mono HB1.out.size)).trans ((HBV.out.2.trans (hb3.mono HBV.out.2.size)).mono (Nat.le_trans HB1.out.size HBV.out.1.size)))
 clear hb3 hbx3
 obtain⟨ga,cp,bs,b1,hv,_,ho,he⟩:=hnd3
 have hs1:Value.slice g0 5 c0=Value.slice ga 5 cp:=by
  have h1:=congrArg Value.cells hv
  have h2:=congrArg (fun A:Array Value=>A.toList.getD 6 undef) h1
  exact h2
 injection hs1 with hs2 _ hs3
 subst hs2 hs3
 obtain⟨x,rfl⟩:∃x,g0=some x:=by
  cases g0 with
  |none=>have:=ho.aN.1;exact absurd this (by decide)
  |some x=>exact⟨x,rfl⟩
 obtain⟨gb,rfl⟩:∃gb,x=⟨gb,0,none⟩:=⟨x.block,ho.row.1⟩
 have ho5:an w3 w1.heap.size 28 7 (some ⟨gb,0,none⟩) dY.len c0 bs:=ho
 obtain⟨q1,p1,_,_,m1,_,_⟩:=aW.nd (i:=1) (d:=⟨[109,97,110,121],1,2,1,2,[],.nil⟩) (r:=dY.drop 2) ho5 he rfl
 obtain⟨q2,p2,bs2,b2,m2,o2,e2⟩:=aW.nd (i:=2) (d:=⟨[108],9,3,4,0,[],(.cons [108] 3 3 3 0 [] (.cons [110] 1 3 1 2 [] .nil (.cons [115] 2 4 2 0 [104,105] .nil .nil)) (.cons [108] 3 6 1 0 [] (.cons [110] 1 6 1 0 [] .nil (.cons [115] 2 7 0 0 [] .nil .nil)) .nil))⟩) (r:=dY.drop 3) ho5 he rfl
 obtain⟨q3,p3,_,_,m3,_,_⟩:=aW.nd (i:=3) (d:=⟨[],4,7,1,1,[],(.cons [109,111,114,101] 1 7 1 7 [] .nil .nil)⟩) (r:=dY.drop 4) ho5 he rfl
 obtain⟨q4,p4,_,_,m4,_,_⟩:=aW.nd (i:=4) (d:=⟨[115,117,109],1,8,4,0,[],.nil⟩) (r:= .nil) ho5 he rfl
 obtain⟨x2,rfl⟩:∃x,q2=some x:=by
  cases q2 with
  |none=>have:=o2.aN.1;exact absurd this (by decide)
  |some x=>exact⟨x,rfl⟩
 obtain⟨gc,rfl⟩:∃gb,x2=⟨gb,0,none⟩:=⟨x2.block,o2.row.1⟩
 obtain⟨q5,p5,bs5,b5,m5,o5,e5⟩:=aW.nd (i:=0) (d:=⟨[108],3,3,3,0,[],(.cons [110] 1 3 1 2 [] .nil (.cons [115] 2 4 2 0 [104,105] .nil .nil))⟩) (r:=(.cons [108] 3 6 1 0 [] (.cons [110] 1 6 1 0 [] .nil (.cons [115] 2 7 0 0 [] .nil .nil)) .nil)) o2 e2 rfl
 obtain⟨x5,rfl⟩:∃x,q5=some x:=by
  cases q5 with
  |none=>have:=o5.aN.1;exact absurd this (by decide)
  |some x=>exact⟨x,rfl⟩
 obtain⟨gd,rfl⟩:∃gb,x5=⟨gb,0,none⟩:=⟨x5.block,o5.row.1⟩
 obtain⟨q6,p6,_,_,m6,_,_⟩:=aW.nd (i:=1) (d:=⟨[115],2,4,2,0,[104,105],.nil⟩) (r:= .nil) o5 e5 rfl
 have l1:=m1.cell 4 (by simp[ad]);have l2:=m2.cell 6 (by simp[ad]);have l3:=m3.cell 4 (by simp[ad]);have l4:=m4.cell 3 (by simp[ad]);have l5:=m5.cell 6 (by simp[ad]);have l6:=m6.cell 5 (by simp[ad])
 simp only[ad,Z0,Z1,Nat.reduceMul,Nat.reduceAdd]at l1 l2 l3 l4 l5 l6
 have l2':w3.cell? ⟨gb,20,none⟩=some (.slice (some ⟨gc,0,none⟩) 2 p2):=l2
 have l5':w3.cell? ⟨gc,6,none⟩=some (.slice (some ⟨gd,0,none⟩) 2 p5):=l5
 have u0:5≤c0:=aT ho5
 have u2:2≤p2:=aT o2
 have u5:2≤p5:=aT o5
 clear hv ho he ho5 m1 m2 m3 m4 m5 m6 o2 e2 o5 e5 l2 l5 HNV HND HRV
 go_wp2_with fail
 refine(ec _).mono ?_
 rintro e w9 ⟨rfl,rfl⟩
 go_wp2_with fail
 go_ret
 exact⟨rfl,HFB.out⟩
end
end Go.Proofs.YtlomecfhobehnaaGreatDoor
