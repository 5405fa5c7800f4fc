import Derived.Test.YtlomecfhobehnaaGreatDoorMgFixSets45
set_option linter.unusedVariables false
set_option linter.unusedSimpArgs false
set_option maxRecDepth 100000
set_option maxHeartbeats 4000000
namespace Go.Proofs.YtlomecfhobehnaaGreatDoor
open Lib (hid)
section
open Go Go.RowKit
open Rd
open Ly
namespace Fx
open Tm Ly
def FZ(S:Sub):Prop:=∀nm st ks st',S nm st=some (ks,st')→Tdy ks
def TdN(d:Nd):Prop:=(d.kind=1∨d.kind=2→d.kids= .nil)∧Tdy d.kids
theorem Ao{d:Nd}{r:Nds}(h:TdN d)(hr:Tdy r):Tdy (d.put r):=⟨h.1,h.2,hr⟩
theorem tZ{S:Sub}(hS:FZ S){s:Wd}{N:Ex.Names}{h:Hd}{st st':St}{d:Nd}(ho:bI S s N h st=some (d,st')):TdN d:=by
 unfold bI at ho;cases hn:nod st with
 |none=>rw[hn]at ho;cases ho
 |some st1=>
  rw[hn]at ho;simp only[Option.bind_some]at ho;cases hk:h.k with
  |scalar w=>
   rw[hk]at ho;simp only[]at ho;obtain⟨p,_,h2⟩:=Option.map_eq_some_iff.1 ho;cases h2;exact⟨fun _=>rfl,trivial⟩
  |bytes=>
   rw[hk]at ho;simp only[]at ho;obtain⟨k,_,h1⟩:=Option.bind_eq_some_iff.1 ho;obtain⟨p,_,h2⟩:=Option.map_eq_some_iff.1 h1;cases h2;exact⟨fun _=>rfl,trivial⟩
  |struct t=>
   rw[hk]at ho;simp only[]at ho;obtain⟨p,h1,h2⟩:=Option.map_eq_some_iff.1 ho;cases h2;exact⟨fun h=>(by rcases h with h|h <;> simp at h),hS _ _ _ _ h1⟩
theorem Ap{f:St→Option (Nd×St)}(hf:∀st st' d,f st=some (d,st')→TdN d):∀(k:Nat) (st st':St) (ks:Nds),Ly.rep f k st=some (ks,st')→Tdy ks
 |0,st,st',ks,h=>by cases h;trivial
 |k+1,st,st',ks,h=>by
  have h2:(f st).bind (fun p=>(Ly.rep f k p.2).map fun q=>(p.1.put q.1,q.2))=some (ks,st'):=h;obtain⟨p,h3,h4⟩:=Option.bind_eq_some_iff.1 h2;obtain⟨q,h5,h6⟩:=Option.map_eq_some_iff.1 h4;cases h6;exact Ao (hf _ _ _ h3) (Ap hf k _ _ _ h5)
theorem GY{S:Sub}(hS:FZ S){s:Wd}{N:Ex.Names}{h:Hd}{st st':St}{d:Nd}(ho:hdR S s N h st=some (d,st')):TdN d:=by
 unfold hdR at ho;split at ho
 ·unfold hH at ho;obtain⟨st1,_,h1⟩:=Option.bind_eq_some_iff.1 ho;obtain⟨k,_,h2⟩:=Option.bind_eq_some_iff.1 h1;split at h2
  ·cases h2
  ·obtain⟨p,h3,h4⟩:=Option.map_eq_some_iff.1 h2;cases h4;exact⟨fun h=>(by rcases h with h|h <;> simp at h),Ap (fun _ _ _=>tZ hS) _ _ _ _ h3⟩
 ·exact tZ hS ho
theorem oJ{S:Sub}(hS:FZ S)(s:Wd):∀(l:Its) (N N':Ex.Names) (st st':St) (ks:Nds),bM S s l N st=some (ks,N',st')→Tdy ks
 | .nil,N,N',st,st',ks,h=>by cases h;trivial
 | .cons h l,N,N',st,st',ks,ho=>by
  cases h1:hdR S s N h st with
  |none=>rw[fV h1]at ho;cases ho
  |some p=>
   obtain⟨d,st1⟩:=p;rw[pP h1]at ho;obtain⟨⟨r2,N2,s2⟩,h2,h3⟩:=Option.map_eq_some_iff.1 ho;cases h3;exact Ao (GY hS h1) (oJ hS s l _ _ _ _ _ h2)
 | .when a c b l,N,N',st,st',ks,ho=>by
  rw[jm]at ho;unfold fe at ho;obtain⟨p,h1,h2⟩:=Option.bind_eq_some_iff.1 ho;obtain⟨⟨r2,N2,s2⟩,h3,h4⟩:=Option.map_eq_some_iff.1 h2;cases h4;obtain⟨st1,_,h5⟩:=Option.bind_eq_some_iff.1 h1;obtain⟨v,_,h6⟩:=Option.bind_eq_some_iff.1 h5;obtain⟨z,h7,h8⟩:=Option.map_eq_some_iff.1 h6;cases h8;refine⟨fun h=>(by rcases h with h|h <;> simp at h),?_,oJ hS s l _ _ _ _ _ h3⟩;split at h7
  ·cases h7;trivial
  ·exact oJ hS s b _ _ _ _ _ h7
theorem uc(s:Wd):∀l:List Ty,FZ (rdS s l)
 |[],nm,st,ks,st',h=>by cases h
 |t::r,nm,st,ks,st',h=>by
  by_cases hn:t.name=nm
  ·subst hn;rw[tv]at h;obtain⟨p,h1,h2⟩:=Option.map_eq_some_iff.1 h;obtain⟨k2,N2,st2⟩:=p;cases h2;exact oJ (uc s r) s _ _ _ _ _ _ h1
  ·rw[jr hn]at h;exact uc s r nm st ks st' h
theorem wN{tys:List Ty}{root s:Wd}{d:Nd}(h:aB tys root s=some d):TdN d:=by
 unfold aB at h;obtain⟨p,h1,h2⟩:=Option.bind_eq_some_iff.1 h;split at h2
 ·cases h2;exact tZ (uc s _) (st':=p.2) (d:=p.1) h1
 ·cases h2
theorem ll(f:Nd→Nd):∀(p:List Nat) (d x:Nd),bD p d=some x→cB (fun _=>f x) p d=cB f p d
 |[],d,x,h=>by cases h;rfl
 |k::p,d,x,h=>by
  have h2:(nth k d.kids).bind (bD p)=some x:=h;obtain⟨y,h3,h4⟩:=Option.bind_eq_some_iff.1 h2;show({d with kids:=atN (cB (fun _=>f x) p) k d.kids}:Nd)={d with kids:=atN (cB f p) k d.kids}
  congr 1
  have:∀(j:Nat) (X:Nds),nth j X=some y→atN (cB (fun _=>f x) p) j X=atN (cB f p) j X:=by
   intro j X
   induction j generalizing X with
   |zero=>
    cases X with
    |nil=>intro h;cases h
    |cons a b c e f' g x' r=>
     intro h;cases h;show(cB (fun _=>f x) p _).put r=(cB f p _).put r;rw[ll f p _ x h4]
   |succ j ih=>
    cases X with
    |nil=>intro h;cases h
    |cons a b c e f' g x' r=>
     intro h;show Nds.cons a b c e f' g x' (atN _ j r)=Nds.cons a b c e f' g x' (atN _ j r);rw[ih r h]
  exact this k d.kids h3
theorem oK(f:Nd→Nd)(hf:∀d:Nd,d.ok→(f d).ok):∀(p:List Nat) (d:Nd),d.ok→(cB f p d).ok
 |[],d,h=>hf d h
 |k::p,d,h=>by
  refine⟨h.1,?_⟩;show(atN (cB f p) k d.kids).ok;have:∀(j:Nat) (X:Nds),X.ok→(atN (cB f p) j X).ok:=by
   intro j X
   induction j generalizing X with
   |zero=>
    cases X with
    |nil=>exact id
    |cons a b c e f' g x' r=>exact fun h=>⟨(oK f hf p ⟨a,b,c,e,f',g,x'⟩ ⟨h.1,h.2.1⟩).1,(oK f hf p ⟨a,b,c,e,f',g,x'⟩ ⟨h.1,h.2.1⟩).2,h.2.2⟩
   |succ j ih=>
    cases X with
    |nil=>exact id
    |cons a b c e f' g x' r=>exact fun h=>⟨h.1,h.2.1,ih r h.2.2⟩
  exact this k d.kids h.2
theorem qw(f:Nd→Nd)(b:Nat)(hf:∀d:Nd,(f d).tot≤d.tot+b):∀(p:List Nat) (d:Nd),(cB f p d).tot≤d.tot+b
 |[],d=>hf d
 |k::p,d=>by
  have:∀(j:Nat) (X:Nds),(atN (cB f p) j X).tot≤X.tot+b:=by
   intro j X
   induction j generalizing X with
   |zero=>
    cases X with
    |nil=>exact Nat.zero_le _
    |cons a b' c e f' g x' r=>
     have h1:=qw f b hf p ⟨a,b',c,e,f',g,x'⟩;have h2:(atN (cB f p) 0 (.cons a b' c e f' g x' r)).tot=(cB f p ⟨a,b',c,e,f',g,x'⟩).tot+r.tot:=rfl;have h3:(Nds.cons a b' c e f' g x' r).tot=Nd.tot ⟨a,b',c,e,f',g,x'⟩+r.tot:=rfl;omega
   |succ j ih=>
    cases X with
    |nil=>exact Nat.zero_le _
    |cons a b' c e f' g x' r=>
     have h1:=ih r;simp only[atN,Nds.tot];omega
  have h2:=this k d.kids;show(d.text.length+8+(atN (cB f p) k d.kids).tot)≤d.text.length+8+d.kids.tot+b;omega
end Fx
theorem qx{w:World}{g off i:Nat}{e:TypeId}{xs:List Value}(h:ad w g off e xs)(hi:i < xs.length)(v:Value):(w.setCell ⟨g,off+i,none⟩ v).heap[g]? =(w.setCells g off (xs.set i v)).heap[g]? :=by
 obtain⟨cur,fz,h1,h2,h3⟩:=h;have hle:off+xs.length≤cur.size:=by
  have h4:=h2 (xs.length - 1) (by omega);have h5:(xs[xs.length - 1]?).isSome=true:=by simp;omega
  rw[← h4]at h5;have:=(Array.getElem?_eq_some_iff.1 (Option.isSome_iff_exists.1 h5).choose_spec).1;omega
 obtain⟨cur',a1,a2,a3⟩:=iS g e fz (xs.set i v) off w cur h1 (by rw[List.length_set];exact hle);rw[a1];have:(w.setCell ⟨g,off+i,none⟩ v).heap[g]? =some (.cells (cur.setIfInBounds (off+i) v) e fz):=by simp[World.setCell,Array.getElem?_modify,h1]
 rw[this]
 congr 2
 apply Array.ext_getElem?;intro k;rw[a3 k,Array.getElem?_setIfInBounds,List.length_set]
 by_cases hk:off≤k∧k < off+xs.length
 ·rw[if_pos hk,List.getElem?_set]
  by_cases he:off+i=k
  ·rw[if_pos he,if_pos (by omega),if_pos (by omega)];rw[if_pos (by omega)]
  ·rw[if_neg he,if_neg (by omega),← h2 (k - off) (by omega)]
   congr 1;omega
 ·rw[if_neg hk,if_neg (by omega)]
theorem Em{w:World}{g o o':Nat}{e e':TypeId}{xs ys:List Value}(h:ad w g o e xs)(h':ad w g o' e' ys):e=e':=by
 obtain⟨cur,fz,h1,_⟩:=h;obtain⟨cur',fz',h2,_⟩:=h';rw[h1]at h2;injection h2 with h2
 injection h2
theorem aQ.F8{w w':World}{B:Nat}{ks:Nds}{ga:Option Addr}{cap:Nat}{bl:List Nat}{vs:List Value}(h:aQ w B ks ga cap bl vs)(hk:∀b∈aU ga++bl,w'.heap[b]? =w.heap[b]?):aQ w' B ks ga cap bl vs:=
 ⟨h.own.al fun x hx=>hk _ (List.mem_append_left _ (by rw[hx];simp[aU])),h.enc.al _ _ _ fun b hb=>hk b (List.mem_append_right _ hb),h.nodup⟩
theorem En{X:World}{B nb gn on c:Nat}{d x:Nd}{q:List Nat}{g:Option Addr}{bl:List Nat}{vs:List Value}(h:Foc X B nb d q gn on x g c bl vs)(txt:Tm.Wd):eh (X.setCell ⟨gn,on+5,none⟩ (.string (aa txt))) B nb (Fx.cB (fun d=>{d with text:=txt}) q d):=by
 rw[← Fx.ll (fun d=>{d with text:=txt}) q d x h.get];have hs:=qx (i:=5) h.row (by simp[ae]) (.string (aa txt));exact h.put _ {x with text:=txt} g c bl vs hs (fun b hb hn _=>Below.heap_setCell _ _ _ _ hn) (aQ.F8 h.kv fun b hb=>Below.heap_setCell _ _ _ _ (fun e=>h.off (by rw[← show b=gn from e];exact hb))) (fun b hb=> .inl hb)
theorem F0{X:World}{B nb gn on c:Nat}{d x:Nd}{q:List Nat}{g:Option Addr}{bl:List Nat}{vs:List Value}(h:Foc X B nb d q gn on x g c bl vs)(v:Int):eh (X.setCell ⟨gn,on+4,none⟩ (.int .i64 v)) B nb (Fx.cB (fun d=>{d with val:=v}) q d):=by
 rw[← Fx.ll (fun d=>{d with val:=v}) q d x h.get];have hs:=qx (i:=4) h.row (by simp[ae]) (.int .i64 v);exact h.put _ {x with val:=v} g c bl vs hs (fun b hb hn _=>Below.heap_setCell _ _ _ _ hn) (aQ.F8 h.kv fun b hb=>Below.heap_setCell _ _ _ _ (fun e=>h.off (by rw[← show b=gn from e];exact hb))) (fun b hb=> .inl hb)
def nZ(w X:World)(nb:Nat)(tys:List Tm.Ty)(root:Tm.Wd)(ErrC:Int→Prop)(OkC:Nd→Prop)(e:Ending)(w':World):Prop:=Below w.heap.size w w'∧((∃k:Int,ErrC k∧e= .returned (.iface 48 (.int .i64 k)))∨
 ∃d',OkC d'∧e= .returned .nilIface∧eh w' w.heap.size nb d'∧w'.heap[nb+1]? =X.heap[nb+1]? ∧d'.ok∧d'.tot≤800000∧(Fx.wrT tys.reverse root d').isSome=true)
def iY(w:World)(tys:List Tm.Ty)(root:Tm.Wd)(ps:List Int)(o:Option Nd)(ErrC:List Nat→Nd→Nd→Int→Prop)(OkC:List Nat→Nd→Nd→Nd→Prop)(e:Ending)(w':World):Prop:=Below w.heap.size w w'∧match o with
 |none=>∃t v,e= .returned (.tuple #[.string {data:= #[]},.iface t v])
 |some d=>((∀q,ps=bN q→q=[]∨Fx.bD q d=none)∧e= .returned (.tuple #[.string {data:= #[]},.iface 48 (.int .i64 7)]))∨
   ∃q x,ps=bN q∧q≠[]∧Fx.bD q d=some x∧((∃k,ErrC q d x k∧e= .returned (.tuple #[.string {data:= #[]},.iface 48 (.int .i64 k)]))∨
    ∃d',OkC q d x d'∧(Fx.wrT tys.reverse root d').isSome=true∧e=(match Fx.bW Fx.bJ tys.reverse root d' with
     | .ok u=> .returned (.tuple #[.string (aa u),.nilIface])
     | .bad k=> .returned (.tuple #[.string {data:= #[]},.iface 48 (.int .i64 (GW k))])))
theorem eh.F'{w:World}{B nb:Nat}{d:Nd}{bl:List Nat}{g:Option Addr}{c:Nat}(h:NdV w B bl d (.agg (ae d.name d.kind d.at_ d.size d.val d.text (.slice g d.kids.len c)).toArray))(hn:bl.Nodup)(hr:ad w nb 0 28 (ae d.name d.kind d.at_ d.size d.val d.text (.slice g d.kids.len c)))(hb:nb∉bl):eh w B nb d:=by
 obtain⟨ga,cap,bs,b1,e,rfl,h1,h2⟩:=h;have e2:(Value.slice g d.kids.len c)= .slice ga d.kids.len cap:=by
  have h3:(ae d.name d.kind d.at_ d.size d.val d.text (.slice g d.kids.len c)).toArray=(ae d.name d.kind d.at_ d.size d.val d.text (.slice ga d.kids.len cap)).toArray:=by injection e
  have h4:=congrArg Array.toList h3;simpa[ae]using h4
 rw[e2]at hr;exact⟨ga,cap,b1,bs,hr,⟨h1,h2,hn⟩,hb⟩
theorem wO(w:World)(B cap pc tb:Nat)(tys:List Tm.Ty)(a pa:Option Addr)(vs:List Value)(root s:Tm.Wd)(ps:List Int)(ErrC:List Nat→Nd→Nd→Int→Prop)(OkC:List Nat→Nd→Nd→Nd→Prop)(hT:TyF w B tys a cap vs)(hr:root.length≤200000000000000)(hs:s.length≤4000)
  (hps:∀X,Below w.heap.size w X→RdI X pa ps)(hpl:ps.length≤1000)(hpc:ps.length≤pc)
  (hdo:∀(X:World) (q:List Nat) (d x:Nd) (nb gn on:Nat) (g:Option Addr) (c:Nat) (bl:List Nat) (vsx:List Value) (upv:Value) (gx ox:Nat),Below w.heap.size w X→aB tys root s=some d→ps=bN q→q≠[]→Foc X w.heap.size nb d q gn on x g c bl vsx→w.heap.size≤gn→gn≠nb+1→w.heap.size≤nb→nb+1 < X.heap.size→Itm w tys root x q gx ox→(∃q' k y gu ou g' c' bl' vs',q=q'++[k]∧upv= .pointer (some ⟨gu,ou,none⟩)∧Foc X w.heap.size nb d q' gu ou y g' c' bl' vs')→
   Calls Tryz.prog 40 #[upv,.pointer (some ⟨gn,on,none⟩),.pointer (some ⟨gx,ox,none⟩),.pointer (some ⟨tb,0,none⟩)] X (nZ w X nb tys root (ErrC q d x) (OkC q d x))):
  Calls Tryz.prog 37 #[.slice a tys.length cap,.string (aa root),.string (aa s),.slice pa ps.length pc,.func (.func 40) #[] #[.pointer (some ⟨tb,0,none⟩)]] w (iY w tys root ps (aB tys root s) ErrC OkC):=by
 have hF:∀t∈tys,Tm.aZ t∧Tm.Its.sz t.items≤100000:=hT.ew;obtain⟨n,hn⟩:∃n,n=tys.length:=⟨_,rfl⟩;obtain⟨pn,hpn⟩:∃pn,pn=ps.length:=⟨_,rfl⟩;have hRD:=eO tys root s w B cap B a vs hT.own hT.enc hF hT.few hT.chain hr (by omega);have HRT:Hid (∀d,aB tys root s=some d→d.ok∧d.tot≤8000∧(wrS tys.reverse root d.kids).isSome=true∧d.kind=3∧Fx.Tdy d.kids):=hid (fun d hd=>by
  obtain⟨d1,d2,d3⟩:=ea hT hs hd;have hwd:(Fx.wrT tys.reverse root d).isSome=true:=by unfold Fx.wrT;rw[d3];rfl
  obtain⟨k1,k2,k3⟩:=Fx.dO hwd;exact⟨d1,d2,k1,k3,(Fx.wN hd).2⟩)
 have HAT:Hid (∀X d nb,Below w.heap.size w X→aB tys root s=some d→eh X w.heap.size nb d→Calls Tryz.prog 72 #[.agg #[.slice a n cap],.string (aa root),.pointer (some ⟨nb,0,none⟩),.slice pa pn pc] X (wM w X w.heap.size nb tys root d ps)):=hid (fun X d nb hX hd ht=>by
  obtain⟨d1,d2,d3,d4,d5⟩:=HRT.out d hd;rw[hn,hpn];exact El w X B w.heap.size nb cap pc tys a pa root d ps hT.fxe hX ht d4 d3 d5 (by omega) (fun Y hY=>hps Y (hX.trans (hY.mono hX.size))) hpl hpc)
 have HDN:Hid (∀X d Bn bl v,Below w.heap.size w X→d.ok→d.tot≤800000→(Fx.wrT tys.reverse root d).isSome=true→NdV X Bn bl d v→Calls Tryz.prog 34 #[.agg #[.slice a n cap],.string (aa root),v] X (oH X (Fx.bW Fx.bJ tys.reverse root d))):=hid (fun X d Bn bl v hX d1 d2 d3 hv=>by
  obtain⟨u0,hu0⟩:=Option.isSome_iff_exists.1 d3;rw[hn];exact nF tys root u0 d X B cap Bn a vs v bl (hT.up hX) hr hv d1 d2 hu0)
 have HDO:=hid hdo;obtain⟨o,ho⟩:∃o,o=aB tys root s:=⟨_,rfl⟩;rw[← ho]at hRD HRT HAT HDO⊢;rw[← hn,← hpn]at *
 have HRD:=hid hRD;clear hT hr hs hps hpl hpc hdo hF hRD ho hn hpn;go_enter Tryz.func37,Tryz.ntmps37;go_wp2_with fail;refine HRD.out.mono ?_;unfold cQ;rintro e w2 ⟨hb2,hv2⟩;have HB2:=hid hb2;cases o with
 |none=>
  obtain⟨ty,vv,rfl⟩:=hv2;clear hb2;go_wp2_with fail;go_ret2;exact⟨HB2.out.alloc HB2.out.size _,ty,vv,rfl⟩
 |some d=>
  obtain⟨v2,bl2,rfl,hnd2,hnp2⟩:=hv2;obtain⟨g2,cc2,hve⟩:=hnd2.cells;subst hve;obtain⟨V,hV⟩:∃V,V=(w2.alloc (.cells #[.string (aa d.name),.int .i64 (d.kind:Nat),.int .i64 (d.at_:Nat),.int .i64 (d.size:Nat),.int .i64 d.val,.string (aa d.text),.slice g2 d.kids.len cc2] 28)).alloc (.cells #[.slice a n cap] 75):=⟨_,rfl⟩;have hbV:Below w2.heap.size w2 V:=by rw[hV];exact((Y4 _ _).alloc (Z5 _) _).alloc (by simp) _
  have hVs:V.heap.size=w2.heap.size+2:=by rw[hV];simp
  have hq0:ad V w2.heap.size 0 28 [.string (aa d.name),.int .i64 (d.kind:Nat),.int .i64 (d.at_:Nat),.int .i64 (d.size:Nat),.int .i64 d.val,.string (aa d.text),.slice g2 d.kids.len cc2]:=by rw[hV];exact(ad.new w2 _ _).alloc _
  have hq1:ad V (w2.heap.size+1) 0 75 [.slice a n cap]:=by rw[hV];exact ad.ix _ _ (by simp) _ _
  have hndV:=hnd2.al (w':=V) fun b hb=>hbV.block b (hnd2.mem b hb).2
  have htr:eh V w.heap.size w2.heap.size d:=eh.F' hndV hnp2 hq0 (fun hb=>by have:=(hnd2.mem _ hb).2;omega);have hbVw:Below w.heap.size w V:=hb2.trans (hbV.mono hb2.size);have HAV:=hid (HAT.out V d w2.heap.size hbVw rfl htr);have HQ1:=hid hq1;have j0:=hq1.cell0 0 (by simp);simp only[Z0]at j0;obtain⟨ml,hml⟩:∃ml,ml=d.kids.len:=⟨_,rfl⟩;rw[← hml]at hV⊢;rw[hV]at j0;have HV:=hid hV;have HBV:=hid hbVw;have HVS:=hid hVs;clear hb2 hnd2 hnp2 hV hbV hq0 hq1 hndV htr hbVw hml hVs;go_wp2_with fail;rw[← HV.out];refine HAV.out.mono ?_;unfold wM;rintro e w4 ⟨hb4,⟨rfl,hno⟩|⟨q,x,gn,on,g,c,bl,vsx,upv,xv,hq,rfl,hfoc,hx0,hx1⟩⟩
  ·have HB4:=hid (HBV.out.trans (hb4.mono HBV.out.size));have HNO:=hid hno;clear hb4 hno j0;go_wp2_with fail;go_ret2;exact⟨HB4.out,.inl ⟨fun q hq=> .inr (HNO.out q hq),rfl⟩⟩
  ·have HB4:=hid (HBV.out.trans (hb4.mono HBV.out.size));have hq14:=HQ1.out.below hb4 HQ1.out.lt;have hz4:w2.heap.size+1 < w4.heap.size:=by have:=hb4.size;have:=HVS.out;omega
   by_cases hqn:q=[]
   ·have hxe:=hx0 hqn;subst hxe;have HNO:=hid (show ∀q2,ps=bN q2→q2=[]∨Fx.bD q2 d=none from fun q2 h2=> .inl (by
     subst hqn;rw[hq]at h2;cases q2 with
     |nil=>rfl
     |cons y q2=>simp[bN]at h2))
    clear hb4 hx0 hx1 hqn hq14 hz4 j0 hq hfoc;go_wp2_with fail;go_ret2;exact⟨HB4.out,.inl ⟨HNO.out,rfl⟩⟩
   ·obtain⟨⟨gx,ox,rfl,hitm⟩,hpar⟩:=hx1 hqn;have hgn1:gn≠w2.heap.size+1:=fun e=>by
     have h1:=hfoc.row;rw[e]at h1;have:=Em h1 hq14;exact absurd this (by decide)
    have hgnB:w.heap.size≤gn:=by
     rcases hfoc.base with h|h
     ·exact h
     ·have:=HB2.out.size;omega
    have HCL:=hid (HDO.out w4 q d x w2.heap.size gn on g c bl vsx upv gx ox HB4.out rfl hq hqn hfoc hgnB hgn1 HB2.out.size hz4 hitm hpar);have HQX:=hid (And.intro hq (And.intro hqn hfoc.get));have HQ14:=hid hq14;clear hb4 hx0 hx1 hq hfoc hitm hpar hgn1 hgnB hq14 hz4 j0;go_wp2_with fail;refine HCL.out.mono ?_;unfold nZ;rintro e w5 ⟨hb5,⟨k,hek,rfl⟩|⟨d2,hok2,rfl,ht5,hk5,ho5,ht25,hw5⟩⟩
    ·have HB5:=hid hb5;have HEK:=hid hek;clear hb5 hek hqn;go_wp2_with fail;go_ret2;exact⟨HB5.out,.inr ⟨q,x,HQX.out.1,HQX.out.2.1,HQX.out.2.2,.inl ⟨k,HEK.out,rfl⟩⟩⟩
    ·have HB5:=hid hb5;obtain⟨g5,c5,bl5,vs5,hr5,hkv5,hn5⟩:=ht5;have hq5:=HQ14.out.of_heap hk5;have j5:=hq5.cell0 0 (by simp);simp only[Z0]at j5;have hnd5:=hkv5.nd d2.name d2.kind d2.at_ d2.size d2.val d2.text;have HD5:=hid (HDN.out w5 d2 _ _ _ hb5 ho5 ht25 hw5 hnd5);obtain⟨m5,hm5⟩:∃m5,m5=d2.kids.len:=⟨_,rfl⟩;rw[← hm5]at hr5 HD5;have e5:Value.agg (ae d2.name d2.kind d2.at_ d2.size d2.val d2.text (.slice g5 m5 c5)).toArray= .agg #[.string (aa d2.name),.int .i64 (d2.kind:Nat),.int .i64 (d2.at_:Nat),.int .i64 (d2.size:Nat),.int .i64 d2.val,.string (aa d2.text),.slice g5 m5 c5]:=rfl;rw[e5]at HD5;have hr5b:ad w5 w2.heap.size 0 28 [.string (aa d2.name),.int .i64 (d2.kind:Nat),.int .i64 (d2.at_:Nat),.int .i64 (d2.size:Nat),.int .i64 d2.val,.string (aa d2.text),.slice g5 m5 c5]:=hr5;have c0:=hr5b.cell0 0 (by simp);have c1:=hr5b.cell0 1 (by simp);have c2:=hr5b.cell0 2 (by simp);have c3:=hr5b.cell0 3 (by simp);have c4:=hr5b.cell0 4 (by simp);have cc5:=hr5b.cell0 5 (by simp);have c6:=hr5b.cell0 6 (by simp);simp only[Z0,Z1]at c0 c1 c2 c3 c4 cc5 c6;have HOK:=hid (And.intro hok2 hw5);obtain⟨rr,hrr⟩:∃rr,rr=Fx.bW Fx.bJ tys.reverse root d2:=⟨_,rfl⟩;rw[← hrr]at HD5;have HRR:=hid hrr;clear hb5 hok2 hr5 hr5b hkv5 hn5 hq5 hnd5 ho5 ht25 hw5 hk5 e5 hm5 hqn hrr;go_wp2_with fail;refine HD5.out.mono ?_;rintro e w6 ⟨hb6,hv6⟩;have HB6:=hid (HB5.out.trans (hb6.mono HB5.out.size));clear hb6;cases rr with
     |ok u=>
      simp only[]at hv6;subst hv6;go_wp2_with fail;go_ret2;refine⟨HB6.out,.inr ⟨q,x,HQX.out.1,HQX.out.2.1,HQX.out.2.2,.inr ⟨d2,HOK.out.1,HOK.out.2,?_⟩⟩⟩;rw[← HRR.out];rfl
     |bad k=>
      simp only[]at hv6;subst hv6;go_wp2_with fail;go_ret2;refine⟨HB6.out,.inr ⟨q,x,HQX.out.1,HQX.out.2.1,HQX.out.2.2,.inr ⟨d2,HOK.out.1,HOK.out.2,?_⟩⟩⟩;rw[← HRR.out];rfl
def j'(q:List Nat)(d x:Nd)(k:Int):Prop:=x.kind≠2∧k=1
def ln(tys:List Tm.Ty)(root txt:Tm.Wd)(q:List Nat)(d x d':Nd):Prop:=x.kind=2∧d'=Fx.cB (fun d=>{d with text:=txt}) q d∧∃h,Fx.itS tys.reverse root q=some h∧kNo h.k=2
theorem ud{tys:List Tm.Ty}{root txt:Tm.Wd}{q:List Nat}{d x:Nd}{h:Tm.Hd}(hd:(Fx.wrT tys.reverse root d).isSome=true)(hq:q≠[])(hi:Fx.itS tys.reverse root q=some h)(hx:Fx.bD q d=some x)(hk:x.kind=2)(hk2:kNo h.k=2):(Fx.wrT tys.reverse root (Fx.cB (fun d=>{d with text:=txt}) q d)).isSome=true:=by
 cases q with
 |nil=>exact absurd rfl hq
 |cons k q=>
  refine Fx.ma (fun W d hd=> ?_) hd hi hx (by rw[hk,hk2]);unfold aY at hd⊢;simp only[]at hd⊢;split at hd
  ·cases hd
  ·rename_i hn
   rw[if_neg hn];cases hc:h.k with
   |scalar w=>rw[hc]at hk2;cases hk2
   |bytes=>rfl
   |struct t=>rw[hc]at hk2;cases hk2
theorem Cn(w X:World)(tys:List Tm.Ty)(root txt s:Tm.Wd)(q:List Nat)(d x:Nd)(nb gn on tb gx ox c B cap:Nat)(a:Option Addr)(vs:List Value)(g:Option Addr)(bl:List Nat)(vsx:List Value)(upv:Value)(hT:TyF w B tys a cap vs)(hs:s.length≤4000)(htl:txt.length≤1000)(hX:Below w.heap.size w X)(hb:ad w tb 0 9 [.string (aa txt)])(hd:aB tys root s=some d)(hq:q≠[])(hf:Foc X w.heap.size nb d q gn on x g c bl vsx)(hgn:w.heap.size≤gn)(hgn1:gn≠nb+1)(hit:Itm w tys root x q gx ox):
  Calls Tryz.prog 40 #[upv,.pointer (some ⟨gn,on,none⟩),.pointer (some ⟨gx,ox,none⟩),.pointer (some ⟨tb,0,none⟩)] X (nZ w X nb tys root (j' q d x) (ln tys root txt q d x)):=by
 have hrow:=hf.row;have c1:=hrow.cell 1 (by simp[ae]);have c5:=hrow.cell 5 (by simp[ae]);have z5:=hrow.frozen 5 (by simp[ae]);have b0:=(hb.below hX hb.lt).cell0 0 (by simp);simp only[ae,Z0,Z1]at c1 c5 b0;obtain⟨xt,hxt⟩:∃xt,xt=aa x.text:=⟨_,rfl⟩;rw[← hxt]at c5;obtain⟨kd,hkd⟩:∃kd,kd=x.kind:=⟨_,rfl⟩;rw[← hkd]at c1;have HKD:=hid hkd;have HX:=hid hX
 by_cases h2:kd=2
 ·have q1:((kd:Int)==2)=true:=by rw[beq_iff_eq];omega
  have q2:((kd:Int)!=2)=false:=by rw[bne,q1];rfl
  have q3:(kd==2)=true:=beq_iff_eq.2 h2;have q4:(kd !=2)=false:=by rw[bne,q3];rfl
  have hx2:x.kind=2:=by rw[← hkd];exact h2
  obtain⟨h,hi,hk2⟩:∃h,Fx.itS tys.reverse root q=some h∧kNo h.k=2:=by
   cases hit with
   |hd h cv hr hi hk=>exact⟨h,hi,by rcases hk with hk|hk <;> omega⟩
   |wh ai cv sv hr hk=>omega
  obtain⟨d1,dt,d3⟩:=ea hT hs hd;have hwd:(Fx.wrT tys.reverse root d).isSome=true:=by unfold Fx.wrT;rw[d3];rfl
  have HR:=hid (show nZ w X nb tys root (j' q d x) (ln tys root txt q d x) (.returned .nilIface) (X.setCell ⟨gn,on+5,none⟩ (.string (aa txt)))from
   ⟨hX.setCell (p:=⟨gn,on+5,none⟩) hgn _,.inr ⟨_,⟨hx2,rfl,h,hi,hk2⟩,rfl,En hf txt,Below.heap_setCell _ _ _ _ (fun e=>hgn1 (show gn=nb+1 from e.symm)),Fx.oK (fun d=>{d with text:=txt}) (fun d h=>h) q d d1,by
    have:=Fx.qw (fun d=>{d with text:=txt}) txt.length (fun d=>by unfold Nd.tot;simp only[];omega) q d;omega,ud hwd hq hi hf.get hx2 hk2⟩⟩)
  clear hT hs htl hX hb hd hq hf hgn hgn1 hit hrow hkd h2 hx2 hi hk2 d1 dt d3 hwd hxt;go_enter Tryz.func40,Tryz.ntmps40;go_wp2_with fail;go_ret;exact HR.out
 ·have q1:((kd:Int)==2)=false:=by rw[Z8];omega
  have q2:((kd:Int)!=2)=true:=by rw[bne,q1];rfl
  have q3:(kd==2)=false:=Z8.2 h2;have q4:(kd !=2)=true:=by rw[bne,q3];rfl
  have HE:=hid (show j' q d x 1 from⟨by rw[← hkd];exact h2,rfl⟩);clear hT hs htl hX hb hd hq hf hgn hgn1 hit hrow hkd h2 hxt;go_enter Tryz.func40,Tryz.ntmps40;go_wp2_with fail;go_ret;exact⟨HX.out,.inl ⟨1,HE.out,rfl⟩⟩
theorem iY.below{w w1 w':World}{tys:List Tm.Ty}{root:Tm.Wd}{ps:List Int}{o:Option Nd}{E:List Nat→Nd→Nd→Int→Prop}{O:List Nat→Nd→Nd→Nd→Prop}{e:Ending}(h:iY w1 tys root ps o E O e w')(hb:Below w.heap.size w w1):iY w tys root ps o E O e w':=⟨hb.trans (h.1.mono hb.size),h.2⟩
theorem iY.two{w w':World}{tys:List Tm.Ty}{root:Tm.Wd}{ps:List Int}{o:Option Nd}{E:List Nat→Nd→Nd→Int→Prop}{O:List Nat→Nd→Nd→Nd→Prop}{e:Ending}(h:iY w tys root ps o E O e w'):∃u v,e= .returned (.tuple #[.string u,v]):=by
 obtain⟨_,h2⟩:=h;cases o with
 |none=>obtain⟨t,v,rfl⟩:=h2;exact⟨_,_,rfl⟩
 |some d=>
  rcases h2 with⟨_,rfl⟩|⟨q,x,_,_,_,⟨k,_,rfl⟩|⟨d',_,_,rfl⟩⟩
  ·exact⟨_,_,rfl⟩
  ·exact⟨_,_,rfl⟩
  ·cases Fx.bW Fx.bJ tys.reverse root d' <;> exact⟨_,_,rfl⟩
theorem wP(w:World)(B cap pc:Nat)(tys:List Tm.Ty)(a pa:Option Addr)(vs:List Value)(root s txt:Tm.Wd)(ps:List Int)(hT:TyF w B tys a cap vs)(hr:root.length≤200000000000000)(hs:s.length≤4000)(htl:txt.length≤1000)
  (hps:∀X,Below w.heap.size w X→RdI X pa ps)(hpl:ps.length≤1000)(hpc:ps.length≤pc):
  Calls Tryz.prog 16 #[.slice a tys.length cap,.string (aa root),.string (aa s),.slice pa ps.length pc,.string (aa txt)] w (iY w tys root ps (aB tys root s) j' (ln tys root txt)):=by
 obtain⟨n,hn⟩:∃n,n=tys.length:=⟨_,rfl⟩;obtain⟨pn,hpn⟩:∃pn,pn=ps.length:=⟨_,rfl⟩;obtain⟨V1,hV1⟩:∃V1,V1=w.alloc (.cells #[.string (aa txt)] 9):=⟨_,rfl⟩;have hb1:Below w.heap.size w V1:=by rw[hV1];exact(Y4 _ _).alloc (Z5 _) _
 have hbx:ad V1 w.heap.size 0 9 [.string (aa txt)]:=by rw[hV1];exact ad.new w _ _
 have HCH:=hid (wO V1 B cap pc w.heap.size tys a pa vs root s ps j' (ln tys root txt) (hT.up hb1) hr hs (fun X hX=>hps X (hb1.trans (hX.mono hb1.size))) hpl hpc (fun X q d x nb gn on g c bl vsx upv gx ox hX hd hq hqn hf hg1 hg2 hnb hnz hit hpar=>Cn V1 X tys root txt s q d x nb gn on w.heap.size gx ox c B cap a vs g bl vsx upv (hT.up hb1) hs htl hX hbx hd hqn hf hg1 hg2 hit));have HV1:=hid hV1;have HB1:=hid hb1;rw[← hn,← hpn]at HCH⊢;clear hT hr hs htl hps hpl hpc hn hpn hV1 hb1 hbx;go_enter Tryz.func16,Tryz.ntmps16;go_wp2_with fail;rw[← HV1.out];refine HCH.out.mono ?_;intro e w5 hco;have HCO:=hid hco;obtain⟨u,v,rfl⟩:=hco.two;clear hco;go_wp2_with fail;go_ret2;exact HCO.out.below HB1.out
def mq(w:World)(e:Ending)(w':World):Prop:=Below w.heap.size w w'∧((∃a n c,e= .returned (.tuple #[.slice a n c,.bool false]))∨
 ∃s2 tys a cap vs,List.length s2≤3000∧pQ w' w.heap.size s2 tys a cap vs∧Tm.chk [] tys=none∧e= .returned (.tuple #[.slice a (List.length tys) cap,.bool true]))
theorem zk(s:List UInt8)(hne:s≠[])(w:World)(hB:ke w):Calls Tryz.prog 8 #[.string (aa s)] w (mq w):=by
 have q0:(s==[])=false:=Z8.2 hne;have q1:s.isEmpty=false:=by cases s;exact absurd rfl hne;rfl
 have HLG:=hid (fun W=>uE s W);have HB:=hid hB;clear hB hne;go_enter Tryz.func8,Tryz.ntmps8;go_wp2_with fail;refine(HLG.out _).mono ?_;rintro e w1 ⟨rfl,rfl⟩
 by_cases h9:900 < s.length
 ·have d9:decide (900 < s.length)=true:=Z9 h9;go_wp2_with fail;go_ret2;exact⟨Y4 _ _,.inl ⟨_,_,_,rfl⟩⟩
 ·have d9:decide (900 < s.length)=false:=Y9 h9;have hs3:s.length≤3000:=by omega
  have HS3:=hid hs3;have HPS:=hid (kV s w hs3 HB.out);clear h9 hs3 HLG;go_wp2_with fail;refine HPS.out.mono ?_;rintro e w2 ⟨hb2,⟨tys,a,cap,vs,hm,rfl⟩|⟨hno,g,rfl⟩⟩
  ·have HSS:=True.intro;have HM:=hid hm;have HB2:=hid hb2;have HCK:=hid (kU (hm.up (Y4 w2.heap.size w2).drew) HS3.out);obtain⟨n,hn⟩:∃n,n=tys.length:=⟨_,rfl⟩;rw[← hn]at HCK⊢;have HN:=hid hn;obtain⟨o,ho⟩:∃o,o=Tm.chk [] tys:=⟨_,rfl⟩;rw[← ho]at HCK;unfold jn at HCK;have HO:=hid ho;clear hm hb2 hn ho HPS;go_wp2_with fail;cases o with
   |none=>
    go_region_held3 (fun _=>True) (trivial)
     (first
      |(go_at_call 26;(refine HCK.out.mono ?_);(rintro e w8 ⟨hb8,rfl⟩)))
    all_goals
     have HB8:=hid (show Below w2.heap.size w2 w8 from Below.trans (Y4 _ _).drew hb8);clear hb8;go_wp2_with fail;go_ret2;refine⟨HB2.out.trans (HB8.out.mono HB2.out.size),.inr ⟨s,tys,a,cap,vs,HS3.out,HM.out.up HB8.out,HO.out.symm,?_⟩⟩;rw[← HN.out];rfl
   |some k=>
    go_region_held3 (fun _=>True) (trivial)
     (first
      |(go_at_call 26;(refine HCK.out.mono ?_);(rintro e w8 ⟨hb8,g8,p8,rfl,_⟩)))
    all_goals
     have HB8:=hid (show Below w2.heap.size w2 w8 from Below.trans (Y4 _ _).drew hb8);clear hb8;go_wp2_with fail;go_ret2;exact⟨HB2.out.trans (HB8.out.mono HB2.out.size),.inl ⟨_,_,_,rfl⟩⟩
  ·have HB2:=hid hb2;clear hno hb2 HPS;go_wp2_with fail;go_quiet (fail);go_wp2_with fail;go_ret2;exact⟨ey HB2.out _,.inl ⟨_,_,_,rfl⟩⟩
theorem zl(w:World)(hB:ke w):Calls Tryz.prog 8 #[.string (aa [])] w (mq w):=by
 have hbl:(Tm.cS Tm.bV).length≤3000:=by rw[Tm.lW];omega
 have HS3:=hid hbl;have hlg:=fun W=>uE (Tm.cS Tm.bV) W
 rw[show decide (900 < (Tm.cS Tm.bV).length)=false by rw[Tm.lW];rfl]at hlg;have hps:=kV (Tm.cS Tm.bV) w hbl hB;rw[Tm.mV]at hlg hps;have HLG:=hid hlg;have HPS:=hid hps;clear hlg hps hB hbl;go_enter Tryz.func8,Tryz.ntmps8;go_wp2_with fail;refine(HLG.out _).mono ?_;rintro e w1 ⟨rfl,rfl⟩;clear HLG;go_wp2_with fail;refine HPS.out.mono ?_;rintro e w2 ⟨hb2,⟨tys,a,cap,vs,hm,rfl⟩|⟨hno,g,rfl⟩⟩
 ·rw[← Tm.mV]at hm;have HM:=hid hm;have HB2:=hid hb2;have HCK:=hid (kU (hm.up (Y4 w2.heap.size w2).drew) HS3.out);obtain⟨n,hn⟩:∃n,n=tys.length:=⟨_,rfl⟩;rw[← hn]at HCK⊢;have HN:=hid hn;obtain⟨o,ho⟩:∃o,o=Tm.chk [] tys:=⟨_,rfl⟩;rw[← ho]at HCK;unfold jn at HCK;have HO:=hid ho;clear hm hb2 hn ho HPS;go_wp2_with fail;cases o with
  |none=>
   go_region_held3 (fun _=>True) (trivial)
    (first
     |(go_at_call 26;(refine HCK.out.mono ?_);(rintro e w8 ⟨hb8,rfl⟩)))
   all_goals
    have HB8:=hid (show Below w2.heap.size w2 w8 from Below.trans (Y4 _ _).drew hb8);clear hb8;go_wp2_with fail;go_ret2;refine⟨HB2.out.trans (HB8.out.mono HB2.out.size),.inr ⟨Tm.cS Tm.bV,tys,a,cap,vs,HS3.out,HM.out.up HB8.out,HO.out.symm,?_⟩⟩;rw[← HN.out];rfl
  |some k=>
   go_region_held3 (fun _=>True) (trivial)
    (first
     |(go_at_call 26;(refine HCK.out.mono ?_);(rintro e w8 ⟨hb8,g8,p8,rfl,_⟩)))
   all_goals
    have HB8:=hid (show Below w2.heap.size w2 w8 from Below.trans (Y4 _ _).drew hb8);clear hb8;go_wp2_with fail;go_ret2;exact⟨HB2.out.trans (HB8.out.mono HB2.out.size),.inl ⟨_,_,_,rfl⟩⟩
 ·have HB2:=hid hb2;clear hno hb2 HPS;go_wp2_with fail;go_quiet (fail);go_wp2_with fail;go_ret2;exact⟨ey HB2.out _,.inl ⟨_,_,_,rfl⟩⟩
theorem Co(s:List UInt8)(w:World)(hB:ke w):Calls Tryz.prog 8 #[.string (aa s)] w (mq w):=by
 by_cases h:s=[]
 ·subst h;exact zl w hB
 ·exact zk s h w hB
namespace Ly
def dE:Nd:=⟨dZ,3,0,12,0,[],ee⟩
theorem qy{tys:List Tm.Ty}(h:Tm.bZ Tm.bV tys):bI (rdS bX tys.reverse) bX (fun _=>none) (cf dZ) ⟨0,0⟩=some (dE,⟨12,13⟩):=by
 rw[← zV bX (kW h)];exact vC
theorem qz{tys:List Tm.Ty}(h:Tm.bZ Tm.bV tys):aB tys dZ bX=some dE:=by
 unfold aB;rw[qy h];rfl
theorem n7{tys:List Tm.Ty}(h:Tm.bZ Tm.bV tys)(hF:∀t∈tys,Tm.aZ t):aY (wrS tys.reverse) (cf dZ) dE=some bX:=
 pU (fun t ht=>hF t (List.mem_reverse.1 ht)) (qy h) rfl
theorem sC:dE.ok∧dE.tot≤1000000:=by
 refine⟨?_,by decide⟩;unfold Nd.ok dE ee;simp[Nds.ok,Ex.InR]
end Ly
theorem ei(w:World):Calls Tryz.prog 23 #[] w fun e w'=>e= .returned (.string (aa bX))∧w=w':=by
 go_enter Tryz.func23,Tryz.ntmps23;go_wp2_with fail;go_ret;exact⟨rfl,rfl⟩
theorem wQ(w:World)(hB:ke w):Calls Tryz.prog 7 #[] w fun e w'=>e= .returned (.bool true)∧Below w.heap.size w w':=by
 have HBX:=hid (rX w hB);clear hB;go_enter Tryz.func7,Tryz.ntmps7;go_wp2_with fail;refine HBX.out.mono ?_;rintro e w1 ⟨hb1,tys,a,cap,vs,hsame,hm,rfl⟩;have hbl:(Tm.cS Tm.bV).length≤3000:=by rw[Tm.lW];omega
 obtain⟨f1,f2,_,f4⟩:=hm.ew hbl;have hchk:Tm.chk [] tys=none:=by rw[Tm.pw hsame Tm.ij];exact Tm.tu
 have hlen:tys.length=2:=by
  have:∀{l m:List Tm.Ty},Tm.bZ l m→l.length=m.length:=by
   intro l m h
   induction h with
   |nil=>rfl
   |cons _ _ ih=>simp[ih]
  exact(this hsame).symm
 have hF:∀t∈tys,Tm.aZ t∧Tm.Its.sz t.items≤100000:=fun t ht=>⟨(f2 t ht).1,(f2 t ht).2.2⟩
 have hRD:=eO tys dZ bX w1 w.heap.size cap w.heap.size a vs hm.own hm.enc hF (by omega) (mW hchk) (by decide) (by decide);rw[qz hsame,hlen]at hRD;unfold cQ at hRD;have HRD:=hid hRD;have HM:=hid hm;have HB1:=hid hb1;have HF:=hid hF;have HCH:=hid (mW hchk);have HLEN:=hid hlen;have HWR:=hid (n7 hsame f1);clear hRD hm hb1 hF hchk hlen f1 f2 f4 hsame hbl HBX;go_wp2_with fail;refine(ei _).mono ?_;rintro e w9 ⟨rfl,rfl⟩;go_wp2_with fail;refine HRD.out.mono ?_;rintro e w2 ⟨hb2,v,bl,rfl,hnd,hnodup⟩;obtain⟨g0,c0,hv⟩:=hnd.cells;have hv2:v= .agg #[.string (aa dZ),.int .i64 3,.int .i64 0,.int .i64 12,.int .i64 0,.string (aa []),.slice g0 5 c0]:=hv;subst hv2;have HND:=hid hnd;have HB2:=hid hb2;clear hb2 hnd hnodup hv HRD;have hbx:ad (w2.alloc (.cells #[.string {data:= #[]},.int .i64 0,.int .i64 0,.int .i64 0,.int .i64 0,.string {data:= #[]},.slice none 0 0] 28)) w2.heap.size 0 28 [.string {data:= #[]},.int .i64 0,.int .i64 0,.int .i64 0,.int .i64 0,.string {data:= #[]},.slice none 0 0]:=ad.new w2 28 #[.string {data:= #[]},.int .i64 0,.int .i64 0,.int .i64 0,.int .i64 0,.string {data:= #[]},.slice none 0 0];have y0:=hbx.cell0 0 (by simp);have z0:=hbx.frozen0 0 (by simp);have y1:=hbx.cell0 1 (by simp);have z1:=hbx.frozen0 1 (by simp);have y2:=hbx.cell0 2 (by simp);have z2:=hbx.frozen0 2 (by simp);have y3:=hbx.cell0 3 (by simp);have z3:=hbx.frozen0 3 (by simp);have y4:=hbx.cell0 4 (by simp);have z4:=hbx.frozen0 4 (by simp);have y5:=hbx.cell0 5 (by simp);have z5:=hbx.frozen0 5 (by simp);have y6:=hbx.cell0 6 (by simp);have z6:=hbx.frozen0 6 (by simp);simp only[Z0,Z1]at y0 y1 y2 y3 y4 y5 y6;obtain⟨V,hV⟩:∃V,V=w2.alloc (.cells #[.string (aa dZ),.int .i64 3,.int .i64 0,.int .i64 12,.int .i64 0,.string (aa []),.slice g0 5 c0] 28):=⟨_,rfl⟩;have hbV:Below w2.heap.size w2 V:=by rw[hV];exact(Y4 _ _).alloc (Z5 _) _
 have hrV:ad V w2.heap.size 0 28 [.string (aa dZ),.int .i64 3,.int .i64 0,.int .i64 12,.int .i64 0,.string (aa []),.slice g0 5 c0]:=by rw[hV];exact ad.new w2 _ _
 have hndV:=HND.out.al (w':=V) (fun b hb=>hbV.block b (HND.out.mem b hb).2);have hmV:=(HM.out.up HB2.out).up hbV;have hWR:=iN tys dZ bX dE V w.heap.size cap w.heap.size _ a vs _ bl hmV.own hmV.enc HF.out (by rw[HLEN.out];decide) HCH.out (by decide) hndV sC.1 sC.2 HWR.out;rw[HLEN.out]at hWR;have HWC:=hid hWR;have r0:=hrV.cell0 0 (by simp);have r1:=hrV.cell0 1 (by simp);have r2:=hrV.cell0 2 (by simp);have r3:=hrV.cell0 3 (by simp);have r4:=hrV.cell0 4 (by simp);have r5:=hrV.cell0 5 (by simp);have r6:=hrV.cell0 6 (by simp);simp only[Z0,Z1]at r0 r1 r2 r3 r4 r5 r6;rw[hV]at r0 r1 r2 r3 r4 r5 r6;have HRV:=hid hrV;have HNV:=hid hndV;have HBV:=hid (And.intro HB2.out hbV);have HV:=hid hV;clear hbx hV hbV hrV hndV hmV hWR;go_wp2_with fail;rw[← HV.out];refine HWC.out.mono ?_;rintro e w3 ⟨hb3,rfl⟩;clear y0 y1 y2 y3 y4 y5 y6 z0 z1 z2 z3 z4 z5 z6 r0 r1 r2 r3 r4 r5 r6;have hbx3:=HRV.out.below hb3 HRV.out.lt;have hnd3:=HNV.out.al (w':=w3) (fun b hb=>hb3.block b (HNV.out.mem b hb).2);have k6:=hbx3.cell0 6 (by simp);simp only[Z0,Z1]at k6;have HFB:=hid (show Below w.heap.size w w3 from(HB1.out.trans (HBV.out.1.mono HB1.out.size)).trans ((HBV.out.2.trans (hb3.mono HBV.out.2.size)).mono (Nat.le_trans HB1.out.size HBV.out.1.size)));clear hb3 hbx3;obtain⟨ga,cp,bs,b1,hv,_,ho,he⟩:=hnd3;have hs1:Value.slice g0 5 c0=Value.slice ga 5 cp:=by
  have h1:=congrArg Value.cells hv;have h2:=congrArg (fun A:Array Value=>A.toList.getD 6 undef) h1;exact h2
 injection hs1 with hs2 _ hs3
 subst hs2 hs3;obtain⟨x,rfl⟩:∃x,g0=some x:=by
  cases g0 with
  |none=>have:=ho.aO.1;exact absurd this (by decide)
  |some x=>exact⟨x,rfl⟩
 obtain⟨gb,rfl⟩:∃gb,x=⟨gb,0,none⟩:=⟨x.block,ho.row.1⟩;have ho5:an w3 w1.heap.size 28 7 (some ⟨gb,0,none⟩) ee.len c0 bs:=ho;obtain⟨q1,p1,_,_,m1,_,_⟩:=aW.nd (i:=1) (d:=⟨[109,97,110,121],1,2,1,2,[],.nil⟩) (r:=ee.drop 2) ho5 he rfl;obtain⟨q2,p2,bs2,b2,m2,o2,e2⟩:=aW.nd (i:=2) (d:=⟨[108],9,3,4,0,[],(.cons [108] 3 3 3 0 [] (.cons [110] 1 3 1 2 [] .nil (.cons [115] 2 4 2 0 [104,105] .nil .nil)) (.cons [108] 3 6 1 0 [] (.cons [110] 1 6 1 0 [] .nil (.cons [115] 2 7 0 0 [] .nil .nil)) .nil))⟩) (r:=ee.drop 3) ho5 he rfl;obtain⟨q3,p3,_,_,m3,_,_⟩:=aW.nd (i:=3) (d:=⟨[],4,7,1,1,[],(.cons [109,111,114,101] 1 7 1 7 [] .nil .nil)⟩) (r:=ee.drop 4) ho5 he rfl;obtain⟨q4,p4,_,_,m4,_,_⟩:=aW.nd (i:=4) (d:=⟨[115,117,109],1,8,4,0,[],.nil⟩) (r:= .nil) ho5 he rfl;obtain⟨x2,rfl⟩:∃x,q2=some x:=by
  cases q2 with
  |none=>have:=o2.aO.1;exact absurd this (by decide)
  |some x=>exact⟨x,rfl⟩
 obtain⟨gc,rfl⟩:∃gb,x2=⟨gb,0,none⟩:=⟨x2.block,o2.row.1⟩;obtain⟨q5,p5,bs5,b5,m5,o5,e5⟩:=aW.nd (i:=0) (d:=⟨[108],3,3,3,0,[],(.cons [110] 1 3 1 2 [] .nil (.cons [115] 2 4 2 0 [104,105] .nil .nil))⟩) (r:=(.cons [108] 3 6 1 0 [] (.cons [110] 1 6 1 0 [] .nil (.cons [115] 2 7 0 0 [] .nil .nil)) .nil)) o2 e2 rfl;obtain⟨x5,rfl⟩:∃x,q5=some x:=by
  cases q5 with
  |none=>have:=o5.aO.1;exact absurd this (by decide)
  |some x=>exact⟨x,rfl⟩
 obtain⟨gd,rfl⟩:∃gb,x5=⟨gb,0,none⟩:=⟨x5.block,o5.row.1⟩;obtain⟨q6,p6,_,_,m6,_,_⟩:=aW.nd (i:=1) (d:=⟨[115],2,4,2,0,[104,105],.nil⟩) (r:= .nil) o5 e5 rfl;have l1:=m1.cell 4 (by simp[ae]);have l2:=m2.cell 6 (by simp[ae]);have l3:=m3.cell 4 (by simp[ae]);have l4:=m4.cell 3 (by simp[ae]);have l5:=m5.cell 6 (by simp[ae]);have l6:=m6.cell 5 (by simp[ae]);simp only[ae,Z0,Z1,Nat.reduceMul,Nat.reduceAdd]at l1 l2 l3 l4 l5 l6;have l2':w3.cell? ⟨gb,20,none⟩=some (.slice (some ⟨gc,0,none⟩) 2 p2):=l2;have l5':w3.cell? ⟨gc,6,none⟩=some (.slice (some ⟨gd,0,none⟩) 2 p5):=l5;have u0:5≤c0:=aT ho5;have u2:2≤p2:=aT o2;have u5:2≤p5:=aT o5;clear hv ho he ho5 m1 m2 m3 m4 m5 m6 o2 e2 o5 e5 l2 l5 HNV HND HRV;go_wp2_with fail;refine(ei _).mono ?_;rintro e w9 ⟨rfl,rfl⟩;go_wp2_with fail;go_ret;exact⟨rfl,HFB.out⟩
namespace Fx
open Tm Ly
theorem qA{l m:Its}(h:eA l m):l.row=m.row:=by
 induction h with
 |nil=>rfl
 |cons hh _ ih=>
  simp only[Its.row,ih,skH];rw[hh.1,hh.2.1,hh.2.2.2,jT hh]
 |when _ _ _ _ ih=>simp only[Its.row,ih]
theorem sD(W:Wri){a b:Hd}(h:iV a b)(d:Nd):aY W a d=aY W b d:=by
 unfold aY;rw[h.1,h.2.1]
theorem qB(W:Wri){a b:Hd}(h:iV a b)(d:Nd):bc W a d=bc W b d:=by
 unfold bc;rw[jT h,sD W h,h.2.1,show aY W a=aY W b from funext (sD W h)]
theorem sE(W:Wri){l m:Its}(h:eA l m):∀ks:Nds,aH W l ks=aH W m ks:=by
 induction h with
 |nil=>intro ks;rfl
 |cons hh _ ih=>
  intro ks;cases ks with
  |nil=>rfl
  |cons a b c d e f g r=>simp only[aH,qB W hh,ih]
 |when hc _ _ ih1 ih2=>
  intro ks;cases ks with
  |nil=>rfl
  |cons a b c d e f g r=>simp only[aH,ih1,ih2]
theorem zm(W:Wri){l m:Its}(h:eA l m):∀ks:Nds,texts W l ks=texts W m ks:=by
 induction h with
 |nil=>intro ks;rfl
 |cons hh _ ih=>
  intro ks;cases ks with
  |nil=>rfl
  |cons a b c d e f g r=>simp only[texts,qB W hh,ih]
 |when hc hb _ _ ih2=>
  intro ks;cases ks with
  |nil=>rfl
  |cons a b c d e f g r=>simp only[texts,sh,sE W hb,ih2]
theorem Aq{l m:List Ty}(h:bZ l m):wrS l=wrS m:=by
 induction h with
 |nil=>rfl
 |@cons a b l m hh _ ih=>
  funext nm ks
  show(if a.name=nm then _ else _)=(if b.name=nm then _ else _);rw[hh.1,ih,sE _ hh.2]
theorem zn(C:Wd→Nat)(W:Wri){l m:Its}(h:eA l m)(ks:Nds){a b:Hd}(hh:iV a b):av C W l ks a=av C W m ks b:=by
 unfold av jv;rw[qA h,zm W h,hh.2.2.2]
theorem Cp{l m:Its}(h:eA l m):∀i,(eG l i=none∧eG m i=none)∨∃a b,eG l i=some a∧eG m i=some b∧iV a b:=by
 induction h with
 |nil=>intro i;exact .inl ⟨by cases i <;> rfl,by cases i <;> rfl⟩
 |cons hh _ ih=>
  intro i;cases i with
  |zero=>exact .inr ⟨_,_,rfl,rfl,hh⟩
  |succ i=>exact ih i
 |when _ _ _ _ ih=>
  intro i;cases i with
  |zero=>exact .inl ⟨rfl,rfl⟩
  |succ i=>exact ih i
theorem Cq(C:Wd→Nat)(W:Wri){l m:Its}(h:eA l m)(ks:Nds)(i:Nat):gp C W l ks i=gp C W m ks i:=by
 unfold gp;rcases Cp h i with⟨h1,h2⟩|⟨a,b,h1,h2,h3⟩
 ·rw[h1,h2]
 ·rw[h1,h2];simp only[];rw[zn C W h ks h3,h3.1]
theorem nI(C:Wd→Nat)(W:Wri){l m:Its}(h:eA l m):∀(O:List Nat) (ks:Nds),eE C W l O ks=eE C W m O ks
 |[],ks=>rfl
 |i::O,ks=>by
  unfold eE;rw[Cq C W h,show eE C W l O=eE C W m O from funext (nI C W h O)]
theorem Eo(B:Fxr){a b:Hd}(h:iV a b)(ks:Nds):hdF B a ks=hdF B b ks:=by
 unfold hdF;rw[h.1,jT h]
theorem wR(C:Wd→Nat)(W:Wri)(B:Fxr){l m:Its}(h:eA l m):∀ks:Nds,aM C W B l ks=aM C W B m ks:=by
 induction h with
 |nil=>intro ks;cases ks <;> rfl
 |cons hh _ ih=>
  intro ks;cases ks with
  |nil=>rfl
  |cons a b c d e f g r=>simp only[aM,Eo B hh,ih]
 |when hc hb _ ih1 ih2=>
  intro ks;cases ks with
  |nil=>rfl
  |cons a b c d e f g r=>
   simp only[aM,ih1,ih2,qA hb];rw[show eE C W _ (ord _)=eE C W _ (ord _)from funext (nI C W hb _)]
theorem Ep(C:Wd→Nat){l m:List Ty}(h:bZ l m):dj C l=dj C m:=by
 induction h with
 |nil=>rfl
 |@cons a b l m hh hl ih=>
  funext nm ks
  show(if a.name=nm then _ else _)=(if b.name=nm then _ else _);unfold fj;rw[hh.1,ih,Aq hl,wR C _ _ hh.2,qA hh.2,show eE C (wrS m) a.items (ord b.items.row)=eE C (wrS m) b.items (ord b.items.row)from funext (nI C _ hh.2 _)]
def u0:Wd:=[0,1,2,2,104,105,0,7,70,221,2,116]
def u1:Wd:=[0,1,2,2,104,105,3,97,98,99,7,84,197,30,137]
def filled:Nd:=cB (fun d=>{d with text:=[97,98,99]}) [2,1,1] dE
def qC(L:List Ty)(d:Nd)(u:Wd):Bool:=match dj bJ L dZ d.kids with
 |none=>false
 |some p=>match wrT L dZ {d with kids:=p},rdT L dZ u with
  |some v,some m=>decide (v=u)&&dT {d with kids:=p} m
  |_,_=>false
theorem wS{L:List Ty}{d:Nd}{u:Wd}(h:qC L d u=true)(hl:u.length≤4000):bW bJ L dZ d= .ok u:=by
 unfold qC at h;cases h1:dj bJ L dZ d.kids with
 |none=>rw[h1]at h;cases h
 |some p=>
  rw[h1]at h;simp only[]at h;cases h2:wrT L dZ {d with kids:=p}with
  |none=>rw[h2]at h;simp at h
  |some v=>
   cases h3:rdT L dZ u with
   |none=>rw[h2,h3]at h;simp at h
   |some m=>
    rw[h2,h3]at h;simp only[Bool.and_eq_true,decide_eq_true_eq]at h;obtain⟨rfl,h4⟩:=h;rw[qq h1 h2 (by omega) h3,if_pos h4]
theorem Hi:qC bV.reverse dE u0=true:=by kernel_rfl
theorem Hj:qC bV.reverse filled u1=true:=by kernel_rfl
theorem qD{l m:List Ty}(h:bZ l m)(d:Nd)(u:Wd):qC l d u=qC m d u:=by
 unfold qC rdT wrT;rw[Ep bJ h,Aq h,zV u h]
theorem wT{tys:List Ty}(h:bZ bV tys):bW bJ tys.reverse dZ dE= .ok u0:=wS (by rw[← qD (kW h)];exact Hi) (by decide)
theorem wU{tys:List Ty}(h:bZ bV tys):bW bJ tys.reverse dZ filled= .ok u1:=wS (by rw[← qD (kW h)];exact Hj) (by decide)
theorem Cr:∃x,bD [2,1,1] dE=some x∧x.kind=2:=⟨_,rfl,rfl⟩
end Fx
end
end Go.Proofs.YtlomecfhobehnaaGreatDoor
