import Derived.Lib.Overlaps
import Derived.Lib.AppendZeros
import Derived.Test.YtlomecfhobehnaaGreatDoorMgFixDrops34
set_option linter.all false
set_option maxRecDepth 100000
set_option maxHeartbeats 4000000
namespace Go.Proofs.YtlomecfhobehnaaGreatDoor
open Lib (hid)
section
open Go Go.RowKit
open Rd
open Ly
namespace Fx
open Tm Ly
def Jc(S:Sub):Prop:=∀nm st ks st',S nm st=some (ks,st')→Tdy ks
def TdN(d:Nd):Prop:=(d.kind=1∨d.kind=2→d.kids= .nil)∧Tdy d.kids
theorem BI{d:Nd}{r:Nds}(h:TdN d)(hr:Tdy r):Tdy (d.put r):=⟨h.1,h.2,hr⟩
theorem vp{S:Sub}(hS:Jc S){s:Wd}{N:Ex.Names}{h:Hd}{st st':St}{d:Nd}(ho:bL S s N h st=some (d,st')):TdN d:=by
 unfold bL at ho;cases hn:nod st with
 |none=>rw[hn]at ho;cases ho
 |some st1=>
  rw[hn]at ho;simp only[Option.bind_some]at ho;cases hk:h.k with
  |scalar w=>
   rw[hk]at ho;simp only[]at ho;obtain⟨p,_,h2⟩:=Option.map_eq_some_iff.1 ho;cases h2;exact⟨fun _=>rfl,trivial⟩
  |bytes=>
   rw[hk]at ho;simp only[]at ho;obtain⟨k,_,h1⟩:=Option.bind_eq_some_iff.1 ho;obtain⟨p,_,h2⟩:=Option.map_eq_some_iff.1 h1;cases h2;exact⟨fun _=>rfl,trivial⟩
  |struct t=>
   rw[hk]at ho;simp only[]at ho;obtain⟨p,h1,h2⟩:=Option.map_eq_some_iff.1 ho;cases h2;exact⟨fun h=>(by rcases h with h|h <;> simp at h),hS _ _ _ _ h1⟩
theorem BJ{f:St→Option (Nd×St)}(hf:∀st st' d,f st=some (d,st')→TdN d):∀(k:Nat) (st st':St) (ks:Nds),Ly.rep f k st=some (ks,st')→Tdy ks
 |0,st,st',ks,h=>by cases h;trivial
 |k+1,st,st',ks,h=>by
  have h2:(f st).bind (fun p=>(Ly.rep f k p.2).map fun q=>(p.1.put q.1,q.2))=some (ks,st'):=h;obtain⟨p,h3,h4⟩:=Option.bind_eq_some_iff.1 h2;obtain⟨q,h5,h6⟩:=Option.map_eq_some_iff.1 h4;cases h6;exact BI (hf _ _ _ h3) (BJ hf k _ _ _ h5)
theorem Kd{S:Sub}(hS:Jc S){s:Wd}{N:Ex.Names}{h:Hd}{st st':St}{d:Nd}(ho:hdR S s N h st=some (d,st')):TdN d:=by
 unfold hdR at ho;split at ho
 ·unfold iw at ho;obtain⟨st1,_,h1⟩:=Option.bind_eq_some_iff.1 ho;obtain⟨k,_,h2⟩:=Option.bind_eq_some_iff.1 h1;split at h2
  ·cases h2
  ·obtain⟨p,h3,h4⟩:=Option.map_eq_some_iff.1 h2;cases h4;exact⟨fun h=>(by rcases h with h|h <;> simp at h),BJ (fun _ _ _=>vp hS) _ _ _ _ h3⟩
 ·exact vp hS ho
theorem pC{S:Sub}(hS:Jc S)(s:Wd):∀(l:Its) (N N':Ex.Names) (st st':St) (ks:Nds),bO S s l N st=some (ks,N',st')→Tdy ks
 | .nil,N,N',st,st',ks,h=>by cases h;trivial
 | .cons h l,N,N',st,st',ks,ho=>by
  cases h1:hdR S s N h st with
  |none=>rw[gA h1]at ho;cases ho
  |some p=>
   obtain⟨d,st1⟩:=p;rw[qC h1]at ho;obtain⟨⟨r2,N2,s2⟩,h2,h3⟩:=Option.map_eq_some_iff.1 ho;cases h3;exact BI (Kd hS h1) (pC hS s l _ _ _ _ _ h2)
 | .when a c b l,N,N',st,st',ks,ho=>by
  rw[jC]at ho;unfold fp at ho;obtain⟨p,h1,h2⟩:=Option.bind_eq_some_iff.1 ho;obtain⟨⟨r2,N2,s2⟩,h3,h4⟩:=Option.map_eq_some_iff.1 h2;cases h4;obtain⟨st1,_,h5⟩:=Option.bind_eq_some_iff.1 h1;obtain⟨v,_,h6⟩:=Option.bind_eq_some_iff.1 h5;obtain⟨z,h7,h8⟩:=Option.map_eq_some_iff.1 h6;cases h8;refine⟨fun h=>(by rcases h with h|h <;> simp at h),?_,pC hS s l _ _ _ _ _ h3⟩;split at h7
  ·cases h7;trivial
  ·exact pC hS s b _ _ _ _ _ h7
theorem vq(s:Wd):∀l:List Ty,Jc (rdS s l)
 |[],nm,st,ks,st',h=>by cases h
 |t::r,nm,st,ks,st',h=>by
  by_cases hn:t.name=nm
  ·subst hn;rw[uL]at h;obtain⟨p,h1,h2⟩:=Option.map_eq_some_iff.1 h;obtain⟨k2,N2,st2⟩:=p;cases h2;exact pC (vq s r) s _ _ _ _ _ _ h1
  ·rw[jH hn]at h;exact vq s r nm st ks st' h
theorem rz{tys:List Ty}{root s:Wd}{d:Nd}(h:aw tys root s=some d):TdN d:=by
 unfold aw at h;obtain⟨p,h1,h2⟩:=Option.bind_eq_some_iff.1 h;split at h2
 ·cases h2;exact vp (vq s _) (st':=p.2) (d:=p.1) h1
 ·cases h2
theorem lO(f:Nd→Nd):∀(p:List Nat) (d x:Nd),bX p d=some x→cN (fun _=>f x) p d=cN f p d
 |[],d,x,h=>by cases h;rfl
 |k::p,d,x,h=>by
  have h2:(nth k d.kids).bind (bX p)=some x:=h;obtain⟨y,h3,h4⟩:=Option.bind_eq_some_iff.1 h2;show({d with kids:=atN (cN (fun _=>f x) p) k d.kids}:Nd)={d with kids:=atN (cN f p) k d.kids}
  congr 1
  have:∀(j:Nat) (X:Nds),nth j X=some y→atN (cN (fun _=>f x) p) j X=atN (cN f p) j X:=by
   intro j X
   induction j generalizing X with
   |zero=>
    cases X with
    |nil=>intro h;cases h
    |cons a b c e f' g x' r=>
     intro h;cases h;show(cN (fun _=>f x) p _).put r=(cN f p _).put r;rw[lO f p _ x h4]
   |succ j ih=>
    cases X with
    |nil=>intro h;cases h
    |cons a b c e f' g x' r=>
     intro h;show Nds.cons a b c e f' g x' (atN _ j r)=Nds.cons a b c e f' g x' (atN _ j r);rw[ih r h]
  exact this k d.kids h3
theorem pD(f:Nd→Nd)(hf:∀d:Nd,d.ok→(f d).ok):∀(p:List Nat) (d:Nd),d.ok→(cN f p d).ok
 |[],d,h=>hf d h
 |k::p,d,h=>by
  refine⟨h.1,?_⟩;show(atN (cN f p) k d.kids).ok;have:∀(j:Nat) (X:Nds),X.ok→(atN (cN f p) j X).ok:=by
   intro j X
   induction j generalizing X with
   |zero=>
    cases X with
    |nil=>exact id
    |cons a b c e f' g x' r=>exact fun h=>⟨(pD f hf p ⟨a,b,c,e,f',g,x'⟩ ⟨h.1,h.2.1⟩).1,(pD f hf p ⟨a,b,c,e,f',g,x'⟩ ⟨h.1,h.2.1⟩).2,h.2.2⟩
   |succ j ih=>
    cases X with
    |nil=>exact id
    |cons a b c e f' g x' r=>exact fun h=>⟨h.1,h.2.1,ih r h.2.2⟩
  exact this k d.kids h.2
theorem rA(f:Nd→Nd)(b:Nat)(hf:∀d:Nd,(f d).tot≤d.tot+b):∀(p:List Nat) (d:Nd),(cN f p d).tot≤d.tot+b
 |[],d=>hf d
 |k::p,d=>by
  have:∀(j:Nat) (X:Nds),(atN (cN f p) j X).tot≤X.tot+b:=by
   intro j X
   induction j generalizing X with
   |zero=>
    cases X with
    |nil=>exact Nat.zero_le _
    |cons a b' c e f' g x' r=>
     have h1:=rA f b hf p ⟨a,b',c,e,f',g,x'⟩;have h2:(atN (cN f p) 0 (.cons a b' c e f' g x' r)).tot=(cN f p ⟨a,b',c,e,f',g,x'⟩).tot+r.tot:=rfl;have h3:(Nds.cons a b' c e f' g x' r).tot=Nd.tot ⟨a,b',c,e,f',g,x'⟩+r.tot:=rfl;omega
   |succ j ih=>
    cases X with
    |nil=>exact Nat.zero_le _
    |cons a b' c e f' g x' r=>
     have h1:=ih r;simp only[atN,Nds.tot];omega
  have h2:=this k d.kids;show(d.text.length+8+(atN (cN f p) k d.kids).tot)≤d.text.length+8+d.kids.tot+b;omega
end Fx
theorem lP{w:World}{g off i:Nat}{e:TypeId}{xs:List Value}(h:ae w g off e xs)(hi:i < xs.length)(v:Value):(w.setCell ⟨g,off+i,none⟩ v).heap[g]? =(w.setCells g off (xs.set i v)).heap[g]? :=by
 obtain⟨cur,fz,h1,h2,h3⟩:=h;have hle:off+xs.length≤cur.size:=by
  have h4:=h2 (xs.length - 1) (by omega);have h5:(xs[xs.length - 1]?).isSome=true:=by simp;omega
  rw[← h4]at h5;have:=(Array.getElem?_eq_some_iff.1 (Option.isSome_iff_exists.1 h5).choose_spec).1;omega
 obtain⟨cur',a1,a2,a3⟩:=jd g e fz (xs.set i v) off w cur h1 (by rw[List.length_set];exact hle);rw[a1];have:(w.setCell ⟨g,off+i,none⟩ v).heap[g]? =some (.cells (cur.setIfInBounds (off+i) v) e fz):=by simp[World.setCell,Array.getElem?_modify,h1]
 rw[this]
 congr 2
 apply Array.ext_getElem?;intro k;rw[a3 k,Array.getElem?_setIfInBounds,List.length_set]
 by_cases hk:off≤k∧k < off+xs.length
 ·rw[if_pos hk,List.getElem?_set]
  by_cases he:off+i=k
  ·rw[if_pos he,if_pos (by omega),if_pos (by omega)];rw[if_pos (by omega)]
  ·rw[if_neg he,if_neg (by omega),← h2 (k - off) (by omega)]
   congr 1;omega
 ·rw[if_neg hk,if_neg (by omega)]
theorem Ar{w:World}{g o o':Nat}{e e':TypeId}{xs ys:List Value}(h:ae w g o e xs)(h':ae w g o' e' ys):e=e':=by
 obtain⟨cur,fz,h1,_⟩:=h;obtain⟨cur',fz',h2,_⟩:=h';rw[h1]at h2;injection h2 with h2
 injection h2
theorem aM.Kv{w w':World}{B:Nat}{ks:Nds}{ga:Option Addr}{cap:Nat}{bl:List Nat}{vs:List Value}(h:aM w B ks ga cap bl vs)(hk:∀b∈aB ga++bl,w'.heap[b]? =w.heap[b]?):aM w' B ks ga cap bl vs:=
 ⟨h.own.an fun x hx=>hk _ (List.mem_append_left _ (by rw[hx];simp[aB])),h.enc.an _ _ _ fun b hb=>hk b (List.mem_append_right _ hb),h.nodup⟩
theorem Gw{X:World}{B nb gn on c:Nat}{d x:Nd}{q:List Nat}{g:Option Addr}{bl:List Nat}{vs:List Value}(h:Foc X B nb d q gn on x g c bl vs)(txt:Tm.Wd):dX (X.setCell ⟨gn,on+5,none⟩ (.string (aa txt))) B nb (Fx.cN (fun d=>{d with text:=txt}) q d):=by
 rw[← Fx.lO (fun d=>{d with text:=txt}) q d x h.get];have hs:=lP (i:=5) h.row (by simp[ab]) (.string (aa txt));exact h.put _ {x with text:=txt} g c bl vs hs (fun b hb hn _=>Below.heap_setCell _ _ _ _ hn) (aM.Kv h.kv fun b hb=>Below.heap_setCell _ _ _ _ (fun e=>h.off (by rw[← show b=gn from e];exact hb))) (fun b hb=> .inl hb)
def jk(w X:World)(nb:Nat)(tys:List Tm.Ty)(root:Tm.Wd)(ErrC:Int→Prop)(OkC:Nd→Prop)(e:Ending)(w':World):Prop:=Below w.heap.size w w'∧((∃k:Int,ErrC k∧e= .returned (.iface 48 (.int .i64 k)))∨
 ∃d',OkC d'∧e= .returned .nilIface∧dX w' w.heap.size nb d'∧w'.heap[nb+1]? =X.heap[nb+1]? ∧d'.ok∧d'.tot≤800000∧(Fx.wrT tys.reverse root d').isSome=true)
def eI(w:World)(tys:List Tm.Ty)(root:Tm.Wd)(ps:List Int)(o:Option Nd)(ErrC:List Nat→Nd→Nd→Int→Prop)(OkC:List Nat→Nd→Nd→Nd→Prop)(e:Ending)(w':World):Prop:=Below w.heap.size w w'∧match o with
 |none=>∃t v,e= .returned (.tuple #[.string {data:= #[]},.iface t v])
 |some d=>((∀q,ps=bf q→q=[]∨Fx.bX q d=none)∧e= .returned (.tuple #[.string {data:= #[]},.iface 48 (.int .i64 7)]))∨
   ∃q x,ps=bf q∧q≠[]∧Fx.bX q d=some x∧((∃k,ErrC q d x k∧e= .returned (.tuple #[.string {data:= #[]},.iface 48 (.int .i64 k)]))∨
    ∃d',OkC q d x d'∧(Fx.wrT tys.reverse root d').isSome=true∧e=(match Fx.bH Fx.bE tys.reverse root d' with
     | .ok u=> .returned (.tuple #[.string (aa u),.nilIface])
     | .bad k=> .returned (.tuple #[.string {data:= #[]},.iface 48 (.int .i64 (DV k))])))
theorem dX.Gx{w:World}{B nb:Nat}{d:Nd}{bl:List Nat}{g:Option Addr}{c:Nat}(h:NdV w B bl d (.agg (ab d.name d.kind d.at_ d.size d.val d.text (.slice g d.kids.len c)).toArray))(hn:bl.Nodup)(hr:ae w nb 0 28 (ab d.name d.kind d.at_ d.size d.val d.text (.slice g d.kids.len c)))(hb:nb∉bl):dX w B nb d:=by
 obtain⟨ga,cap,bs,b1,e,rfl,h1,h2⟩:=h;have e2:(Value.slice g d.kids.len c)= .slice ga d.kids.len cap:=by
  have h3:(ab d.name d.kind d.at_ d.size d.val d.text (.slice g d.kids.len c)).toArray=(ab d.name d.kind d.at_ d.size d.val d.text (.slice ga d.kids.len cap)).toArray:=by injection e
  have h4:=congrArg Array.toList h3;simpa[ab]using h4
 rw[e2]at hr;exact⟨ga,cap,b1,bs,hr,⟨h1,h2,hn⟩,hb⟩
theorem ak.Kw{w:World}{B n cap m size:Nat}{e:TypeId}{g:Nat}{xs:List Value}(h:ak w B e size (some ⟨g,0,none⟩) n cap xs)(hm:m≤n):ak w B e size (some ⟨g,0,none⟩) m cap (xs.take (m * size)):=by
 obtain⟨h1,h2⟩:=h;rcases h2 with⟨h3,_⟩|⟨g',cp,cur,h3,h4,h5,h6,h7,h8,h9⟩
 ·cases h3
 ·cases h3;have hle:m * size≤n * size:=Nat.mul_le_mul_right _ hm;refine ak.nA (by rw[List.length_take,h1];omega) w g cur h4 h5 h8 (by omega) h7 ?_;rw[← h9,List.take_take]
  congr 1
  omega
theorem oY{P:Program}(w:World)(t e ty:TypeId)(z:Value)(ht:P.underlying t=some (.slice e))(hv:∀w,(zeroValue e).run P w= .ok z w)(cs:List Value)(hz:(Builtin.zeroCells z.cells 1).toList=cs)(h1:∀u∈cs,u.oneCell'=true)(b o c:Nat)
  (hc:∀j,j < cs.length→(w.cell? ⟨b,o+j,none⟩).isSome=true)(hf:∀j,j < cs.length→w.frozen? ⟨b,o+j,none⟩=false):
  (Builtin.clear_ #[t] ty #[.slice (some ⟨b,o,none⟩) 1 c]).run P w= .ok (.tuple #[]) (w.setCells b o cs):=by
 have hst:=run_storeCells_cells (P:=P) b o cs 0 w (by simpa using hc) (by simpa using hf) h1;simp only[Y2]at hst;simp[Builtin.clear_,run_underlying ht,hv,hz,hst]
theorem Gy(w:World):(zeroValue 28).run Tryz.prog w= .ok (.agg #[.string ⟨#[]⟩,.int .i64 0,.int .i64 0,.int .i64 0,.int .i64 0,.string ⟨#[]⟩,.slice none 0 0]) w:=by kernel_rfl
theorem rB:(Builtin.zeroCells (Value.agg #[.string ⟨#[]⟩,.int .i64 0,.int .i64 0,.int .i64 0,.int .i64 0,.string ⟨#[]⟩,.slice none 0 0]).cells 1).toList=[.string ⟨#[]⟩,.int .i64 0,.int .i64 0,.int .i64 0,.int .i64 0,.string ⟨#[]⟩,.slice none 0 0]:=by kernel_rfl
theorem ym(w:World)(B g n cap k:Nat)(vs:List Value)(h:ak w B 28 7 (some ⟨g,0,none⟩) n cap vs)(hk:k < n)(hn:n≤100000000)(h1:∀u∈vs,u.oneCell'=true):
  Calls Tryz.prog 45 #[.slice (some ⟨g,0,none⟩) n cap,.int .i64 k,.int .i64 (k+1:Nat)] w fun e w'=>e= .returned (.slice (some ⟨g,0,none⟩) (n - 1) cap)∧ak w' B 28 7 (some ⟨g,0,none⟩) (n - 1) cap (vs.take (k * 7)++vs.drop (k * 7+7))∧w.grownBy w' (some g)∧w'.heap.size=w.heap.size:=by
 have hl:=h.len;obtain⟨-,-,hnc,hcm,hrow⟩:=h.row;obtain⟨news,hnews⟩:∃news,news=vs.drop ((k+1) * 7):=⟨_,rfl⟩;have hnl:news.length=(n - (k+1)) * 7:=by rw[hnews,List.length_drop,hl];omega
 obtain⟨A,hA,hsrc⟩:∃A:Addr,(if cap=k+1 then some (⟨g,0,none⟩:Addr)else some ⟨g,(k+1) * 7,none⟩)=some A∧Hid (∀t u,news[t]? =some u→w.drew.cell? (A.add t)=some u):=by
  by_cases hc:cap=k+1
  ·refine⟨⟨g,0,none⟩,by simp[hc],fun t u hu=> ?_⟩;have h0:news.length=0:=by rw[hnl];omega
   rw[List.length_eq_zero_iff.1 h0]at hu;simp at hu
  ·refine⟨⟨g,(k+1) * 7,none⟩,by simp[hc],fun t u hu=> ?_⟩;have ht:t < news.length:=(List.getElem?_eq_some_iff.1 hu).1;have hj:(k+1) * 7+t < vs.length:=by rw[hl];rw[hnl]at ht;omega
   have hcc:=hrow.cell0 ((k+1) * 7+t) hj;rw[hnews,List.getElem?_drop,Y1 hj]at hu;rw[add_lit];exact hcc.trans hu
 have s1:Hid (news.length=(n - (k+1)) * 7):=hnl;have s2:Hid (∀u∈news,u.oneCell'=true):=by rw[hnews];exact fun u hu=>h1 u (List.mem_of_mem_drop hu)
 have s3:Hid (∀t,t < news.length→(w.drew.cell? ⟨g,0+k * 7+t,none⟩).isSome=true∧w.drew.frozen? ⟨g,0+k * 7+t,none⟩=false):=by
  intro t ht;rw[hnl]at ht;have hj:k * 7+t < vs.length:=by rw[hl];omega
  rw[Nat.zero_add];refine⟨?_,hrow.frozen0 _ hj⟩;have:=hrow.cell0 _ hj;exact(congrArg Option.isSome this).trans rfl
 obtain⟨W1,hW1⟩:∃W1,W1=w.drew.setCells g (0+k * 7) news:=⟨_,rfl⟩;have hO1:ak W1 B 28 7 (some ⟨g,0,none⟩) n cap (vs.take (k * 7)++news++vs.drop (k * 7+news.length)):=by
  rw[hW1,Nat.zero_add];exact ak.setCells news (k * 7) w.drew vs h.drew (by rw[hnl,hl];omega)
 have hr1:ae W1 g 0 28 (vs.take (k * 7)++news++vs.drop (k * 7+news.length)):=hO1.row.2.2.2.2;have hl1:(vs.take (k * 7)++news++vs.drop (k * 7+news.length)).length=n * 7:=hO1.len;have hcl:∀ty,(Builtin.clear_ #[26] ty #[.slice (some ⟨g,(n - 1) * 7,none⟩) 1 (cap - (n - 1))]).run Tryz.prog W1= .ok (.tuple #[]) (W1.setCells g ((n - 1) * 7) [.string ⟨#[]⟩,.int .i64 0,.int .i64 0,.int .i64 0,.int .i64 0,.string ⟨#[]⟩,.slice none 0 0]):=
  fun ty=>oY W1 _ _ ty _ Tryz.underlying26 Gy _ rB (by simp[Value.oneCell']) g ((n - 1) * 7) _ (fun t ht=>by
   have hj:(n - 1) * 7+t < (vs.take (k * 7)++news++vs.drop (k * 7+news.length)).length:=by rw[hl1];simp only[Z6,Y3]at ht;omega
   exact(congrArg Option.isSome (hr1.cell0 _ hj)).trans rfl) (fun t ht=>by
   have hj:(n - 1) * 7+t < (vs.take (k * 7)++news++vs.drop (k * 7+news.length)).length:=by rw[hl1];simp only[Z6,Y3]at ht;omega
   exact hr1.frozen0 _ hj)
 have e1:k+(n - (k+1))=n - 1:=by omega
 have e2:n - (k+(n - (k+1)))=1:=by omega
 have hcl2:∀ty,(Builtin.clear_ #[26] ty #[.slice (some ⟨g,(k+(n - (k+1))) * 7,none⟩) (n - (k+(n - (k+1)))) (cap - (k+(n - (k+1))))]).run Tryz.prog W1= .ok (.tuple #[]) (W1.setCells g ((n - 1) * 7) [.string ⟨#[]⟩,.int .i64 0,.int .i64 0,.int .i64 0,.int .i64 0,.string ⟨#[]⟩,.slice none 0 0]):=by
  rw[e2,e1];exact hcl
 have E1:=hid e1;clear hcl e1 e2;have HO1:=hid hO1;have HW1:=hid hW1;have HNE:=hid hnews;have HL:=hid hl;have hkc:k≤cap:=by omega
 have hkc2:k+1≤cap:=by omega
 have hkn2:k+1≤n:=by omega
 have q2:(0:Int)≤(k:Int)+1:=by omega
 have q3:(k:Int)+1≤(n:Int):=by omega
 have q1:decide ((k:Int)=(k:Int)+1)=false:=Y9 (by omega);clear hO1 hr1 hl1 hW1 hnews h hrow h1 hnl hl;go_enter Tryz.func45,Tryz.ntmps45;go_wp2_with fail;obtain⟨i0,hi0,-,hz1,-⟩:=info_parts de;have U26:=Tryz.underlying26;go_region_law (refine step_append_room rfl (.tmp 22) (.tmp 25) 26 rfl 28 i0 7 U26 hi0 hz1 g 0 k cap (by simp[Act.eval,Act.put]) A (n - (k+1)) (cap - (k+1)) news (by simp[Act.eval,Act.put,hA]) s1.out hsrc.out s2.out (by omega) s3.out ?_;rw[← HW1.out]);go_wp2_with fail;go_ret;rw[E1.out];refine⟨rfl,?_,?_,?_⟩
 ·have h2:=ak.setCells [.string ⟨#[]⟩,.int .i64 0,.int .i64 0,.int .i64 0,.int .i64 0,.string ⟨#[]⟩,.slice none 0 0] ((n - 1) * 7) W1 _ HO1.out (by rw[HO1.out.len];simp only[Z6,Y3];omega);have h3:=h2.Kw (m:=n - 1) (by omega);have hl7:(vs.take (k * 7)).length=k * 7:=by rw[List.length_take,HL.out];omega
  have e4:∀(X Y Z:List Value) (j:Nat),j≤X.length→(X.take j++Y++Z).take j=X.take j:=fun X Y Z j hj=>by
   rw[List.append_assoc,List.take_append_of_le_length (by rw[List.length_take];omega),List.take_take,Nat.min_self]
  rw[e4 _ _ _ _ (by rw[HO1.out.len];omega)]at h3;have e5:(vs.take (k * 7)++news++vs.drop (k * 7+news.length)).take ((n - 1) * 7)=vs.take (k * 7)++news:=by
   rw[List.take_append_of_le_length (by rw[Z7,hl7,s1.out];omega),List.take_of_length_le (by rw[Z7,hl7,s1.out];omega)]
  rw[e5,HNE.out,show(k+1) * 7=k * 7+7 by omega]at h3;exact h3
 ·rw[HW1.out];exact(fY (dS w _)).trans ((dm g news _ w.drew).trans (dm g _ _ _))
 ·rw[lf,HW1.out,lf];rfl
theorem kJ{P:Program}(w:World)(dT sT ty elem:TypeId)(b o dLen dCap:Nat)(a:Addr)(sLen sCap size m:Nat)(cs:List Value)
  (hu:P.underlying dT=some (.slice elem))(hs:(P.info? elem).map (·.size)=some size)(hm:Nat.min sLen dLen=m)(hn:cs.length=m * size)
  (hsrc:∀j v,cs[j]? =some v→w.cell? (a.add j)=some v)(hc:∀j,j < cs.length→(w.cell? ⟨b,o+j,none⟩).isSome=true)(hf:∀j,j < cs.length→w.frozen? ⟨b,o+j,none⟩=false)(h1:∀v∈cs,v.oneCell'=true):
  (Builtin.copy_ #[dT,sT] ty #[.slice (some ⟨b,o,none⟩) dLen dCap,.slice (some a) sLen sCap]).run P w= .ok (goInt m) (w.setCells b o cs):=by
 have hl:=run_loadCells_list (P:=P) w a cs hsrc;have hst:=run_storeCells_cells (P:=P) b o cs 0 w (by simpa using hc) (by simpa using hf) h1;cases hq:P.info? elem with
 |none=>simp[hq]at hs
 |some i=>
  have hi:i.size=size:=by simpa[hq]using hs
  simp[Builtin.copy_,run_underlying hu,Builtin.lenOf,Builtin.firstCells,sizeOf,typeInfo,hq,hi,hm,← hn,hl,hst]
theorem jn{P:Program}(w:World)(t tn ty e:TypeId)(i:TypeInfo)(z:Value)(k kn:IntKind)(ht:P.underlying t=some (.slice e))(htn:P.underlying tn=some (.int kn))(hi:P.info? e=some i)(hz:i.zero=some z)
  (a:Addr)(n cap m:Nat)(olds:List Value)(h0:0 < m)(hs:0 < i.size)(hroom:cap < n+m)(h63:n+m≤1000000000)(hcap:cap≤1000000000)(hby:i.bytes≤1000)(hol:olds.length=n * i.size)(hld:∀j v,olds[j]? =some v→w.cell? (a.add j)=some v):
  (Builtin.append_ #[t,tn] ty #[.slice (some a) n cap,.int k m]).run P w=
   .ok (.slice (some ⟨w.heap.size,0,none⟩) (n+m) (grownCap w (n+m) cap e)) (w.drew.alloc (.cells (olds.toArray++Builtin.zeroCells z.cells m++Builtin.zeroCells z.cells (grownCap w (n+m) cap e - (n+m))) e)):=by
 have hn:¬(n+m≤cap):=by omega
 have hw:IntKind.i64.wrap (m:Int)=m:=by rw[IntKind.wrap_i64];omega
 have hneg:¬((m:Int) < 0):=by omega
 have hns:¬(m * i.size=0):=Nat.mul_ne_zero (by omega) (by omega);have h63':¬(9223372036854775807 < ((n:Int)+(m:Int))):=by omega
 have hb1:(n+m) * i.bytes≤1000000000 * 1000:=Nat.mul_le_mul h63 hby;have hb2:m * i.bytes≤1000000000 * 1000:=Nat.mul_le_mul (by omega) hby;have hfit:=growslice_fits (need:=n+m) (old:=cap) (bytes:=i.bytes) hroom (by omega);have h48':¬(281474976710656 < Builtin.nextslicecap (n+m) cap * i.bytes):=by omega
 have h48i:¬(281474976710656 < (m:Int) * (i.bytes:Int)):=by
  rw[← Int.natCast_mul];omega
 have hfo:=run_firstCells_some (P:=P) w.drew i.size n a n cap olds hol (by simpa using hld);simp[Builtin.append_,run_underlying ht,run_underlying htn,sizeOf,typeInfo,zeroValue,asInt,asIntOf,hw,hneg,hi,hz,hn,hns,h63',h48',h48i,Question.forced,hfo,newRow,grownCap]
theorem mZ{P:Program}(w:World){ops:Array Oper}{rest:List Oper}{o:Oper}{a:Act}{Q:Exit→Act→World→Prop}(hgd:o.guard=none)(d s:Operand)(t t':TypeId)
  (ho:o.op= .call {callee:= .builtin .copy,args:= #[d,s],argTypes:= #[t,t']})(v u:Value)(hd:a.eval d=v)(hs:a.eval s=u){v':Value}{w':World}
  (hr:(Builtin.copy_ #[t,t'] o.type #[v,u]).run P w= .ok v' w')(h:wpList P ops Q rest (a.put o.dst v') w'):wpList P ops Q (o::rest) a w:=
 wpList_plain hgd fun K hK=>by
  unfold Oper.wp execOp;simp only[ho,resolve,invoke,builtin,Sem.run_bind,Sem.run_pure,Result.andThen_ok,List.map_toArray,List.map_cons,List.map_nil,hd,hs,hr];exact hK _ _ h
theorem rC{P:Program}{ops:Array Oper}{o:Oper}{a:Act}{w:World}{K:Act→World→Prop}{Q:Exit→Act→World→Prop}{E:Prop}
  (hg:o.guard=none)(d x:Operand)(dT sT:TypeId)(hop:o.op=Op.call {callee:=Callee.builtin Builtin.copy,args:= #[d,x],argTypes:= #[dT,sT]})
  (v u:Value)(hd:a.eval d=v)(hx:a.eval x=u){v':Value}{w':World}(hr:(Builtin.copy_ #[dT,sT] o.type #[v,u]).run P w= .ok v' w')(hK:K (a.put o.dst v') w'):
  if Region.wanted o (yielded ops a.tmps)=true then Oper.wp P o a w K Q else E:=by
 rw[if_pos (by simp[Region.wanted,hg])];unfold Oper.wp;simp[execOp,hop,resolve,invoke,builtin,hd,hx,hr,Result.andThen];exact hK
theorem ak.more{w:World}{B n cap m size:Nat}{e:TypeId}{g:Nat}{xs:List Value}(h:ak w B e size (some ⟨g,0,none⟩) n cap xs)(hm:n≤m)(hc:m≤cap):∃ys,ak w B e size (some ⟨g,0,none⟩) m cap ys∧ys.take (n * size)=xs:=by
 obtain⟨h1,h2⟩:=h;rcases h2 with⟨h3,_⟩|⟨g',cp,cur,h3,h4,h5,h6,h7,h8,h9⟩
 ·cases h3
 ·cases h3;have hle:n * size≤m * size:=Nat.mul_le_mul_right _ hm;have hle2:m * size≤cap * size:=Nat.mul_le_mul_right _ hc;refine⟨cur.toList.take (m * size),ak.nA (by rw[List.length_take,Array.length_toList];omega) w g cur h4 h5 h8 hc h7 rfl,?_⟩;rw[List.take_take,← h9]
  congr 1
  omega
theorem nf{P:Program}(w:World){ops:Array Oper}{rest:List Oper}{o:Oper}{act:Act}{Q:Exit→Act→World→Prop}(hgd:o.guard=none)(s x:Operand)(t:TypeId)
  (ho:o.op= .call {callee:= .builtin .append,args:= #[s,x],argTypes:= #[t,t]})
  (B:Nat)(e:TypeId)(z:Value)(size bytes:Nat)(ht:P.underlying t=some (.slice e))(hinf:(P.info? e).map (fun i=>(i.zero,i.size,i.bytes))=some (some z,size,bytes))(hzs:z.cells.size=size)(hsz:0 < size)
  (a:Option Addr)(n cap:Nat)(xs:List Value)(hs:act.eval s= .slice a n cap)(hown:ak w B e size a n cap xs)
  (g m c:Nat)(hm:0 < m)(news:List Value)(hl:news.length=m * size)(h1:∀u∈news,u.oneCell'=true)(hx:act.eval x= .slice (some ⟨g,0,none⟩) m c)(hrow:ae w g 0 e news)
  (h63:n+m≤maxLen)(hbytes:(n+m) * bytes≤140737488355328)(hbase:B≤w.heap.size)
  (h:∀a' cap' w',ak w' B e size a' (n+m) cap' (xs++news)→w.grownBy w' (blk a)→(∀x,a'=some x→a=some x∨w.heap.size≤x.block)→(∃g,a'=some ⟨g,0,none⟩)→wpList P ops Q rest (act.put o.dst (.slice a' (n+m) cap')) w'):
  wpList P ops Q (o::rest) act w:=by
 refine wpList_plain hgd fun K hK=> ?_
 have h2:=gw (ops:=ops) (K:=K) (Q:=Q) (E:=True) w hgd s x t ho B e z size bytes ht hinf hzs hsz a n cap xs hs hown g m c hm news hl h1 hx hrow h63 hbytes hbase (fun a' cap' w' k1 k2 k3 k4=>hK _ _ (h a' cap' w' k1 k2 k3 k4));rw[if_pos (by simp[Region.wanted,hgd])]at h2;exact h2
def ie(w:World)(B g n i:Nat)(vs news:List Value)(e:Ending)(w':World):Prop:=∃g' cap',e= .returned (.slice (some ⟨g',0,none⟩) (n+1) cap')∧ak w' B 28 7 (some ⟨g',0,none⟩) (n+1) cap' (vs.take (i * 7)++news++vs.drop (i * 7))∧w.grownBy w' (some g)∧(g'=g∨w.heap.size≤g')
theorem yn(w:World)(B g n cap vb:Nat)(vs news:List Value)(h:ak w B 28 7 (some ⟨g,0,none⟩) n cap vs)(hB:B≤w.heap.size)(hn:n≤10000000)(hv:ae w vb 0 28 news)(hnl:news.length=1 * 7)(hn1:∀u∈news,u.oneCell'=true):
  Calls Tryz.prog 42 #[.slice (some ⟨g,0,none⟩) n cap,.int .i64 n,.slice (some ⟨vb,0,none⟩) 1 1] w (ie w B g n n vs news):=by
 have hl:=h.len;obtain⟨-,-,hnc,hcm,-⟩:=h.row;have U26:=Tryz.underlying26
 by_cases hc:cap=n
 ·subst hc;obtain⟨n,rfl⟩:∃n',n'=cap:=⟨_,rfl⟩;have HH:=hid h;have HV:=hid hv;have HL:=hid hl;clear h hv hl;unfold ie;go_enter Tryz.func42,Tryz.ntmps42;go_wp2_with (at_builtin;refine nf _ rfl _ _ 26 rfl B 28 (.agg #[.string ByteArray.empty,.int .i64 0,.int .i64 0,.int .i64 0,.int .i64 0,.string ByteArray.empty,.slice none 0 0]) 7 88 U26 de rfl (by decide) (some ⟨g,0,none⟩) n _ _ rfl HH.out vb 1 1 (by decide) news hnl hn1 rfl HV.out (by simp[maxLen];omega) (by omega) hB ?_;intro a' cap' w' h1 h2 h3 h4);obtain⟨g',rfl⟩:=h4;have h5:g'=g∨w.heap.size≤g':=by
   rcases h3 _ rfl with h|h
   ·injection h with h;injection h with h;exact .inl h.symm
   ·exact .inr h
  have H1:=hid h1;have H2:=hid h2;have H5:=hid h5;clear h1 h2 h3 h5;go_wp2_with fail;go_ret;refine⟨_,_,rfl,?_,H2.out,H5.out⟩;rw[List.take_of_length_le (Nat.le_of_eq HL.out),List.drop_of_length_le (Nat.le_of_eq HL.out),List.append_nil];exact H1.out
 ·have HH:=hid h;have HV:=hid hv;have HL:=hid hl;clear h hv hl;unfold ie;go_enter Tryz.func42,Tryz.ntmps42;go_wp2_with (at_builtin;refine nf _ rfl _ _ 26 rfl B 28 (.agg #[.string ByteArray.empty,.int .i64 0,.int .i64 0,.int .i64 0,.int .i64 0,.string ByteArray.empty,.slice none 0 0]) 7 88 U26 de rfl (by decide) (some ⟨g,0,none⟩) n _ _ rfl HH.out vb 1 1 (by decide) news hnl hn1 rfl HV.out (by simp[maxLen];omega) (by omega) hB ?_;intro a' cap' w' h1 h2 h3 h4);obtain⟨g',rfl⟩:=h4;have h5:g'=g∨w.heap.size≤g':=by
   rcases h3 _ rfl with h|h
   ·injection h with h;injection h with h;exact .inl h.symm
   ·exact .inr h
  have H1:=hid h1;have H2:=hid h2;have H5:=hid h5;clear h1 h2 h3 h5;go_wp2_with fail;go_ret;refine⟨_,_,rfl,?_,H2.out,H5.out⟩;rw[List.take_of_length_le (Nat.le_of_eq HL.out),List.drop_of_length_le (Nat.le_of_eq HL.out),List.append_nil];exact H1.out
theorem tQ{w:World}{b:Nat}{c:Array Value}{e:TypeId}{fz:Nat×Nat}(h:w.heap[b]? =some (.cells c e fz)):w.shape? b=some (e,c.size):=by unfold World.shape?;rw[h]
theorem ak.heap{w:World}{B n cap size:Nat}{e:TypeId}{g:Nat}{xs:List Value}(h:ak w B e size (some ⟨g,0,none⟩) n cap xs):∃cur,w.heap[g]? =some (.cells cur e (0,0))∧cur.size=cap * size:=by
 rcases h.2 with⟨h3,_⟩|⟨g',cp,cur,h3,h4,h5,h6,h7,h8,h9⟩
 ·cases h3
 ·cases h3;exact⟨cur,h5,h8⟩
theorem rD{w:World}{b o:Nat}{c:Array Value}{e:TypeId}(h:w.heap[b]? =some (.cells c e (0,0))):w.frozen? ⟨b,o,none⟩=false:=by simp[World.frozen?,h]
theorem DX(X vs news:List Value)(i n:Nat)(hi:i < n)(hX:X.length=(n+1) * 7)(hv:X.take (n * 7)=vs)(hn:news.length=7):
  (let Y:=X.take ((i+1) * 7)++vs.drop (i * 7)++X.drop ((i+1) * 7+(vs.drop (i * 7)).length);Y.take (i * 7)++news++Y.drop (i * 7+news.length))=vs.take (i * 7)++news++vs.drop (i * 7):=by
 have hvl:vs.length=n * 7:=by rw[← hv,List.length_take,hX];omega
 have hdl:(vs.drop (i * 7)).length=(n - i) * 7:=by rw[List.length_drop,hvl];omega
 have h1:X.drop ((i+1) * 7+(vs.drop (i * 7)).length)=[]:=List.drop_of_length_le (by rw[hdl,hX];omega);have h2:(X.take ((i+1) * 7)).length=(i+1) * 7:=by rw[List.length_take,hX];omega
 have h3:(X.take ((i+1) * 7)++vs.drop (i * 7)).take (i * 7)=vs.take (i * 7):=by
  rw[List.take_append_of_le_length (by rw[h2];omega),List.take_take,← hv,List.take_take]
  congr 1
  omega
 have h4:(X.take ((i+1) * 7)++vs.drop (i * 7)).drop (i * 7+news.length)=vs.drop (i * 7):=by
  rw[hn,show i * 7+7=(X.take ((i+1) * 7)).length by rw[h2];omega,List.drop_left]
 simp only[];rw[h1,List.append_nil,h3,h4]
theorem su(w:World)(B g n cap i vb:Nat)(vs news:List Value)(h:ak w B 28 7 (some ⟨g,0,none⟩) n cap vs)(hi:i < n)(hc:n+1≤cap)(hn:n≤10000000)(hv:w.heap[vb]? =some (.cells news.toArray 28 (0,0)))(hvg:vb≠g)(hnl:news.length=7)(hn1:∀u∈news,u.oneCell'=true)(h1:∀u∈vs,u.oneCell'=true):
  Calls Tryz.prog 42 #[.slice (some ⟨g,0,none⟩) n cap,.int .i64 i,.slice (some ⟨vb,0,none⟩) 1 1] w (ie w B g n i vs news):=by
 have hl:=h.len;obtain⟨-,-,hnc,hcm,-⟩:=h.row;have U26:=Tryz.underlying26;have hsz:(Tryz.prog.info? 28).map (·.size)=some 7:=by kernel_rfl
 obtain⟨cur,hcur,hcs⟩:=h.heap;obtain⟨X,hX,hXv⟩:=h.more (m:=n+1) (by omega) hc;have hXl:=hX.len;have hXr:ae w g 0 28 X:=hX.row.2.2.2.2;have hov:∀lb cb,(callFunc 74 #[.slice (some ⟨vb,0,none⟩) 1 1,.slice (some ⟨g,(i+1) * 7,none⟩) lb cb]).run Tryz.prog w= .ok (.value (.bool false)) w:=fun lb cb=>by
  rw[run_callFunc_extern Tryz.func74 (by kernel_rfl) (by kernel_rfl) (by kernel_rfl) (e:=Extern.SlicesOverlaps.overlaps #[26,26] #[4]) (by kernel_rfl),
   Lib.run_overlaps_apart w 26 4 28 U26 7 (fun w=>by kernel_rfl) ⟨vb,0,none⟩ ⟨g,(i+1) * 7,none⟩ 1 1 lb cb hvg 28 28 _ _ (tQ hv) (tQ hcur) (by rw[hcs];omega) (rD hv) (rD hv)]
  rfl
 obtain⟨tl,htl⟩:∃tl,tl=vs.drop (i * 7):=⟨_,rfl⟩;have htll:tl.length=(n - i) * 7:=by rw[htl,List.length_drop,hl];omega
 have ht1:∀v∈tl,v.oneCell'=true:=by rw[htl];exact fun v hv=>h1 v (List.mem_of_mem_drop hv)
 have htX:∀j v,tl[j]? =some v→w.cell? ⟨g,i * 7+j,none⟩=some v:=fun j v hj=>by
  have hjl:j < tl.length:=(List.getElem?_eq_some_iff.1 hj).1;have hlt:i * 7+j < X.length:=by rw[hXl];omega
  rw[htl,List.getElem?_drop,← hXv,List.getElem?_take,if_pos (by omega),Y1 hlt]at hj;exact(hXr.cell0 _ hlt).trans hj
 have hcp1:∀ty dc sc,(Builtin.copy_ #[26,26] ty #[.slice (some ⟨g,(i+1) * 7,none⟩) (n - i) dc,.slice (some ⟨g,i * 7,none⟩) (n+1 - i) sc]).run Tryz.prog w.drew= .ok (goInt ((n - i:Nat):Int)) (w.drew.setCells g ((i+1) * 7) tl):=fun ty dc sc=>
  kJ w.drew _ _ ty 28 g ((i+1) * 7) (n - i) dc ⟨g,i * 7,none⟩ (n+1 - i) sc 7 (n - i) tl U26 hsz (by simp only[Nat.min_def];split <;> omega) htll
   (fun j v hj=>by rw[add_lit];exact htX j v hj)
   (fun j hj=>(congrArg Option.isSome (hXr.cell0 ((i+1) * 7+j) (by rw[hXl];omega))).trans rfl) (fun j hj=>hXr.frozen0 _ (by rw[hXl];omega)) ht1
 obtain⟨W1,hW1⟩:∃W1,W1=w.drew.setCells g ((i+1) * 7) tl:=⟨_,rfl⟩;have hO1:ak W1 B 28 7 (some ⟨g,0,none⟩) (n+1) cap (X.take ((i+1) * 7)++tl++X.drop ((i+1) * 7+tl.length)):=by
  rw[hW1];exact ak.setCells tl ((i+1) * 7) w.drew X hX.drew (by rw[htll,hXl];omega)
 have hv1:W1.heap[vb]? =some (.cells news.toArray 28 (0,0)):=by rw[hW1];exact(ei hvg _ _ _).trans hv
 have hcp2:∀ty dc,(Builtin.copy_ #[26,26] ty #[.slice (some ⟨g,i * 7,none⟩) (n+1 - i) dc,.slice (some ⟨vb,0,none⟩) 1 1]).run Tryz.prog W1= .ok (goInt ((1:Nat):Int)) (W1.setCells g (i * 7) news):=fun ty dc=>
  kJ W1 _ _ ty 28 g (i * 7) (n+1 - i) dc ⟨vb,0,none⟩ 1 1 7 1 news U26 hsz (by simp only[Nat.min_def];split <;> omega) (by rw[hnl])
   (fun j v hj=>by
    rw[add_lit,Nat.zero_add];simp[World.cell?,hv1,hj])
   (fun j hj=>(congrArg Option.isSome (hO1.row.2.2.2.2.cell0 (i * 7+j) (by rw[hO1.len];omega))).trans rfl) (fun j hj=>hO1.row.2.2.2.2.frozen0 _ (by rw[hO1.len];omega)) hn1
 rw[← hW1]at hcp1;have HO1:=hid hO1;have HW1:=hid hW1;have HXL:=hid hXl;have HXV:=hid hXv;have HTL:=hid htl;have HNL:=hid hnl;have b1:¬cap=i:=by omega
 have b2:¬cap=i+1:=by omega
 have b3:decide ((i:Int)=(n:Int))=false:=Y9 (by omega);have b4:¬(i=n):=by omega
 have hw1:IntKind.i64.wrap ((i:Int)+1)=(i:Int)+1:=by rw[IntKind.wrap_i64];omega
 have hw2:IntKind.i64.wrap ((n:Int)+1)=(n:Int)+1:=by rw[IntKind.wrap_i64];omega
 have b5:(0:Int)≤(i:Int)+1:=by omega
 have b6:(i:Int)≤(n:Int)+1:=by omega
 have b7:(0:Int)≤(n:Int)+1:=by omega
 have b8:¬((cap:Int) < (n:Int)+1):=by omega
 have b9:(i:Int)+1≤(n:Int)+1:=by omega
 clear hO1 hv1 hW1 htX htll htl hXr hXl hXv hX hcur hcs h hv h1 hl ht1;unfold ie;go_enter Tryz.func42,Tryz.ntmps42;go_wp2_with (simp only[hov]);go_region_law (refine rC rfl _ _ 26 26 rfl _ _ (by simp[Act.eval,Act.put]) (by simp[Act.eval,Act.put]) (hcp1 _ _ _) ?_);go_wp2_with (at_builtin;refine mZ _ rfl _ _ 26 26 rfl _ _ rfl rfl (hcp2 _ _) ?_);go_ret;refine⟨g,cap,rfl,?_,?_,.inl rfl⟩
 ·have h2:=ak.setCells news (i * 7) W1 _ HO1.out (by rw[HO1.out.len,HNL.out];omega);have h3:=DX X vs news i n hi HXL.out HXV.out HNL.out;simp only[]at h3;rw[HTL.out]at h2;rw[← h3];exact h2
 ·rw[HW1.out];exact(fY (dS w _)).trans ((dm g tl _ w.drew).trans (dm g _ _ _))
theorem ak.cells{w:World}{B n cap size g:Nat}{e:TypeId}{xs:List Value}(h:ak w B e size (some ⟨g,0,none⟩) n cap xs):∀j v,xs[j]? =some v→w.cell? ⟨g,j,none⟩=some v:=fun j v hj=>by
 have hjl:j < xs.length:=(List.getElem?_eq_some_iff.1 hj).1;rw[Y1 hjl]at hj;exact(h.row.2.2.2.2.cell0 j hjl).trans hj
theorem As(vs news Z:List Value)(i n:Nat)(hi:i < n)(hvl:vs.length=n * 7)(hZ:Z.length=(n+1 - i) * 7)(hn:news.length=7):
  (let Y:=(vs.take (i * 7)++Z).take (i * 7)++news++(vs.take (i * 7)++Z).drop (i * 7+news.length);Y.take ((i+1) * 7)++vs.drop (i * 7)++Y.drop ((i+1) * 7+(vs.drop (i * 7)).length))=vs.take (i * 7)++news++vs.drop (i * 7):=by
 have h2:(vs.take (i * 7)).length=i * 7:=by rw[List.length_take,hvl];omega
 have hdl:(vs.drop (i * 7)).length=(n - i) * 7:=by rw[List.length_drop,hvl];omega
 have h3:(vs.take (i * 7)++Z).take (i * 7)=vs.take (i * 7):=by rw[List.take_append_of_le_length (by rw[h2];omega),List.take_of_length_le (by rw[h2];omega)]
 have h4:(vs.take (i * 7)++news).length=(i+1) * 7:=by rw[Z7,h2,hn];omega
 have h5:∀Y:List Value,Y=vs.take (i * 7)++news++(vs.take (i * 7)++Z).drop (i * 7+news.length)→Y.take ((i+1) * 7)++vs.drop (i * 7)++Y.drop ((i+1) * 7+(vs.drop (i * 7)).length)=vs.take (i * 7)++news++vs.drop (i * 7):=fun Y hY=>by
  have hYl:Y.length=(n+1) * 7:=by rw[hY,Z7,h4,List.length_drop,Z7,h2,hZ,hn];omega
  have h6:Y.take ((i+1) * 7)=vs.take (i * 7)++news:=by rw[hY,List.take_append_of_le_length (by rw[h4];omega),List.take_of_length_le (by rw[h4];omega)]
  rw[h6,List.drop_of_length_le (l:=Y) (by rw[hYl,hdl];omega),List.append_nil]
 exact h5 _ (by rw[h3])
theorem vr(w:World)(B g n cap i vb:Nat)(vs news:List Value)(h:ak w B 28 7 (some ⟨g,0,none⟩) n cap vs)(hB:B≤w.heap.size)(hi:i < n)(hc:cap < n+1)(hn:n≤10000000)(hv:w.heap[vb]? =some (.cells news.toArray 28 (0,0)))(hnl:news.length=7)(hn1:∀u∈news,u.oneCell'=true)(h1:∀u∈vs,u.oneCell'=true):
  Calls Tryz.prog 42 #[.slice (some ⟨g,0,none⟩) n cap,.int .i64 i,.slice (some ⟨vb,0,none⟩) 1 1] w (ie w B g n i vs news):=by
 have hl:=h.len;obtain⟨-,-,hnc,hcm,-⟩:=h.row;have U26:=Tryz.underlying26;have UI:=Tryz.underlying3;have hsz:(Tryz.prog.info? 28).map (·.size)=some 7:=by kernel_rfl
 obtain⟨i0,hi0,hz0,hz1,hz2⟩:=info_parts de;have hvlt:vb < w.heap.size:=by
  rcases Nat.lt_or_ge vb w.heap.size with h|h
  ·exact h
  ·rw[Array.getElem?_eq_none h]at hv;cases hv
 have hgl:=h.lt;obtain⟨Z,hZ⟩:∃Z,Z=(Builtin.zeroCells (Value.agg #[.string ByteArray.empty,.int .i64 0,.int .i64 0,.int .i64 0,.int .i64 0,.string ByteArray.empty,.slice none 0 0]).cells (n+1 - i)).toList:=⟨_,rfl⟩;have hzl:Z.length=(n+1 - i) * 7:=by rw[hZ,Array.length_toList,size_zeroCells];rfl
 obtain⟨G,hG⟩:∃G,G=grownCap w (i+(n+1 - i)) cap 28:=⟨_,rfl⟩;have hol:(vs.take (i * 7)).length=i * i0.size:=by rw[hz1,List.length_take,hl];omega
 have hap:∀ty,(Builtin.append_ #[26,3] ty #[.slice (some ⟨g,0,none⟩) i cap,.int .i64 ((n+1 - i:Nat):Int)]).run Tryz.prog w=
   .ok (.slice (some ⟨w.heap.size,0,none⟩) (i+(n+1 - i)) G) (w.drew.alloc (.cells ((vs.take (i * 7)).toArray++Builtin.zeroCells (Value.agg #[.string ByteArray.empty,.int .i64 0,.int .i64 0,.int .i64 0,.int .i64 0,.string ByteArray.empty,.slice none 0 0]).cells (n+1 - i)++Builtin.zeroCells (Value.agg #[.string ByteArray.empty,.int .i64 0,.int .i64 0,.int .i64 0,.int .i64 0,.string ByteArray.empty,.slice none 0 0]).cells (G - (i+(n+1 - i)))) 28)):=fun ty=>by
  rw[hG];exact jn w _ _ ty 28 i0 _ .i64 .i64 U26 UI hi0 hz0 ⟨g,0,none⟩ i cap (n+1 - i) (vs.take (i * 7)) (by omega) (by rw[hz1];decide) (by omega) (by omega) (by omega) (by rw[hz2];decide) hol (fun j v hj=>by
   rw[add_lit,Nat.zero_add];have hjl:j < (vs.take (i * 7)).length:=(List.getElem?_eq_some_iff.1 hj).1;rw[List.length_take]at hjl;rw[List.getElem?_take,if_pos (by omega)]at hj;exact h.cells j v hj)
 obtain⟨W1,hW1⟩:∃W1,W1=w.drew.alloc (.cells ((vs.take (i * 7)).toArray++Builtin.zeroCells (Value.agg #[.string ByteArray.empty,.int .i64 0,.int .i64 0,.int .i64 0,.int .i64 0,.string ByteArray.empty,.slice none 0 0]).cells (n+1 - i)++Builtin.zeroCells (Value.agg #[.string ByteArray.empty,.int .i64 0,.int .i64 0,.int .i64 0,.int .i64 0,.string ByteArray.empty,.slice none 0 0]).cells (G - (i+(n+1 - i)))) 28):=⟨_,rfl⟩;have hge:i+(n+1 - i)≤G:=by rw[hG];exact grownCap_ge _ _ _ _
 have hgm:G≤maxLen:=by rw[hG];exact grownCap_le_maxLen _ _ _ _ (by simp only[maxLen];omega)
 have hO1:ak W1 B 28 7 (some ⟨w.heap.size,0,none⟩) (n+1) G (vs.take (i * 7)++Z):=by
  have hh:W1.heap[w.heap.size]? =some (.cells ((vs.take (i * 7)).toArray++Builtin.zeroCells (Value.agg #[.string ByteArray.empty,.int .i64 0,.int .i64 0,.int .i64 0,.int .i64 0,.string ByteArray.empty,.slice none 0 0]).cells (n+1 - i)++Builtin.zeroCells (Value.agg #[.string ByteArray.empty,.int .i64 0,.int .i64 0,.int .i64 0,.int .i64 0,.string ByteArray.empty,.slice none 0 0]).cells (G - (i+(n+1 - i)))) 28 (0,0)):=by rw[hW1];exact heap_alloc_new w.drew _
  have hL:(vs.take (i * 7)++Z).length=(n+1) * 7:=by rw[Z7,hzl,List.length_take,hl];omega
  refine ak.nA hL W1 w.heap.size _ hB hh ?_ (by omega) hgm ?_
  ·rw[Array.size_append,Array.size_append,size_zeroCells,size_zeroCells,List.size_toArray,List.length_take,hl];show min (i * 7) (n * 7)+(n+1 - i) * 7+(G - (i+(n+1 - i))) * 7=G * 7;omega
  ·rw[Array.toList_append,Array.toList_append,← hZ,List.take_append_of_le_length (by rw[show((vs.take (i * 7)).toArray.toList++Z).length=(n+1) * 7 from hL];omega),List.take_of_length_le (by rw[show((vs.take (i * 7)).toArray.toList++Z).length=(n+1) * 7 from hL];omega)]
 have hgr:w.grownBy W1 (some g):=by rw[hW1];exact vx (fY (dS w _)) _
 have hv1:W1.heap[vb]? =some (.cells news.toArray 28 (0,0)):=by rw[hW1];exact(heap_alloc_old w.drew _ hvlt).trans hv
 have hvne:vb≠w.heap.size:=by omega
 have hgne:g≠w.heap.size:=Nat.ne_of_lt hgl.2;have hg1:W1.heap[g]? =w.heap[g]? :=by rw[hW1];exact heap_alloc_old w.drew _ hgl.2
 have hcp1:∀ty dc,(Builtin.copy_ #[26,26] ty #[.slice (some ⟨w.heap.size,i * 7,none⟩) (n+1 - i) dc,.slice (some ⟨vb,0,none⟩) 1 1]).run Tryz.prog W1= .ok (goInt ((1:Nat):Int)) (W1.setCells w.heap.size (i * 7) news):=fun ty dc=>
  kJ W1 _ _ ty 28 w.heap.size (i * 7) (n+1 - i) dc ⟨vb,0,none⟩ 1 1 7 1 news U26 hsz (by simp only[Nat.min_def];split <;> omega) (by rw[hnl])
   (fun j v hj=>by
    rw[add_lit,Nat.zero_add];simp[World.cell?,hv1,hj])
   (fun j hj=>(congrArg Option.isSome (hO1.row.2.2.2.2.cell0 (i * 7+j) (by rw[hO1.len];omega))).trans rfl) (fun j hj=>hO1.row.2.2.2.2.frozen0 _ (by rw[hO1.len];omega)) hn1
 obtain⟨W2,hW2⟩:∃W2,W2=W1.setCells w.heap.size (i * 7) news:=⟨_,rfl⟩;have hO2:ak W2 B 28 7 (some ⟨w.heap.size,0,none⟩) (n+1) G ((vs.take (i * 7)++Z).take (i * 7)++news++(vs.take (i * 7)++Z).drop (i * 7+news.length)):=by
  rw[hW2];exact ak.setCells news (i * 7) W1 _ hO1 (by rw[hO1.len,hnl];omega)
 have hg2:W2.heap[g]? =w.heap[g]? :=by rw[hW2];exact(ei hgne _ _ _).trans hg1
 obtain⟨tl,htl⟩:∃tl,tl=vs.drop (i * 7):=⟨_,rfl⟩;have htll:tl.length=(n - i) * 7:=by rw[htl,List.length_drop,hl];omega
 have ht1:∀v∈tl,v.oneCell'=true:=by rw[htl];exact fun v hv=>h1 v (List.mem_of_mem_drop hv)
 have htX:∀j v,tl[j]? =some v→W2.drew.cell? ⟨g,i * 7+j,none⟩=some v:=fun j v hj=>by
  rw[htl,List.getElem?_drop]at hj;have:=h.cells _ v hj;exact(World.cell?_of_block (w:=w) (w':=W2) (a:=⟨g,i * 7+j,none⟩) hg2).trans this
 have hcp2:∀ty dc sc,(Builtin.copy_ #[26,26] ty #[.slice (some ⟨w.heap.size,(i+1) * 7,none⟩) (i+(n+1 - i) - (i+1)) dc,.slice (some ⟨g,i * 7,none⟩) (n - i) sc]).run Tryz.prog W2.drew= .ok (goInt ((n - i:Nat):Int)) (W2.drew.setCells w.heap.size ((i+1) * 7) tl):=fun ty dc sc=>
  kJ W2.drew _ _ ty 28 w.heap.size ((i+1) * 7) (i+(n+1 - i) - (i+1)) dc ⟨g,i * 7,none⟩ (n - i) sc 7 (n - i) tl U26 hsz (by simp only[Nat.min_def];split <;> omega) htll
   (fun j v hj=>by rw[add_lit];exact htX j v hj)
   (fun j hj=>(congrArg Option.isSome (hO2.row.2.2.2.2.cell0 ((i+1) * 7+j) (by rw[hO2.len];omega))).trans rfl) (fun j hj=>hO2.row.2.2.2.2.frozen0 _ (by rw[hO2.len];omega)) ht1
 rw[← hW2]at hcp1;rw[← hW1]at hap;have HO2:=hid hO2;have HW2:=hid hW2;have HGR:=hid hgr;have HTL:=hid htl;have HNL:=hid hnl;have HL:=hid hl;have HZL:=hid hzl;have HGE:=hid hge;have b1:¬cap=i:=by omega
 have b3:decide ((i:Int)=(n:Int))=false:=Y9 (by omega);have b4:¬(i=n):=by omega
 have hw1:IntKind.i64.wrap ((i:Int)+1)=(i:Int)+1:=by rw[IntKind.wrap_i64];omega
 have hw2:IntKind.i64.wrap ((n:Int)+1)=(n:Int)+1:=by rw[IntKind.wrap_i64];omega
 have hw3:IntKind.i64.wrap ((n:Int)+1 - (i:Int))=((n+1 - i:Nat):Int):=by rw[IntKind.wrap_i64];omega
 have b5:(0:Int)≤(i:Int)+1:=by omega
 have b8:(cap:Int) < (n:Int)+1:=by omega
 have b9:¬G=i:=by omega
 have b13:i≤n:=by omega
 have b10:¬G=i+1:=by omega
 have b11:(i:Int)≤(i:Int)+((n+1 - i:Nat):Int):=by omega
 have b12:(i:Int)+1≤(i:Int)+((n+1 - i:Nat):Int):=by omega
 clear hO1 hO2 hv1 hW1 hW2 htX htll htl h hv h1 hl ht1 hG hgl hge hol hZ hzl hgr hg1 hg2;unfold ie;go_enter Tryz.func42,Tryz.ntmps42;go_wp2_with (at_builtin;first|refine Lib.wpList_append_run _ rfl _ _ _ _ rfl _ _ rfl rfl _ _ (hap _) ?_|refine mZ _ rfl _ _ 26 26 rfl _ _ rfl rfl (hcp1 _ _) ?_);go_region_law (refine rC rfl _ _ 26 26 rfl _ _ (by simp[Act.eval,Act.put]) (by simp[Act.eval,Act.put]) (hcp2 _ _ _) ?_);go_wp2_with fail;go_ret;refine⟨w.heap.size,G,?_,?_,?_,.inr (Z5 _)⟩
 ·rw[show i+(n+1 - i)=n+1 by omega];rfl
 ·have h2:=ak.setCells tl ((i+1) * 7) W2.drew _ HO2.out.drew (by rw[HO2.out.len,HTL.out,List.length_drop,HL.out];omega);have h3:=As vs news Z i n hi HL.out HZL.out HNL.out;simp only[]at h3;rw[HTL.out]at h2;rw[← h3,HTL.out];exact h2
 ·have h4:W1.grownBy W2 (some w.heap.size):=by rw[HW2.out];exact dm _ _ _ _
  have h5:W1.grownBy (W2.drew.setCells w.heap.size ((i+1) * 7) tl) (some w.heap.size):=(fY h4).trans (dm _ _ _ _);exact HGR.out.andThen h5 fun j hj=> .inl (by injection hj with hj;omega)
namespace Fx
theorem ng(d:Nd)(r:Nds):∀k1:Nds,dJ k1.len (k1.app (d.put r))=k1.app r
 | .nil=>rfl
 | .cons a b c e f g x k1=>congrArg (Nds.cons a b c e f g x) (ng d r k1)
theorem yo(d:Nd)(r:Nds):∀k1:Nds,dK k1.len (k1.app (d.put r))=k1.app (d.put (d.put r))
 | .nil=>rfl
 | .cons a b c e f g x k1=>congrArg (Nds.cons a b c e f g x) (yo d r k1)
theorem oz(G:Nds→Nds):∀(p:List Nat) (d y:Nd),bX p d=some y→y.kind=9→cN (fun _=>{y with kids:=G y.kids}) p d={d with kids:=bP G p d.kind d.kids}
 |[],d,y,h,hk=>by
  cases h;show({d with kids:=G d.kids}:Nd)={d with kids:=if d.kind=9 then G d.kids else d.kids};rw[if_pos hk]
 |k::p,d,y,h,hk=>by
  have h2:(nth k d.kids).bind (bX p)=some y:=h;obtain⟨z,h3,h4⟩:=Option.bind_eq_some_iff.1 h2;show({d with kids:=atN (cN (fun _=>{y with kids:=G y.kids}) p) k d.kids}:Nd)={d with kids:=eH k (bP G p) d.kids}
  congr 1
  have ih:=oz G p z y h4 hk;have:∀(j:Nat) (X:Nds),nth j X=some z→atN (cN (fun _=>{y with kids:=G y.kids}) p) j X=eH j (bP G p) X:=by
   intro j X
   induction j generalizing X with
   |zero=>
    cases X with
    |nil=>intro h;cases h
    |cons a b c e f' g x' r=>
     intro h;cases h;show(cN _ p _).put r=Nds.cons a b c e f' g (bP G p b x') r;rw[ih];rfl
   |succ j ihj=>
    cases X with
    |nil=>intro h;cases h
    |cons a b c e f' g x' r=>
     intro h;show Nds.cons a b c e f' g x' (atN _ j r)=Nds.cons a b c e f' g x' (eH j _ r);rw[ihj r h]
  exact this k d.kids h3
theorem rE:∀(k:Nat) (X:Nds) (z:Nd),nth k X=some z→z.tot≤X.tot
 |k,.nil,z,h=>by cases k <;> cases h
 |0,.cons a b c e f g x r,z,h=>by
  cases h;show Nd.tot ⟨a,b,c,e,f,g,x⟩≤Nd.tot ⟨a,b,c,e,f,g,x⟩+r.tot;omega
 |k+1,.cons a b c e f g x r,z,h=>by
  have:=rE k r z h;simp only[Nds.tot];omega
theorem jT:∀(p:List Nat) (d y:Nd),bX p d=some y→y.tot≤d.tot
 |[],d,y,h=>by cases h;exact Z5 _
 |k::p,d,y,h=>by
  have h2:(nth k d.kids).bind (bX p)=some y:=h;obtain⟨z,h3,h4⟩:=Option.bind_eq_some_iff.1 h2;have h5:=jT p z y h4;have h6:=rE k d.kids z h3;have h7:d.tot=d.text.length+8+d.kids.tot:=rfl;omega
theorem BK:∀(k:Nat) (X:Nds),(dK k X).tot≤X.tot+X.tot
 |k,.nil=>by cases k <;> exact Nat.zero_le _
 |0,.cons a b c e f g x r=>by simp only[dK,Nds.tot];omega
 |k+1,.cons a b c e f g x r=>by
  have:=BK k r;simp only[dK,Nds.tot];omega
theorem BL:∀(k:Nat) (X:Nds),(dJ k X).tot≤X.tot
 |k,.nil=>by cases k <;> exact Nat.zero_le _
 |0,.cons a b c e f g x r=>by simp only[dJ,Nds.tot];omega
 |k+1,.cons a b c e f g x r=>by
  have:=BL k r;simp only[dJ,Nds.tot];omega
theorem Gz:∀(k:Nat) (X:Nds),X.ok→(dK k X).ok
 |k,.nil,h=>by cases k <;> exact h
 |0,.cons a b c e f g x r,h=>⟨h.1,h.2.1,h⟩
 |k+1,.cons a b c e f g x r,h=>⟨h.1,h.2.1,Gz k r h.2.2⟩
theorem GA:∀(k:Nat) (X:Nds),X.ok→(dJ k X).ok
 |k,.nil,h=>by cases k <;> exact h
 |0,.cons a b c e f g x r,h=>h.2.2
 |k+1,.cons a b c e f g x r,h=>⟨h.1,h.2.1,GA k r h.2.2⟩
theorem GB{L:List Tm.Ty}{root:Tm.Wd}{n:Nd}(G:Nds→Nds)(hg:∀(f:Nd→Option Tm.Wd) X,(bc f X).isSome=true→(bc f (G X)).isSome=true)(p:List Nat)(hn:(wrT L root n).isSome=true):(wrT L root {n with kids:=bP G p 3 n.kids}).isSome=true:=by
 obtain⟨hX,m1,m2⟩:=cC hn;have w1:=mO hg L p root n.kids hX;unfold wrT aX;simp only[];rw[if_neg (by rw[not_or];exact⟨fun h=>h m1,fun h=>h m2⟩)];exact w1
end Fx
theorem aU.split{w:World}{B:Nat}{m:Nds}:∀(l:Nds) (bl:List Nat) (vs:List Value),aU w B (l.app m) bl vs→∃b1 b2 v1 v2,bl=b1++b2∧vs=v1++v2∧aU w B l b1 v1∧aU w B m b2 v2
 | .nil,bl,vs,e=>⟨[],bl,[],vs,rfl,rfl,⟨rfl,rfl⟩,e⟩
 | .cons nm kd a sz v tx ks r,bl,vs,e=>by
  obtain⟨ga,cap,bs,us,b1,b2,rfl,h1,h3,rfl,h5⟩:=e;obtain⟨c1,c2,v1,v2,rfl,rfl,h6,h7⟩:=aU.split r b2 us h5;exact⟨aB ga++(b1++c1),c2,ab nm kd a sz v tx (.slice ga ks.len cap)++v1,v2,by simp only[List.append_assoc],by rw[List.append_assoc],⟨ga,cap,bs,v1,b1,c1,rfl,h1,h3,rfl,h6⟩,h7⟩
theorem aM.del{w w':World}{B g cap:Nat}{k1 r:Nds}{d:Nd}{bl:List Nat}{vs:List Value}(h:aM w B (k1.app (d.put r)) (some ⟨g,0,none⟩) cap bl vs)(ho:ak w' B 28 7 (some ⟨g,0,none⟩) (k1.app r).len cap (vs.take (k1.len * 7)++vs.drop (k1.len * 7+7)))(hk:∀b∈bl,w'.heap[b]? =w.heap[b]?):
  ∃bl' vs',aM w' B (k1.app r) (some ⟨g,0,none⟩) cap bl' vs'∧∀b∈bl',b∈bl:=by
 obtain⟨h1,h2,h3⟩:=h;obtain⟨b1,b2,v1,v2,rfl,rfl,e1,e2⟩:=aU.split k1 bl vs h2;obtain⟨ga,c2,bs,us,b3,b4,rfl,f1,f2,rfl,f3⟩:=e2;have hl:=aU.len _ _ _ e1;rw[← hl,List.take_left,show v1.length+7=(v1++ab d.name d.kind d.at_ d.size d.val d.text (.slice ga d.kids.len c2)).length by rw[Z7,vl],← List.append_assoc,List.drop_left]at ho;refine⟨b1++b4,v1++us,⟨ho,aU.app (f3.an _ _ _ fun b hb=>hk b (by simp[hb])) _ _ _ (e1.an _ _ _ fun b hb=>hk b (by simp[hb])),?_⟩,fun b hb=> ?_⟩
 ·refine h3.sublist ?_;simp only[aB,List.singleton_append];refine List.Sublist.cons_cons _ (List.Sublist.append (List.Sublist.refl _) ?_);exact(List.sublist_append_right _ _).trans (List.sublist_append_right _ _)
 ·rcases List.mem_append.1 hb with h|h
  ·exact List.mem_append_left _ h
  ·exact List.mem_append_right _ (List.mem_append_right _ (List.mem_append_right _ h))
theorem aM.dup{w w1 w':World}{B g g' cap cap':Nat}{k1 r:Nds}{d:Nd}{bl b5:List Nat}{vs cs:List Value}(h:aM w B (k1.app (d.put r)) (some ⟨g,0,none⟩) cap bl vs)(hd:NdV w1 w.heap.size b5 d (.agg cs.toArray))(hn:b5.Nodup)(hB:B≤w.heap.size)(ho:ak w' B 28 7 (some ⟨g',0,none⟩) (k1.app (d.put (d.put r))).len cap' (vs.take ((k1.len+1) * 7)++cs++vs.drop ((k1.len+1) * 7)))(hg:g'=g∨w1.heap.size≤g')(hs:w.heap.size≤w1.heap.size)(hk:∀b∈bl,w'.heap[b]? =w.heap[b]?)(hk5:∀b∈b5,w'.heap[b]? =w1.heap[b]?):
  ∃bl' vs',aM w' B (k1.app (d.put (d.put r))) (some ⟨g',0,none⟩) cap' bl' vs'∧∀b∈bl',b∈bl∨w.heap.size≤b:=by
 have hmem:=h.mem;obtain⟨h1,h2,h3⟩:=h;obtain⟨b1,b2,v1,v2,rfl,rfl,e1,e2⟩:=aU.split k1 bl vs h2;obtain⟨ga,c2,bs,us,b3,b4,rfl,f1,f2,rfl,f3⟩:=e2;obtain⟨gc,cc,bsc,b6,hce,rfl,i1,i2⟩:=hd;have hcs:cs=ab d.name d.kind d.at_ d.size d.val d.text (.slice gc d.kids.len cc):=by
  injection hce with hce
  have:=congrArg Array.toList hce;simpa using this
 subst hcs;have hl:=aU.len _ _ _ e1;have hl8:(k1.len+1) * 7=(v1++ab d.name d.kind d.at_ d.size d.val d.text (.slice ga d.kids.len c2)).length:=by rw[Z7,vl,hl];omega
 rw[hl8,← List.append_assoc,List.take_left,List.drop_left]at ho;have j1:aU w' B (d.put r) (aB gc++(b6++b4)) (ab d.name d.kind d.at_ d.size d.val d.text (.slice gc d.kids.len cc)++us):=
  ⟨gc,cc,bsc,us,b6,b4,rfl,(i1.an fun x hx=>hk5 _ (List.mem_append_left _ (by rw[hx];simp[aB]))).mono hB,(i2.an _ _ _ fun b hb=>hk5 b (List.mem_append_right _ hb)).low hB _ _ _,rfl,f3.an _ _ _ fun b hb=>hk b (by simp[hb])⟩
 have j2:aU w' B (d.put (d.put r)) (aB ga++(b3++(aB gc++(b6++b4)))) (ab d.name d.kind d.at_ d.size d.val d.text (.slice ga d.kids.len c2)++(ab d.name d.kind d.at_ d.size d.val d.text (.slice gc d.kids.len cc)++us)):=
  ⟨ga,c2,bs,_,b3,_,rfl,f1.an fun x hx=>hk _ (by rw[hx];simp[aB]),f2.an _ _ _ fun b hb=>hk b (by simp[hb]),rfl,j1⟩
 have j3:=aU.app j2 _ _ _ (e1.an (w':=w') _ _ _ fun b hb=>hk b (by simp[hb]));have hfar:∀b∈aB gc++b6,w.heap.size≤b∧b < w1.heap.size:=fun b hb=>by
  rcases List.mem_append.1 hb with h|h
  ·obtain⟨x,rfl,rfl⟩:=gj h;exact i1.lt
  ·exact i2.mem _ _ _ b h
 have hold:∀b∈b1++(aB ga++(b3++b4)),b < w.heap.size:=fun b hb=>(hmem b (List.mem_append_right _ hb)).2
 refine⟨_,_,⟨?_,j3,?_⟩,fun b hb=> ?_⟩
 ·simp only[List.append_assoc]at ho⊢;exact ho
 ·have hN1:(g::(b1++(aB ga++(b3++b4)))).Nodup:=h3;have hN2:=(List.nodup_cons.1 hN1).2;have hperm:List.Perm (b1++(aB ga++(b3++(aB gc++(b6++b4))))) ((aB gc++b6)++(b1++(aB ga++(b3++b4)))):=by
   have p1:List.Perm (b1++(aB ga++(b3++(aB gc++(b6++b4))))) ((b1++(aB ga++b3))++((aB gc++b6)++b4)):=by simp only[List.append_assoc];exact List.Perm.refl _
   have p2:List.Perm ((aB gc++b6)++(b1++(aB ga++(b3++b4)))) ((aB gc++b6)++((b1++(aB ga++b3))++b4)):=by simp only[List.append_assoc];exact List.Perm.refl _
   have p3:List.Perm ((b1++(aB ga++b3))++((aB gc++b6)++b4)) ((aB gc++b6)++((b1++(aB ga++b3))++b4)):=by
    have:=List.Perm.append_right b4 (List.perm_append_comm (l₁:=b1++(aB ga++b3)) (l₂:=aB gc++b6));rw[List.append_assoc,List.append_assoc (aB gc++b6)]at this;exact this
   exact p1.trans (p3.trans p2.symm)
  show(g'::_).Nodup;rw[List.nodup_cons];refine⟨fun hm=> ?_,hperm.nodup_iff.2 (List.nodup_append.2 ⟨hn,hN2,fun x hx y hy e=> ?_⟩)⟩
  ·rcases List.mem_append.1 (hperm.mem_iff.1 hm)with h|h
   ·have h8:=hfar _ h;rcases hg with rfl|h9
    ·have:=(hmem g' (by simp[aB])).2;omega
    ·omega
   ·rcases hg with rfl|h9
    ·exact(List.nodup_cons.1 hN1).1 h
    ·have:=hold _ h;omega
  ·subst e;have:=hfar _ hx;have:=hold _ hy;omega
 ·rcases List.mem_append.1 hb with h|h
  ·exact .inl (List.mem_append_left _ h)
  ·rcases List.mem_append.1 h with h|h
   ·exact .inl (by simp[h])
   ·rcases List.mem_append.1 h with h|h
    ·exact .inl (by simp[h])
    ·rcases List.mem_append.1 h with h|h
     ·exact .inr (hfar b (List.mem_append_left _ h)).1
     ·rcases List.mem_append.1 h with h|h
      ·exact .inr (hfar b (List.mem_append_right _ h)).1
      ·exact .inl (by simp[h])
theorem yp(w:World)(B cap pc tb:Nat)(tys:List Tm.Ty)(a pa:Option Addr)(vs:List Value)(root s:Tm.Wd)(ps:List Int)(ErrC:List Nat→Nd→Nd→Int→Prop)(OkC:List Nat→Nd→Nd→Nd→Prop)(hT:TyF w B tys a cap vs)(hr:root.length≤200000000000000)(hs:s.length≤4000)
  (hps:∀X,Below w.heap.size w X→RdI X pa ps)(hpl:ps.length≤1000)(hpc:ps.length≤pc)
  (hdo:∀(X:World) (q:List Nat) (d x:Nd) (nb gn on:Nat) (g:Option Addr) (c:Nat) (bl:List Nat) (vsx:List Value) (upv:Value) (gx ox:Nat),Below w.heap.size w X→aw tys root s=some d→ps=bf q→q≠[]→Foc X w.heap.size nb d q gn on x g c bl vsx→w.heap.size≤gn→(∀(g' o':Nat) (zs':List Value),ae X g' o' 28 zs'→g'≠nb+1)→w.heap.size≤nb→nb+1 < X.heap.size→Itm w tys root x q gx ox→(∃q' k y gu ou g' c' bl' vs',q=q'++[k]∧upv= .pointer (some ⟨gu,ou,none⟩)∧Foc X w.heap.size nb d q' gu ou y g' c' bl' vs')→
   Calls Tryz.prog 44 #[upv,.pointer (some ⟨gn,on,none⟩),.pointer (some ⟨gx,ox,none⟩),.pointer (some ⟨tb,0,none⟩)] X (jk w X nb tys root (ErrC q d x) (OkC q d x))):
  Calls Tryz.prog 37 #[.slice a tys.length cap,.string (aa root),.string (aa s),.slice pa ps.length pc,.func (.func 44) #[] #[.pointer (some ⟨tb,0,none⟩)]] w (eI w tys root ps (aw tys root s) ErrC OkC):=by
 have hF:∀t∈tys,Tm.bg t∧Tm.Its.sz t.items≤100000:=hT.eE;obtain⟨n,hn⟩:∃n,n=tys.length:=⟨_,rfl⟩;obtain⟨pn,hpn⟩:∃pn,pn=ps.length:=⟨_,rfl⟩;have hRD:=fU tys root s w B cap B a vs hT.own hT.enc hF hT.few hT.chain hr (by omega);have HRT:Hid (∀d,aw tys root s=some d→d.ok∧d.tot≤8000∧(wrS tys.reverse root d.kids).isSome=true∧d.kind=3∧Fx.Tdy d.kids):=hid (fun d hd=>by
  obtain⟨d1,d2,d3⟩:=dL hT hs hd;have hwd:(Fx.wrT tys.reverse root d).isSome=true:=by unfold Fx.wrT;rw[d3];rfl
  obtain⟨k1,k2,k3⟩:=Fx.cC hwd;exact⟨d1,d2,k1,k3,(Fx.rz hd).2⟩)
 have HAT:Hid (∀X d nb,Below w.heap.size w X→aw tys root s=some d→dX X w.heap.size nb d→Calls Tryz.prog 72 #[.agg #[.slice a n cap],.string (aa root),.pointer (some ⟨nb,0,none⟩),.slice pa pn pc] X (ry w X w.heap.size nb tys root d ps)):=hid (fun X d nb hX hd ht=>by
  obtain⟨d1,d2,d3,d4,d5⟩:=HRT.out d hd;rw[hn,hpn];exact Aq w X B w.heap.size nb cap pc tys a pa root d ps hT.fxe hX ht d4 d3 d5 (by omega) (fun Y hY=>hps Y (hX.trans (hY.mono hX.size))) hpl hpc)
 have HDN:Hid (∀X d Bn bl v,Below w.heap.size w X→d.ok→d.tot≤800000→(Fx.wrT tys.reverse root d).isSome=true→NdV X Bn bl d v→Calls Tryz.prog 34 #[.agg #[.slice a n cap],.string (aa root),v] X (mY X (Fx.bH Fx.bE tys.reverse root d))):=hid (fun X d Bn bl v hX d1 d2 d3 hv=>by
  obtain⟨u0,hu0⟩:=Option.isSome_iff_exists.1 d3;rw[hn];exact kI tys root u0 d X B cap Bn a vs v bl (hT.up hX) hr hv d1 d2 hu0)
 have HDO:=hid hdo;obtain⟨o,ho⟩:∃o,o=aw tys root s:=⟨_,rfl⟩;rw[← ho]at hRD HRT HAT HDO⊢;rw[← hn,← hpn]at *
 have HRD:=hid hRD;clear hT hr hs hps hpl hpc hdo hF hRD ho hn hpn;go_enter Tryz.func37,Tryz.ntmps37;go_wp2_with fail;refine HRD.out.mono ?_;unfold gU;rintro e w2 ⟨hb2,hv2⟩;have HB2:=hid hb2;cases o with
 |none=>
  obtain⟨ty,vv,rfl⟩:=hv2;clear hb2;go_wp2_with fail;go_ret2;exact⟨HB2.out.alloc HB2.out.size _,ty,vv,rfl⟩
 |some d=>
  obtain⟨v2,bl2,rfl,hnd2,hnp2⟩:=hv2;obtain⟨g2,cc2,hve⟩:=hnd2.cells;subst hve;obtain⟨V,hV⟩:∃V,V=(w2.alloc (.cells #[.string (aa d.name),.int .i64 (d.kind:Nat),.int .i64 (d.at_:Nat),.int .i64 (d.size:Nat),.int .i64 d.val,.string (aa d.text),.slice g2 d.kids.len cc2] 28)).alloc (.cells #[.slice a n cap] 75):=⟨_,rfl⟩;have hbV:Below w2.heap.size w2 V:=by rw[hV];exact((Y4 _ _).alloc (Z5 _) _).alloc (by simp) _
  have hVs:V.heap.size=w2.heap.size+2:=by rw[hV];simp
  have hq0:ae V w2.heap.size 0 28 [.string (aa d.name),.int .i64 (d.kind:Nat),.int .i64 (d.at_:Nat),.int .i64 (d.size:Nat),.int .i64 d.val,.string (aa d.text),.slice g2 d.kids.len cc2]:=by rw[hV];exact(ae.new w2 _ _).alloc _
  have hq1:ae V (w2.heap.size+1) 0 75 [.slice a n cap]:=by rw[hV];exact ae.iI _ _ (by simp) _ _
  have hndV:=hnd2.an (w':=V) fun b hb=>hbV.block b (hnd2.mem b hb).2
  have htr:dX V w.heap.size w2.heap.size d:=dX.Gx hndV hnp2 hq0 (fun hb=>by have:=(hnd2.mem _ hb).2;omega);have hbVw:Below w.heap.size w V:=hb2.trans (hbV.mono hb2.size);have HAV:=hid (HAT.out V d w2.heap.size hbVw rfl htr);have HQ1:=hid hq1;have j0:=hq1.cell0 0 (by simp);simp only[Z0]at j0;obtain⟨ml,hml⟩:∃ml,ml=d.kids.len:=⟨_,rfl⟩;rw[← hml]at hV⊢;rw[hV]at j0;have HV:=hid hV;have HBV:=hid hbVw;have HVS:=hid hVs;clear hb2 hnd2 hnp2 hV hbV hq0 hq1 hndV htr hbVw hml hVs;go_wp2_with fail;rw[← HV.out];refine HAV.out.mono ?_;unfold ry;rintro e w4 ⟨hb4,⟨rfl,hno⟩|⟨q,x,gn,on,g,c,bl,vsx,upv,xv,hq,rfl,hfoc,hx0,hx1⟩⟩
  ·have HB4:=hid (HBV.out.trans (hb4.mono HBV.out.size));have HNO:=hid hno;clear hb4 hno j0;go_wp2_with fail;go_ret2;exact⟨HB4.out,.inl ⟨fun q hq=> .inr (HNO.out q hq),rfl⟩⟩
  ·have HB4:=hid (HBV.out.trans (hb4.mono HBV.out.size));have hq14:=HQ1.out.below hb4 HQ1.out.lt;have hz4:w2.heap.size+1 < w4.heap.size:=by have:=hb4.size;have:=HVS.out;omega
   by_cases hqn:q=[]
   ·have hxe:=hx0 hqn;subst hxe;have HNO:=hid (show ∀q2,ps=bf q2→q2=[]∨Fx.bX q2 d=none from fun q2 h2=> .inl (by
     subst hqn;rw[hq]at h2;cases q2 with
     |nil=>rfl
     |cons y q2=>simp[bf]at h2))
    clear hb4 hx0 hx1 hqn hq14 hz4 j0 hq hfoc;go_wp2_with fail;go_ret2;exact⟨HB4.out,.inl ⟨HNO.out,rfl⟩⟩
   ·obtain⟨⟨gx,ox,rfl,hitm⟩,hpar⟩:=hx1 hqn;have hgn1:∀(g' o':Nat) (zs':List Value),ae w4 g' o' 28 zs'→g'≠w2.heap.size+1:=fun g' o' zs' h1 e=>by
     rw[e]at h1;have:=Ar h1 hq14;exact absurd this (by decide)
    have hgnB:w.heap.size≤gn:=by
     rcases hfoc.base with h|h
     ·exact h
     ·have:=HB2.out.size;omega
    have HCL:=hid (HDO.out w4 q d x w2.heap.size gn on g c bl vsx upv gx ox HB4.out rfl hq hqn hfoc hgnB hgn1 HB2.out.size hz4 hitm hpar);have HQX:=hid (And.intro hq (And.intro hqn hfoc.get));have HQ14:=hid hq14;clear hb4 hx0 hx1 hq hfoc hitm hpar hgn1 hgnB hq14 hz4 j0;go_wp2_with fail;refine HCL.out.mono ?_;unfold jk;rintro e w5 ⟨hb5,⟨k,hek,rfl⟩|⟨d2,hok2,rfl,ht5,hk5,ho5,ht25,hw5⟩⟩
    ·have HB5:=hid hb5;have HEK:=hid hek;clear hb5 hek hqn;go_wp2_with fail;go_ret2;exact⟨HB5.out,.inr ⟨q,x,HQX.out.1,HQX.out.2.1,HQX.out.2.2,.inl ⟨k,HEK.out,rfl⟩⟩⟩
    ·have HB5:=hid hb5;obtain⟨g5,c5,bl5,vs5,hr5,hkv5,hn5⟩:=ht5;have hq5:=HQ14.out.of_heap hk5;have j5:=hq5.cell0 0 (by simp);simp only[Z0]at j5;have hnd5:=hkv5.nd d2.name d2.kind d2.at_ d2.size d2.val d2.text;have HD5:=hid (HDN.out w5 d2 _ _ _ hb5 ho5 ht25 hw5 hnd5);obtain⟨m5,hm5⟩:∃m5,m5=d2.kids.len:=⟨_,rfl⟩;rw[← hm5]at hr5 HD5;have e5:Value.agg (ab d2.name d2.kind d2.at_ d2.size d2.val d2.text (.slice g5 m5 c5)).toArray= .agg #[.string (aa d2.name),.int .i64 (d2.kind:Nat),.int .i64 (d2.at_:Nat),.int .i64 (d2.size:Nat),.int .i64 d2.val,.string (aa d2.text),.slice g5 m5 c5]:=rfl;rw[e5]at HD5;have hr5b:ae w5 w2.heap.size 0 28 [.string (aa d2.name),.int .i64 (d2.kind:Nat),.int .i64 (d2.at_:Nat),.int .i64 (d2.size:Nat),.int .i64 d2.val,.string (aa d2.text),.slice g5 m5 c5]:=hr5;have c0:=hr5b.cell0 0 (by simp);have c1:=hr5b.cell0 1 (by simp);have c2:=hr5b.cell0 2 (by simp);have c3:=hr5b.cell0 3 (by simp);have c4:=hr5b.cell0 4 (by simp);have cc5:=hr5b.cell0 5 (by simp);have c6:=hr5b.cell0 6 (by simp);simp only[Z0,Z1]at c0 c1 c2 c3 c4 cc5 c6;have HOK:=hid (And.intro hok2 hw5);obtain⟨rr,hrr⟩:∃rr,rr=Fx.bH Fx.bE tys.reverse root d2:=⟨_,rfl⟩;rw[← hrr]at HD5;have HRR:=hid hrr;clear hb5 hok2 hr5 hr5b hkv5 hn5 hq5 hnd5 ho5 ht25 hw5 hk5 e5 hm5 hqn hrr;go_wp2_with fail;refine HD5.out.mono ?_;rintro e w6 ⟨hb6,hv6⟩;have HB6:=hid (HB5.out.trans (hb6.mono HB5.out.size));clear hb6;cases rr with
     |ok u=>
      simp only[]at hv6;subst hv6;go_wp2_with fail;go_ret2;refine⟨HB6.out,.inr ⟨q,x,HQX.out.1,HQX.out.2.1,HQX.out.2.2,.inr ⟨d2,HOK.out.1,HOK.out.2,?_⟩⟩⟩;rw[← HRR.out];rfl
     |bad k=>
      simp only[]at hv6;subst hv6;go_wp2_with fail;go_ret2;refine⟨HB6.out,.inr ⟨q,x,HQX.out.1,HQX.out.2.1,HQX.out.2.2,.inr ⟨d2,HOK.out.1,HOK.out.2,?_⟩⟩⟩;rw[← HRR.out];rfl
end
end Go.Proofs.YtlomecfhobehnaaGreatDoor
