import Derived.Test.YtlomecfhobehnaaGreatDoorMgFixDrops32
set_option linter.all false
set_option maxRecDepth 100000
set_option maxHeartbeats 2000000
namespace Go.Proofs.YtlomecfhobehnaaGreatDoor
open Lib (hid)
section
open Ly
theorem IX{w u:Tm.Wd}:Ex.InR (nL w u):=by
 cases hk:Tm.kindOf w with
 |some k=>exact tg (by rw[hk];rfl)
 |none=>
  unfold nL bo gh eR;rw[hk];simp[Ex.InR,fN]
namespace Ly
def BF(S:Sub):Prop:=∀nm st ks st',S nm st=some (ks,st')→ks.ok∧ks.tot+st.at_+8 * st.n≤st'.at_+8 * st'.n
theorem ve{s u:Tm.Wd}{k:Int}{st st':St}(h:tak s k st=some (u,st')):u.length+st.at_≤st'.at_∧st'.n=st.n:=by
 unfold tak at h;split at h
 ·cases h
 ·cases h;refine⟨?_,rfl⟩;rw[List.length_take];show min k.toNat _+st.at_≤st.at_+k.toNat;omega
theorem Al{st st':St}(h:nod st=some st'):st'.at_=st.at_∧st'.n=st.n+1:=⟨lx h,oF h⟩
theorem one_le{S:Sub}(hS:BF S){s:Tm.Wd}{N:Ex.Names}{h:Tm.Hd}{st st':St}{d:Nd}(ho:bL S s N h st=some (d,st')):d.ok∧d.tot+st.at_+8 * st.n≤st'.at_+8 * st'.n:=by
 unfold bL at ho;cases hn:nod st with
 |none=>rw[hn]at ho;cases ho
 |some st1=>
  obtain⟨a1,a2⟩:=Al hn;rw[hn]at ho;simp only[Option.bind_some]at ho;cases hk:h.k with
  |scalar w=>
   rw[hk]at ho;simp only[]at ho;cases ht:tak s (bo w:Nat) st1 with
   |none=>rw[ht]at ho;cases ho
   |some p=>
    obtain⟨u,st2⟩:=p;obtain⟨b1,b2⟩:=ve ht;rw[ht]at ho;simp only[Option.map_some,Option.some.injEq,Prod.mk.injEq]at ho;obtain⟨rfl,rfl⟩:=ho;refine⟨⟨IX,trivial⟩,?_⟩;show 0+8+0+st.at_+8 * st.n≤_;omega
  |bytes=>
   rw[hk]at ho;simp only[]at ho;cases hc:h.cnt.bind (Ex.ev N)with
   |none=>rw[hc]at ho;cases ho
   |some k=>
    rw[hc]at ho;simp only[Option.bind_some]at ho;cases ht:tak s k st1 with
    |none=>rw[ht]at ho;cases ho
    |some p=>
     obtain⟨u,st2⟩:=p;obtain⟨b1,b2⟩:=ve ht;rw[ht]at ho;simp only[Option.map_some,Option.some.injEq,Prod.mk.injEq]at ho;obtain⟨rfl,rfl⟩:=ho;refine⟨⟨(by unfold Ex.InR;simp),trivial⟩,?_⟩;show u.length+8+0+st.at_+8 * st.n≤_;omega
  |struct t=>
   rw[hk]at ho;simp only[]at ho;cases ht:S t st1 with
   |none=>rw[ht]at ho;cases ho
   |some p=>
    obtain⟨ks,st2⟩:=p;obtain⟨b1,b2⟩:=hS _ _ _ _ ht;rw[ht]at ho;simp only[Option.map_some,Option.some.injEq,Prod.mk.injEq]at ho;obtain⟨rfl,rfl⟩:=ho;refine⟨⟨(by unfold Ex.InR;simp),b1⟩,?_⟩;show 0+8+ks.tot+st.at_+8 * st.n≤_;omega
theorem Gs{f:St→Option (Nd×St)}(hf:∀st st' d,f st=some (d,st')→d.ok∧d.tot+st.at_+8 * st.n≤st'.at_+8 * st'.n):∀(k:Nat) (st st':St) (ks:Nds),Ly.rep f k st=some (ks,st')→ks.ok∧ks.tot+st.at_+8 * st.n≤st'.at_+8 * st'.n
 |0,st,st',ks,h=>by
  cases h;exact⟨trivial,by show 0+_+_≤_;omega⟩
 |k+1,st,st',ks,h=>by
  have h2:(f st).bind (fun p=>(Ly.rep f k p.2).map fun q=>(p.1.put q.1,q.2))=some (ks,st'):=h;cases h3:f st with
  |none=>rw[h3]at h2;cases h2
  |some p=>
   obtain⟨d,st1⟩:=p;rw[h3]at h2;simp only[Option.bind_some]at h2;cases h4:Ly.rep f k st1 with
   |none=>rw[h4]at h2;cases h2
   |some q=>
    obtain⟨r,st2⟩:=q;rw[h4]at h2;simp only[Option.map_some,Option.some.injEq,Prod.mk.injEq]at h2;obtain⟨rfl,rfl⟩:=h2;obtain⟨a1,a2⟩:=hf _ _ _ h3;obtain⟨b1,b2⟩:=Gs hf k _ _ _ h4;exact⟨⟨a1.1,a1.2,b1⟩,by rw[fP];omega⟩
theorem Ku{S:Sub}(hS:BF S){s:Tm.Wd}{N:Ex.Names}{h:Tm.Hd}{st st':St}{d:Nd}(ho:hdR S s N h st=some (d,st')):d.ok∧d.tot+st.at_+8 * st.n≤st'.at_+8 * st'.n:=by
 unfold hdR at ho;split at ho
 ·unfold iw at ho;cases hn:nod st with
  |none=>rw[hn]at ho;cases ho
  |some st1=>
   obtain⟨a1,a2⟩:=Al hn;rw[hn]at ho;simp only[Option.bind_some]at ho;cases hc:h.cnt.bind (Ex.ev N)with
   |none=>rw[hc]at ho;cases ho
   |some k=>
    rw[hc]at ho;simp only[Option.bind_some]at ho;split at ho
    ·cases ho
    ·cases hr:Ly.rep (bL S s N h) k.toNat st1 with
     |none=>rw[hr]at ho;cases ho
     |some p=>
      obtain⟨ks,st2⟩:=p;obtain⟨b1,b2⟩:=Gs (fun _ _ _=>one_le hS) _ _ _ _ hr;rw[hr]at ho;simp only[Option.map_some,Option.some.injEq,Prod.mk.injEq]at ho;obtain⟨rfl,rfl⟩:=ho;refine⟨⟨(by unfold Ex.InR;simp),b1⟩,?_⟩;show 0+8+ks.tot+st.at_+8 * st.n≤_;omega
 ·exact one_le hS ho
theorem vf{S:Sub}(hS:BF S)(s:Tm.Wd):∀(l:Tm.Its) (N N':Ex.Names) (st st':St) (ks:Nds),bO S s l N st=some (ks,N',st')→ks.ok∧ks.tot+st.at_+8 * st.n≤st'.at_+8 * st'.n
 | .nil,N,N',st,st',ks,h=>by
  cases h;exact⟨trivial,by show 0+_+_≤_;omega⟩
 | .cons h l,N,N',st,st',ks,ho=>by
  cases h1:hdR S s N h st with
  |none=>rw[gA h1]at ho;cases ho
  |some p=>
   obtain⟨d,st1⟩:=p;rw[qC h1]at ho;cases h2:bO S s l (if Tm.single h then upd N h.name d.val else N) st1 with
   |none=>rw[h2]at ho;cases ho
   |some q=>
    obtain⟨r,N2,st2⟩:=q;rw[h2]at ho;simp only[Option.map_some,Option.some.injEq,Prod.mk.injEq]at ho;obtain⟨rfl,rfl,rfl⟩:=ho;obtain⟨a1,a2⟩:=Ku hS h1;obtain⟨b1,b2⟩:=vf hS s l _ _ _ _ _ h2;exact⟨⟨a1.1,a1.2,b1⟩,by rw[fP];omega⟩
 | .when a c b l,N,N',st,st',ks,ho=>by
  rw[jC]at ho;unfold fp at ho;cases hn:nod st with
  |none=>rw[hn]at ho;cases ho
  |some st1=>
   obtain⟨a1,a2⟩:=Al hn;rw[hn]at ho;simp only[Option.bind_some]at ho;cases hc:Ex.ev N c with
   |none=>rw[hc]at ho;cases ho
   |some v=>
    rw[hc]at ho;simp only[Option.bind_some]at ho;cases hb:(if v=0 then some (Nds.nil,N,st1)else bO S s b N st1)with
    |none=>rw[hb]at ho;cases ho
    |some p=>
     obtain⟨kb,Nb,stb⟩:=p;have hkb:kb.ok∧kb.tot+st1.at_+8 * st1.n≤stb.at_+8 * stb.n:=by
      split at hb
      ·cases hb;exact⟨trivial,by show 0+_+_≤_;omega⟩
      ·exact vf hS s b _ _ _ _ _ hb
     rw[hb]at ho;simp only[Option.map_some,Option.bind_some]at ho;cases h2:bO S s l Nb stb with
     |none=>rw[h2]at ho;cases ho
     |some q=>
      obtain⟨r,N2,st2⟩:=q;rw[h2]at ho;simp only[Option.map_some,Option.some.injEq,Prod.mk.injEq]at ho;obtain⟨rfl,rfl,rfl⟩:=ho;obtain⟨b1,b2⟩:=vf hS s l _ _ _ _ _ h2;refine⟨⟨(by show Ex.InR (if v=0 then 0 else 1);split <;> (unfold Ex.InR;simp)),hkb.1,b1⟩,?_⟩;show 0+8+kb.tot+r.tot+st.at_+8 * st.n≤_;omega
theorem Am(s:Tm.Wd):∀l:List Tm.Ty,BF (rdS s l)
 |[],nm,st,ks,st',h=>by cases h
 |t::r,nm,st,ks,st',h=>by
  by_cases hn:t.name=nm
  ·subst hn;rw[uL]at h;cases h1:bO (rdS s r) s t.items (fun _=>none) st with
   |none=>rw[h1]at h;cases h
   |some p=>
    obtain⟨k2,N2,st2⟩:=p;rw[h1]at h;simp only[Option.map_some,Option.some.injEq,Prod.mk.injEq]at h;obtain⟨rfl,rfl⟩:=h;exact vf (Am s r) s _ _ _ _ _ _ h1
  ·rw[jH hn]at h;exact Am s r nm st ks st' h
def vg(S:Sub):Prop:=∀nm st ks st',S nm st=some (ks,st')→(st.n≤400→st'.n≤400)
theorem vh{st st':St}(h:nod st=some st'):st.n≤400→st'.n≤400:=by
 intro hn;unfold nod at h;split at h
 ·cases h
 ·cases h;show st.n+1≤400;omega
theorem vi{S:Sub}(hS:vg S){s:Tm.Wd}{N:Ex.Names}{h:Tm.Hd}{st st':St}{d:Nd}(ho:bL S s N h st=some (d,st')):(st.n≤400→st'.n≤400):=by
 unfold bL at ho;cases hn:nod st with
 |none=>rw[hn]at ho;cases ho
 |some st1=>
  have a2:=vh hn;rw[hn]at ho;simp only[Option.bind_some]at ho;cases hk:h.k with
  |scalar w=>
   rw[hk]at ho;simp only[]at ho;cases ht:tak s (bo w:Nat) st1 with
   |none=>rw[ht]at ho;cases ho
   |some p=>
    obtain⟨u,st2⟩:=p;have b2:=(ve ht).2;rw[ht]at ho;simp only[Option.map_some,Option.some.injEq,Prod.mk.injEq]at ho;obtain⟨rfl,rfl⟩:=ho;intro h400;have:=a2 h400;omega
  |bytes=>
   rw[hk]at ho;simp only[]at ho;cases hc:h.cnt.bind (Ex.ev N)with
   |none=>rw[hc]at ho;cases ho
   |some k=>
    rw[hc]at ho;simp only[Option.bind_some]at ho;cases ht:tak s k st1 with
    |none=>rw[ht]at ho;cases ho
    |some p=>
     obtain⟨u,st2⟩:=p;have b2:=(ve ht).2;rw[ht]at ho;simp only[Option.map_some,Option.some.injEq,Prod.mk.injEq]at ho;obtain⟨rfl,rfl⟩:=ho;intro h400;have e1:=a2 h400;have e2:=b2;first|omega|(exact b2 e1)|(exact b2 (hkb e1))
  |struct t=>
   rw[hk]at ho;simp only[]at ho;cases ht:S t st1 with
   |none=>rw[ht]at ho;cases ho
   |some p=>
    obtain⟨ks,st2⟩:=p;have b2:=hS _ _ _ _ ht;rw[ht]at ho;simp only[Option.map_some,Option.some.injEq,Prod.mk.injEq]at ho;obtain⟨rfl,rfl⟩:=ho;intro h400;have e1:=a2 h400;have e2:=b2;first|omega|(exact b2 e1)|(exact b2 (hkb e1))
theorem BG{f:St→Option (Nd×St)}(hf:∀st st' d,f st=some (d,st')→(st.n≤400→st'.n≤400)):∀(k:Nat) (st st':St) (ks:Nds),Ly.rep f k st=some (ks,st')→(st.n≤400→st'.n≤400)
 |0,st,st',ks,h=>by
  cases h;exact id
 |k+1,st,st',ks,h=>by
  have h2:(f st).bind (fun p=>(Ly.rep f k p.2).map fun q=>(p.1.put q.1,q.2))=some (ks,st'):=h;cases h3:f st with
  |none=>rw[h3]at h2;cases h2
  |some p=>
   obtain⟨d,st1⟩:=p;rw[h3]at h2;simp only[Option.bind_some]at h2;cases h4:Ly.rep f k st1 with
   |none=>rw[h4]at h2;cases h2
   |some q=>
    obtain⟨r,st2⟩:=q;rw[h4]at h2;simp only[Option.map_some,Option.some.injEq,Prod.mk.injEq]at h2;obtain⟨rfl,rfl⟩:=h2;have a2:=hf _ _ _ h3;have b2:=BG hf k _ _ _ h4;exact fun h400=>b2 (a2 h400)
theorem Kc{S:Sub}(hS:vg S){s:Tm.Wd}{N:Ex.Names}{h:Tm.Hd}{st st':St}{d:Nd}(ho:hdR S s N h st=some (d,st')):(st.n≤400→st'.n≤400):=by
 unfold hdR at ho;split at ho
 ·unfold iw at ho;cases hn:nod st with
  |none=>rw[hn]at ho;cases ho
  |some st1=>
   have a2:=vh hn;rw[hn]at ho;simp only[Option.bind_some]at ho;cases hc:h.cnt.bind (Ex.ev N)with
   |none=>rw[hc]at ho;cases ho
   |some k=>
    rw[hc]at ho;simp only[Option.bind_some]at ho;split at ho
    ·cases ho
    ·cases hr:Ly.rep (bL S s N h) k.toNat st1 with
     |none=>rw[hr]at ho;cases ho
     |some p=>
      obtain⟨ks,st2⟩:=p;have b2:=BG (fun _ _ _=>vi hS) _ _ _ _ hr;rw[hr]at ho;simp only[Option.map_some,Option.some.injEq,Prod.mk.injEq]at ho;obtain⟨rfl,rfl⟩:=ho;intro h400;have e1:=a2 h400;have e2:=b2;first|omega|(exact b2 e1)|(exact b2 (hkb e1))
 ·exact vi hS ho
theorem pB{S:Sub}(hS:vg S)(s:Tm.Wd):∀(l:Tm.Its) (N N':Ex.Names) (st st':St) (ks:Nds),bO S s l N st=some (ks,N',st')→(st.n≤400→st'.n≤400)
 | .nil,N,N',st,st',ks,h=>by
  cases h;exact id
 | .cons h l,N,N',st,st',ks,ho=>by
  cases h1:hdR S s N h st with
  |none=>rw[gA h1]at ho;cases ho
  |some p=>
   obtain⟨d,st1⟩:=p;rw[qC h1]at ho;cases h2:bO S s l (if Tm.single h then upd N h.name d.val else N) st1 with
   |none=>rw[h2]at ho;cases ho
   |some q=>
    obtain⟨r,N2,st2⟩:=q;rw[h2]at ho;simp only[Option.map_some,Option.some.injEq,Prod.mk.injEq]at ho;obtain⟨rfl,rfl,rfl⟩:=ho;have a2:=Kc hS h1;have b2:=pB hS s l _ _ _ _ _ h2;exact fun h400=>b2 (a2 h400)
 | .when a c b l,N,N',st,st',ks,ho=>by
  rw[jC]at ho;unfold fp at ho;cases hn:nod st with
  |none=>rw[hn]at ho;cases ho
  |some st1=>
   have a2:=vh hn;rw[hn]at ho;simp only[Option.bind_some]at ho;cases hc:Ex.ev N c with
   |none=>rw[hc]at ho;cases ho
   |some v=>
    rw[hc]at ho;simp only[Option.bind_some]at ho;cases hb:(if v=0 then some (Nds.nil,N,st1)else bO S s b N st1)with
    |none=>rw[hb]at ho;cases ho
    |some p=>
     obtain⟨kb,Nb,stb⟩:=p;have hkb:(st1.n≤400→stb.n≤400):=by
      split at hb
      ·cases hb;exact id
      ·exact pB hS s b _ _ _ _ _ hb
     rw[hb]at ho;simp only[Option.map_some,Option.bind_some]at ho;cases h2:bO S s l Nb stb with
     |none=>rw[h2]at ho;cases ho
     |some q=>
      obtain⟨r,N2,st2⟩:=q;rw[h2]at ho;simp only[Option.map_some,Option.some.injEq,Prod.mk.injEq]at ho;obtain⟨rfl,rfl,rfl⟩:=ho;have b2:=pB hS s l _ _ _ _ _ h2;intro h400;have e1:=a2 h400;have e2:=b2;first|omega|(exact b2 e1)|(exact b2 (hkb e1))
theorem vk(s:Tm.Wd):∀l:List Tm.Ty,vg (rdS s l)
 |[],nm,st,ks,st',h=>by cases h
 |t::r,nm,st,ks,st',h=>by
  by_cases hn:t.name=nm
  ·subst hn;rw[uL]at h;cases h1:bO (rdS s r) s t.items (fun _=>none) st with
   |none=>rw[h1]at h;cases h
   |some p=>
    obtain⟨k2,N2,st2⟩:=p;rw[h1]at h;simp only[Option.map_some,Option.some.injEq,Prod.mk.injEq]at h;obtain⟨rfl,rfl⟩:=h;exact pB (vk s r) s _ _ _ _ _ _ h1
  ·rw[jH hn]at h;exact vk s r nm st ks st' h
theorem sq{l:List Tm.Ty}{root s:Tm.Wd}{d:Nd}(h:aw l root s=some d):d.ok∧d.tot≤s.length+3200∧∃st,bL (rdS s l.reverse) s (fun _=>none) (cm root) ⟨0,0⟩=some (d,st)∧st.at_=s.length:=by
 unfold aw at h;cases h1:bL (rdS s l.reverse) s (fun _=>none) (cm root) ⟨0,0⟩with
 |none=>rw[h1]at h;cases h
 |some p=>
  obtain⟨d2,st⟩:=p;rw[h1]at h;simp only[Option.bind_some]at h;split at h
  ·rename_i he
   cases h;obtain⟨a1,a2⟩:=one_le (Am s l.reverse) h1;have a3:=vi (vk s l.reverse) h1 (Nat.zero_le _);simp only[]at a2 a3 he;exact⟨a1,by omega,st,rfl,he⟩
  ·cases h
end Ly
end
section
open Go Go.RowKit
open Rd
open Ly
theorem dL{w:World}{B:Nat}{tys:List Tm.Ty}{a:Option Addr}{cap:Nat}{vs:List Value}(hT:TyF w B tys a cap vs){root s:Tm.Wd}{d:Nd}(hs:s.length≤4000)(h:aw tys root s=some d):d.ok∧d.tot≤8000∧aX (wrS tys.reverse) (cm root) d=some s:=by
 obtain⟨d1,d2,st,d3,d4⟩:=sq h;exact⟨d1,by omega,qG hT.rk d3 d4⟩
def BH(w:World)(tys:List Tm.Ty)(root:Tm.Wd)(o:Option Nd)(e:Ending)(w':World):Prop:=Below w.heap.size w w'∧match o with
 |none=>∃t v,e= .returned (.tuple #[.string {data:= #[]},.iface t v])
 |some d=>match Fx.bH Fx.bE tys.reverse root d with
  | .ok u=>e= .returned (.tuple #[.string (aa u),.nilIface])
  | .bad k=>e= .returned (.tuple #[.string {data:= #[]},.iface 48 (.int .i64 (DV k))])
theorem yj(tys:List Tm.Ty)(root s:Tm.Wd)(w:World)(B cap:Nat)(a:Option Addr)(vs:List Value)(hT:TyF w B tys a cap vs)(hr:root.length≤200000000000000)(hs:s.length≤4000):
  Calls Tryz.prog 12 #[.slice a tys.length cap,.string (aa root),.string (aa s)] w (BH w tys root (aw tys root s)):=by
 have hF:∀t∈tys,Tm.bg t∧Tm.Its.sz t.items≤100000:=hT.eE;obtain⟨n,hn⟩:∃n,n=tys.length:=⟨_,rfl⟩;have hRD:=fU tys root s w B cap B a vs hT.own hT.enc hF hT.few hT.chain hr (by omega);have HDN:Hid (∀X d Bn bl v,Below w.heap.size w X→aw tys root s=some d→NdV X Bn bl d v→Calls Tryz.prog 34 #[.agg #[.slice a n cap],.string (aa root),v] X (mY X (Fx.bH Fx.bE tys.reverse root d))):=hid (fun X d Bn bl v hX hd hv=>by
  obtain⟨d1,d2,d3⟩:=dL hT hs hd;rw[hn];exact kI tys root s d X B cap Bn a vs v bl (hT.up hX) hr hv d1 (by omega) d3)
 obtain⟨o,ho⟩:∃o,o=aw tys root s:=⟨_,rfl⟩;rw[← ho]at hRD HDN⊢;rw[← hn]at hRD⊢;have HRD:=hid hRD;clear hT hr hs hF hRD ho hn;go_enter Tryz.func12,Tryz.ntmps12;go_wp2_with fail;refine HRD.out.mono ?_;unfold gU;rintro e w2 ⟨hb2,hv2⟩;have HB2:=hid hb2;cases o with
 |none=>
  obtain⟨ty,vv,rfl⟩:=hv2;clear hb2;go_wp2_with fail;go_ret2;exact⟨HB2.out.alloc HB2.out.size _,ty,vv,rfl⟩
 |some d=>
  obtain⟨v2,bl2,rfl,hnd2,hnp2⟩:=hv2;obtain⟨g2,cc2,hve⟩:=hnd2.cells;subst hve;obtain⟨ml,hml⟩:∃ml,ml=d.kids.len:=⟨_,rfl⟩;rw[← hml]at hnd2⊢;obtain⟨Q,hQ⟩:∃Q,Q=w2.alloc (.cells #[.string (aa d.name),.int .i64 (d.kind:Nat),.int .i64 (d.at_:Nat),.int .i64 (d.size:Nat),.int .i64 d.val,.string (aa d.text),.slice g2 ml cc2] 28):=⟨_,rfl⟩;have hbQ:Below w2.heap.size w2 Q:=by rw[hQ];exact(Y4 _ _).alloc (Z5 _) _
  have hq0:ae Q w2.heap.size 0 28 [.string (aa d.name),.int .i64 (d.kind:Nat),.int .i64 (d.at_:Nat),.int .i64 (d.size:Nat),.int .i64 d.val,.string (aa d.text),.slice g2 ml cc2]:=by rw[hQ];exact ae.new w2 _ _
  have hndQ:=hnd2.an (w':=Q) fun b hb=>hbQ.block b (hnd2.mem b hb).2
  have hbQw:Below w.heap.size w Q:=hb2.trans (hbQ.mono hb2.size);have HDQ:=hid (HDN.out Q d w.heap.size bl2 _ hbQw rfl hndQ);have c0:=hq0.cell0 0 (by simp);have c1:=hq0.cell0 1 (by simp);have c2:=hq0.cell0 2 (by simp);have c3:=hq0.cell0 3 (by simp);have c4:=hq0.cell0 4 (by simp);have c5:=hq0.cell0 5 (by simp);have c6:=hq0.cell0 6 (by simp);simp only[Z0,Z1]at c0 c1 c2 c3 c4 c5 c6;rw[hQ]at c0 c1 c2 c3 c4 c5 c6;have HQ:=hid hQ;have HBQ:=hid hbQw;clear hb2 hnd2 hnp2 hQ hbQ hq0 hndQ hbQw hml;go_wp2_with fail;rw[← HQ.out];refine HDQ.out.mono ?_;rintro e w3 ⟨hb3,hv3⟩;have HB3:=hid (HBQ.out.trans (hb3.mono HBQ.out.size));unfold BH;obtain⟨rr,hrr⟩:∃rr,rr=Fx.bH Fx.bE tys.reverse root d:=⟨_,rfl⟩;simp only[];rw[← hrr]at hv3⊢;have HE:=hid hrr;clear hrr hb3;cases rr with
  |ok u=>
   simp only[]at hv3⊢;subst hv3;go_wp2_with fail;go_ret2;refine⟨HB3.out,?_⟩;simp only[];rw[← HE.out];rfl
  |bad k=>
   simp only[]at hv3⊢;subst hv3;go_wp2_with fail;go_ret2;refine⟨HB3.out,?_⟩;simp only[];rw[← HE.out];rfl
noncomputable def jc(tys:List Tm.Ty)(root s:Tm.Wd)(d:Nd):Bool:=match Fx.dn Fx.bE tys.reverse root d.kids with
 |none=>false
 |some p=>Fx.wrT tys.reverse root {d with kids:=p}==some s
def An(w:World)(tys:List Tm.Ty)(root s:Tm.Wd)(o:Option Nd)(e:Ending)(w':World):Prop:=Below w.heap.size w w'∧match o with
 |none=>∃t v,e= .returned (.tuple #[.bool false,.iface t v])
 |some d=>e= .returned (.tuple #[.bool (jc tys root s d),.nilIface])
theorem rn(tys:List Tm.Ty)(root s:Tm.Wd)(w:World)(B cap:Nat)(a:Option Addr)(vs:List Value)(hT:TyF w B tys a cap vs)(hr:root.length≤200000000000000)(hs:s.length≤4000):
  Calls Tryz.prog 13 #[.slice a tys.length cap,.string (aa root),.string (aa s)] w (An w tys root s (aw tys root s)):=by
 have hF:∀t∈tys,Tm.bg t∧Tm.Its.sz t.items≤100000:=hT.eE;obtain⟨n,hn⟩:∃n,n=tys.length:=⟨_,rfl⟩;have hRD:=fU tys root s w B cap B a vs hT.own hT.enc hF hT.few hT.chain hr (by omega);have HFX:Hid (∀X d Bn bl v,Below w.heap.size w X→aw tys root s=some d→NdV X Bn bl d v→Calls Tryz.prog 35 #[.slice a n cap,.string (aa root),v] X (Gr X d (Fx.dn Fx.bE tys.reverse root d.kids))):=hid (fun X d Bn bl v hX hd hv=>by
  obtain⟨d1,d2,d3⟩:=dL hT hs hd;rw[hn];exact BE tys root s d X B cap Bn a vs v bl (hT.up hX) hr hv d1 (by omega) d3)
 have HPU:Hid (∀d p,aw tys root s=some d→Fx.dn Fx.bE tys.reverse root d.kids=some p→∃u,aX (wrS tys.reverse) (cm root) {d with kids:=p}=some u∧Nd.ok {d with kids:=p}∧Nd.tot {d with kids:=p}≤8000):=hid (fun d p hd hp=>by
  obtain⟨d1,d2,d3⟩:=dL hT hs hd;have hwd:(Fx.wrT tys.reverse root d).isSome=true:=by unfold Fx.wrT;rw[d3];rfl
  obtain⟨k1,k2,k3⟩:=Fx.cC hwd;have h1:=Fx.fQ tys.reverse hT.rk root d.kids p hp k1;have h2:=Fx.mW Fx.jb tys.reverse hT.rk root d.kids p hp k1 d1.2 (by unfold Nd.tot at d2;omega);obtain⟨u,hu⟩:=Option.isSome_iff_exists.1 h1;refine⟨u,?_,⟨d1.1,h2.1⟩,by unfold Nd.tot at d2⊢;simp only[];omega⟩;unfold aX;simp only[];rw[if_neg (by rw[not_or];exact⟨fun h=>h k2,fun h=>h k3⟩)];exact hu)
 have HWR:Hid (∀X (d:Nd) u Bq bq v,Below w.heap.size w X→aX (wrS tys.reverse) (cm root) d=some u→d.ok→d.tot≤8000→NdV X Bq bq d v→Calls Tryz.prog 10 #[.slice a n cap,.string (aa root),v] X fun e w'=>Below X.heap.size X w'∧e= .returned (.tuple #[.string (aa u),.nilIface])):=hid (fun X d u Bq bq v hX hu ho ht hnv=>by
  have h9:=hT.up hX;rw[hn];exact lG tys root u d X B cap B Bq a vs v bq h9.own h9.enc hF hT.few hT.chain hr hnv ho (by omega) hu)
 obtain⟨o,ho⟩:∃o,o=aw tys root s:=⟨_,rfl⟩;rw[← ho]at hRD HFX HPU⊢;rw[← hn]at hRD⊢;have HRD:=hid hRD;clear hT hr hs hF hRD ho hn;go_enter Tryz.func13,Tryz.ntmps13;go_wp2_with fail;refine HRD.out.mono ?_;unfold gU;rintro e w2 ⟨hb2,hv2⟩;have HB2:=hid hb2;cases o with
 |none=>
  obtain⟨ty,vv,rfl⟩:=hv2;clear hb2;go_wp2_with fail;go_ret2;exact⟨HB2.out.alloc HB2.out.size _,ty,vv,rfl⟩
 |some d=>
  obtain⟨v2,bl2,rfl,hnd2,hnp2⟩:=hv2;obtain⟨g2,cc2,hve⟩:=hnd2.cells;subst hve;obtain⟨ml,hml⟩:∃ml,ml=d.kids.len:=⟨_,rfl⟩;rw[← hml]at hnd2⊢;obtain⟨Q,hQ⟩:∃Q,Q=w2.alloc (.cells #[.string (aa d.name),.int .i64 (d.kind:Nat),.int .i64 (d.at_:Nat),.int .i64 (d.size:Nat),.int .i64 d.val,.string (aa d.text),.slice g2 ml cc2] 28):=⟨_,rfl⟩;have hbQ:Below w2.heap.size w2 Q:=by rw[hQ];exact(Y4 _ _).alloc (Z5 _) _
  have hq0:ae Q w2.heap.size 0 28 [.string (aa d.name),.int .i64 (d.kind:Nat),.int .i64 (d.at_:Nat),.int .i64 (d.size:Nat),.int .i64 d.val,.string (aa d.text),.slice g2 ml cc2]:=by rw[hQ];exact ae.new w2 _ _
  have hndQ:=hnd2.an (w':=Q) fun b hb=>hbQ.block b (hnd2.mem b hb).2
  have hbQw:Below w.heap.size w Q:=hb2.trans (hbQ.mono hb2.size);have hfq:=HFX.out Q d w.heap.size bl2 _ hbQw rfl hndQ;obtain⟨fo,hfo⟩:∃fo,fo=Fx.dn Fx.bE tys.reverse root d.kids:=⟨_,rfl⟩;rw[← hfo]at hfq;have HFQ:=hid hfq;have HFO:=hid hfo;have c0:=hq0.cell0 0 (by simp);have c1:=hq0.cell0 1 (by simp);have c2:=hq0.cell0 2 (by simp);have c3:=hq0.cell0 3 (by simp);have c4:=hq0.cell0 4 (by simp);have c5:=hq0.cell0 5 (by simp);have c6:=hq0.cell0 6 (by simp);simp only[Z0,Z1]at c0 c1 c2 c3 c4 c5 c6;rw[hQ]at c0 c1 c2 c3 c4 c5 c6;have HQ:=hid hQ;have HBQ:=hid hbQw;clear hb2 hnd2 hnp2 hQ hbQ hq0 hndQ hbQw hml hfq hfo;go_wp2_with fail;rw[← HQ.out];refine HFQ.out.mono ?_;rintro e w3 ⟨hb3,hv3⟩;have HB3:=hid (HBQ.out.trans (hb3.mono HBQ.out.size));cases fo with
  |none=>
   simp only[]at hv3;subst hv3;have HRB:=hid (show jc tys root s d=false by unfold jc;rw[← HFO.out]);clear hb3;go_wp2_with fail;go_ret2;refine⟨HB3.out.alloc HB3.out.size _,?_⟩;simp only[];rw[HRB.out];rfl
  |some p=>
   simp only[]at hv3;obtain⟨g3,cc3,bl3,vs3,rfl,hk3⟩:=hv3;obtain⟨u,hu,hpo,hpt⟩:=HPU.out d p rfl HFO.out.symm;obtain⟨mp,hmp⟩:∃mp,mp=p.len:=⟨_,rfl⟩;rw[← hmp];obtain⟨R,hR⟩:∃R,R=w3.alloc (.cells #[.string (aa d.name),.int .i64 (d.kind:Nat),.int .i64 (d.at_:Nat),.int .i64 (d.size:Nat),.int .i64 d.val,.string (aa d.text),.slice g3 mp cc3] 28):=⟨_,rfl⟩;have hbR:Below w3.heap.size w3 R:=by rw[hR];exact(Y4 _ _).alloc (Z5 _) _
   have hr0:ae R w3.heap.size 0 28 [.string (aa d.name),.int .i64 (d.kind:Nat),.int .i64 (d.at_:Nat),.int .i64 (d.size:Nat),.int .i64 d.val,.string (aa d.text),.slice g3 mp cc3]:=by rw[hR];exact ae.new w3 _ _
   have hbRw:Below w.heap.size w R:=HB3.out.trans (hbR.mono HB3.out.size);have hndR:NdV R Q.heap.size (aB g3++bl3) {d with kids:=p} (.agg #[.string (aa d.name),.int .i64 (d.kind:Nat),.int .i64 (d.at_:Nat),.int .i64 (d.size:Nat),.int .i64 d.val,.string (aa d.text),.slice g3 mp cc3]):=by
    have:=(hk3.an (w':=R) fun b h1 h2=>hbR.block b h2).nd d.name d.kind d.at_ d.size d.val d.text;rw[hmp];exact this
   have HWQ:=hid (HWR.out R {d with kids:=p} u Q.heap.size _ _ hbRw hu hpo hpt hndR);have HRB:=hid (show jc tys root s d=decide (u=s) by
    unfold jc;rw[← HFO.out];simp only[];have h7:Fx.wrT tys.reverse root {d with kids:=p}=some u:=hu;rw[h7]
    by_cases hus:u=s
    ·rw[hus,Z9 rfl,beq_self_eq_true]
    ·rw[Y9 hus,Z8];intro h8;injection h8 with h8
     exact hus h8)
   have h0:=hr0.cell0 0 (by simp);have h1:=hr0.cell0 1 (by simp);have h2:=hr0.cell0 2 (by simp);have h3:=hr0.cell0 3 (by simp);have h4:=hr0.cell0 4 (by simp);have h5:=hr0.cell0 5 (by simp);have h6:=hr0.cell0 6 (by simp);simp only[Z0,Z1]at h0 h1 h2 h3 h4 h5 h6;rw[hR]at h0 h1 h2 h3 h4 h5 h6;have HRR:=hid hR;have HBR:=hid hbRw;clear hb3 hk3 hu hpo hpt hR hbR hr0 hbRw hndR hmp;go_wp2_with fail;rw[← HRR.out];refine HWQ.out.mono ?_;rintro e w5 ⟨hb5,rfl⟩;have HB5:=hid (HBR.out.trans (hb5.mono HBR.out.size));clear hb5
   by_cases hus:u=s
   ·have x1:decide (u=s)=true:=Z9 hus;have x2:(u==s)=true:=beq_iff_eq.2 hus;have HX:=hid x1;clear hus;go_wp2_with fail;go_ret2;refine⟨HB5.out,?_⟩;simp only[];rw[HRB.out,HX.out]
    first|rfl|simp
   ·have x1:decide (u=s)=false:=Y9 hus;have x2:(u==s)=false:=Z8.2 hus;have HX:=hid x1;clear hus;go_wp2_with fail;go_ret2;refine⟨HB5.out,?_⟩;simp only[];rw[HRB.out,HX.out]
    first|rfl|simp
end
section
open Go.RowKit
section
variable{w w':World}{B:Nat}{e:TypeId}{size g off n cap:Nat}{xs:List Value}
end
theorem jd(b:Nat)(e:TypeId)(fz:Nat×Nat):∀(vs:List Value) (o:Nat) (w:World) (cur:Array Value),w.heap[b]? =some (.cells cur e fz)→o+vs.length≤cur.size→
  ∃cur',(w.setCells b o vs).heap[b]? =some (.cells cur' e fz)∧cur'.size=cur.size∧∀k,cur'[k]? =if o≤k∧k < o+vs.length then vs[k - o]? else cur[k]? :=by
 intro vs
 induction vs with
 |nil=>intro o w cur h _;exact⟨cur,h,rfl,fun k=>by rw[if_neg (by simp)]⟩
 |cons v vs ih=>
  intro o w cur h hf;rw[Z6]at hf;have h1:(w.setCell ⟨b,o,none⟩ v).heap[b]? =some (.cells (cur.setIfInBounds o v) e fz):=by simp[World.setCell,Array.getElem?_modify,h]
  obtain⟨cur',a1,a2,a3⟩:=ih (o+1) (w.setCell ⟨b,o,none⟩ v) _ h1 (by simp;omega);refine⟨cur',a1,by simpa using a2,fun k=> ?_⟩;rw[a3 k,Array.getElem?_setIfInBounds,Z6]
  by_cases hk:o=k
  ·subst hk;rw[if_neg (by omega),if_pos rfl,if_pos (by omega),if_pos (by omega),Nat.sub_self];rfl
  ·rw[if_neg hk]
   by_cases hk2:o+1≤k∧k < o+1+vs.length
   ·rw[if_pos hk2,if_pos (by omega),show k - o=(k - (o+1))+1 from by omega,List.getElem?_cons_succ]
   ·rw[if_neg hk2,if_neg (by omega)]
theorem dm(b:Nat):∀(vs:List Value) (o:Nat) (w:World),w.grownBy (w.setCells b o vs) (some b):=by
 intro vs
 induction vs with
 |nil=>intro o w;exact dS w _
 |cons v vs ih=>
  intro o w;have h1:w.grownBy (w.setCell ⟨b,o,none⟩ v) (some b):=jX (dS w _) rfl v;exact h1.trans (ih (o+1) _)
theorem lf(b:Nat):∀(vs:List Value) (o:Nat) (w:World),(w.setCells b o vs).heap.size=w.heap.size:=by
 intro vs
 induction vs with
 |nil=>intro o w;rfl
 |cons v vs ih=>intro o w;rw[World.setCells,ih];simp
end
section
open Go Go.RowKit
open Rd
open Ly
theorem vl(nm:Tm.Wd)(kd a sz:Nat)(v:Int)(tx:Tm.Wd)(sv:Value):(ab nm kd a sz v tx sv).length=7:=rfl
theorem aU.Gt{w:World}{B:Nat}:∀(k1:Nds) (d:Nd) (r:Nds) (bl:List Nat) (vs:List Value),aU w B (k1.app (d.put r)) bl vs→bl.Nodup→
  ∃g2 c2 b2 vs2,aM w B d.kids g2 c2 b2 vs2∧(∀x∈aB g2++b2,x∈bl)∧(vs.drop (k1.len * 7)).take 7=ab d.name d.kind d.at_ d.size d.val d.text (.slice g2 d.kids.len c2)∧
   ∀(w':World) (d':Nd) (g2':Option Addr) (c2':Nat) (b2':List Nat) (vs2':List Value),(∀b∈bl,b∉aB g2++b2→w'.heap[b]? =w.heap[b]?)→aM w' B d'.kids g2' c2' b2' vs2'→(∀b∈aB g2'++b2',b∈aB g2++b2∨w.heap.size≤b)→
    ∃bl',aU w' B (k1.app (d'.put r)) bl' (vs.take (k1.len * 7)++ab d'.name d'.kind d'.at_ d'.size d'.val d'.text (.slice g2' d'.kids.len c2')++vs.drop (k1.len * 7+7))∧bl'.Nodup∧∀b∈bl',b∈bl∨w.heap.size≤b
 | .nil,d,r,bl,vs,he,hn=>by
  obtain⟨ga,cap,bs,us,b1,b2,rfl,h1,h3,rfl,h5⟩:=he;have hnd:=List.nodup_append.1 hn;have hnd2:=List.nodup_append.1 hnd.2.1;refine⟨ga,cap,b1,bs,⟨h1,h3,lL hn⟩,fun x hx=> ?_,?_,fun w' d' g' c' b' vs' hk hv hs=> ?_⟩
  ·rcases List.mem_append.1 hx with h|h
   ·exact List.mem_append_left _ h
   ·exact List.mem_append_right _ (List.mem_append_left _ h)
  ·rw[Nds.len,Nat.zero_mul,List.drop_zero];rfl
  ·have hfar:∀b∈b2,b∉aB ga++b1:=fun b hb hx=>by
    rcases List.mem_append.1 hx with h|h
    ·exact hnd.2.2 b h b (List.mem_append_right _ hb) rfl
    ·exact hnd2.2.2 b h b hb rfl
   refine⟨aB g'++(b'++b2),⟨g',c',vs',us,b',b2,rfl,hv.own,hv.enc,?_,h5.an _ _ _ fun b hb=>hk b (List.mem_append_right _ (List.mem_append_right _ hb)) (hfar b hb)⟩,?_,fun b hb=> ?_⟩
   ·rw[Nds.len,Nat.zero_mul,List.take_zero,List.nil_append,Nat.zero_add];rfl
   ·rw[← List.append_assoc,List.nodup_append];refine⟨hv.nodup,hnd2.2.1,fun x hx y hy e=> ?_⟩;subst e;rcases hs x hx with h|h
    ·exact hfar x hy h
    ·have:=(h5.mem _ _ _ x hy).2;omega
   ·rw[← List.append_assoc]at hb;rcases List.mem_append.1 hb with h|h
    ·rcases hs b h with h2|h2
     ·left;rcases List.mem_append.1 h2 with h3|h3
      ·exact List.mem_append_left _ h3
      ·exact List.mem_append_right _ (List.mem_append_left _ h3)
     ·exact .inr h2
    ·exact .inl (List.mem_append_right _ (List.mem_append_right _ h))
 | .cons nm kd a sz v tx ks k1,d,r,bl,vs,he,hn=>by
  obtain⟨ga,cap,bs,us,b1,b2,rfl,h1,h3,rfl,h5⟩:=he;have hnd:=List.nodup_append.1 hn;have hnd2:=List.nodup_append.1 hnd.2.1;obtain⟨g2,c2,bb,vs2,i1,i2,i3,i4⟩:=aU.Gt k1 d r b2 us h5 hnd2.2.1;have e7:(k1.len+1) * 7=7+k1.len * 7:=by omega
  refine⟨g2,c2,bb,vs2,i1,fun x hx=>List.mem_append_right _ (List.mem_append_right _ (i2 x hx)),?_,fun w' d' g' c' b' vs' hk hv hs=> ?_⟩
  ·show((ab nm kd a sz v tx (.slice ga ks.len cap)++us).drop ((k1.len+1) * 7)).take 7=_;rw[e7,← List.drop_drop];exact i3
  ·obtain⟨bl',j1,j2,j3⟩:=i4 w' d' g' c' b' vs' (fun b hb hx=>hk b (List.mem_append_right _ (List.mem_append_right _ hb)) hx) hv hs;have k1':∀b∈aB ga++b1,b∉aB g2++bb:=fun b hb hx=>by
    have:=i2 b hx;rcases List.mem_append.1 hb with h|h
    ·exact hnd.2.2 b h b (List.mem_append_right _ this) rfl
    ·exact hnd2.2.2 b h b this rfl
   refine⟨aB ga++(b1++bl'),⟨ga,cap,bs,_,b1,bl',rfl,h1.an fun x hx=>hk _ (List.mem_append_left _ (by rw[hx];simp[aB])) (k1' _ (List.mem_append_left _ (by rw[hx];simp[aB]))),h3.an _ _ _ fun b hb=>hk b (List.mem_append_right _ (List.mem_append_left _ hb)) (k1' b (List.mem_append_right _ hb)),?_,j1⟩,?_,fun b hb=> ?_⟩
   ·show(ab nm kd a sz v tx (.slice ga ks.len cap)++us).take ((k1.len+1) * 7)++_++(ab nm kd a sz v tx (.slice ga ks.len cap)++us).drop ((k1.len+1) * 7+7)=_;rw[e7,show 7+k1.len * 7+7=7+(k1.len * 7+7) by omega,← List.drop_drop,List.take_add];show(ab nm kd a sz v tx (.slice ga ks.len cap)++us.take (k1.len * 7))++_++us.drop (k1.len * 7+7)=_;simp only[List.append_assoc]
   ·rw[← List.append_assoc,List.nodup_append];refine⟨lL hn,j2,fun x hx y hy e=> ?_⟩;subst e;rcases j3 x hy with h|h
    ·rcases List.mem_append.1 hx with h4|h4
     ·exact hnd.2.2 x h4 x (List.mem_append_right _ h) rfl
     ·exact hnd2.2.2 x h4 x h rfl
    ·rcases List.mem_append.1 hx with h4|h4
     ·obtain⟨y,rfl,rfl⟩:=gj h4;have:=h1.lt.2;omega
     ·have:=(h3.mem _ _ _ x h4).2;omega
   ·rw[← List.append_assoc]at hb;rcases List.mem_append.1 hb with h|h
    ·left;rcases List.mem_append.1 h with h4|h4
     ·exact List.mem_append_left _ h4
     ·exact List.mem_append_right _ (List.mem_append_left _ h4)
    ·rcases j3 b h with h4|h4
     ·exact .inl (List.mem_append_right _ (List.mem_append_right _ h4))
     ·exact .inr h4
def dX(w:World)(B nb:Nat)(d:Nd):Prop:=∃g c bl vs,ae w nb 0 28 (ab d.name d.kind d.at_ d.size d.val d.text (.slice g d.kids.len c))∧aM w B d.kids g c bl vs∧nb∉aB g++bl
theorem sr{w:World}{g off:Nat}{e:TypeId}:∀(xs:List Value),ae w g off e xs→(w.setCells g off xs).heap[g]? =w.heap[g]? :=by
 intro xs h;obtain⟨cur,fz,h1,h2,h3⟩:=h
 by_cases hl:xs=[]
 ·subst hl;rfl
 ·have hle:off+xs.length≤cur.size:=by
   have hp:0 < xs.length:=List.length_pos_iff.2 hl;have h4:=h2 (xs.length - 1) (by omega);have h5:(xs[xs.length - 1]?).isSome=true:=by simp;omega
   rw[← h4]at h5;have:=(Array.getElem?_eq_some_iff.1 (Option.isSome_iff_exists.1 h5).choose_spec).1;omega
  obtain⟨cur',a1,a2,a3⟩:=jd g e fz xs off w cur h1 hle;rw[a1,h1];have:cur'=cur:=by
   apply Array.ext_getElem?;intro k;rw[a3 k];split
   ·rename_i hk
    rw[← h2 (k - off) (by omega)]
    congr 1;omega
   ·rfl
  rw[this]
theorem rp{w w':World}{g off:Nat}{e:TypeId}{xs:List Value}(h:ae w g off e xs)(ys:List Value)(hl:ys.length=xs.length)(hg:w'.heap[g]? =(w.setCells g off ys).heap[g]?):ae w' g off e ys:=by
 obtain⟨cur,fz,h1,h2,h3⟩:=h
 by_cases hn:ys=[]
 ·subst hn;exact⟨cur,fz,hg.trans h1,by simp,by simp⟩
 ·have hle:off+ys.length≤cur.size:=by
   have hp:0 < ys.length:=List.length_pos_iff.2 hn;have h4:=h2 (xs.length - 1) (by omega);have h5:(xs[xs.length - 1]?).isSome=true:=by simp;omega
   rw[← h4]at h5;have:=(Array.getElem?_eq_some_iff.1 (Option.isSome_iff_exists.1 h5).choose_spec).1;omega
  obtain⟨cur',a1,a2,a3⟩:=jd g e fz ys off w cur h1 hle;refine⟨cur',fz,hg.trans a1,fun i hi=> ?_,fun i hi=>h3 i (by omega)⟩;rw[a3,if_pos (by omega)]
  congr 1;omega
structure Foc(w:World)(B nb:Nat)(root:Nd)(p:List Nat)(gn on:Nat)(x:Nd)(g:Option Addr)(c:Nat)(bl:List Nat)(vs:List Value):Prop where
 row:ae w gn on 28 (ab x.name x.kind x.at_ x.size x.val x.text (.slice g x.kids.len c))
 kv:aM w B x.kids g c bl vs
 off:gn∉aB g++bl
 get:Fx.bX p root=some x
 put:∀(w':World) (x':Nd) (g':Option Addr) (c':Nat) (bl':List Nat) (vs':List Value),w'.heap[gn]? =(w.setCells gn on (ab x'.name x'.kind x'.at_ x'.size x'.val x'.text (.slice g' x'.kids.len c'))).heap[gn]? →
  (∀b,b < w.heap.size→b≠gn→b∉aB g++bl→w'.heap[b]? =w.heap[b]?)→aM w' B x'.kids g' c' bl' vs'→(∀b∈aB g'++bl',b∈aB g++bl∨w.heap.size≤b)→dX w' B nb (Fx.cN (fun _=>x') p root)
 base:B≤gn∨gn=nb
theorem dX.foc{w:World}{B nb:Nat}{d:Nd}(h:dX w B nb d):∃g c bl vs,Foc w B nb d [] nb 0 d g c bl vs:=by
 obtain⟨g,c,bl,vs,h1,h2,h3⟩:=h;refine⟨g,c,bl,vs,h1,h2,h3,rfl,fun w' x' g' c' bl' vs' hg hk hv hs=>⟨g',c',bl',vs',rp h1 _ rfl hg,hv,fun hm=> ?_⟩,.inr rfl⟩;rcases hs nb hm with h|h
 ·exact h3 h
 ·have:=h1.lt;omega
namespace Fx
theorem tN(f:Nd→Nd)(k:Nat):∀(p:List Nat) (d x:Nd),bX p d=some x→cN f (p++[k]) d=cN (fun _=>{x with kids:=atN f k x.kids}) p d
 |[],d,x,h=>by cases h;rfl
 |j::p,d,x,h=>by
  have h2:(nth j d.kids).bind (bX p)=some x:=h;obtain⟨y,h3,h4⟩:=Option.bind_eq_some_iff.1 h2;show({d with kids:=atN (cN f (p++[k])) j d.kids}:Nd)={d with kids:=atN (cN (fun _=>{x with kids:=atN f k x.kids}) p) j d.kids}
  congr 1
  have:∀(j:Nat) (X:Nds),nth j X=some y→atN (cN f (p++[k])) j X=atN (cN (fun _=>{x with kids:=atN f k x.kids}) p) j X:=by
   intro j X
   induction j generalizing X with
   |zero=>
    cases X with
    |nil=>intro h;cases h
    |cons a b c e f' g x' r=>
     intro h;cases h;show(cN f (p++[k]) _).put r=(cN _ p _).put r;rw[tN f k p _ x h4]
   |succ j ih=>
    cases X with
    |nil=>intro h;cases h
    |cons a b c e f' g x' r=>
     intro h;show Nds.cons a b c e f' g x' (atN _ j r)=Nds.cons a b c e f' g x' (atN _ j r);rw[ih r h]
  exact this j d.kids h3
theorem fW(k:Nat):∀(p:List Nat) (d x:Nd),bX p d=some x→bX (p++[k]) d=nth k x.kids
 |[],d,x,h=>by
  cases h;show(nth k d.kids).bind (bX [])=_;cases nth k d.kids <;> rfl
 |j::p,d,x,h=>by
  have h2:(nth j d.kids).bind (bX p)=some x:=h;obtain⟨y,h3,h4⟩:=Option.bind_eq_some_iff.1 h2;show(nth j d.kids).bind (bX (p++[k]))=_;rw[h3];exact fW k p y x h4
theorem tP(k:Nat):∀(p q:List Nat) (d x:Nd),bX p d=some x→nth k x.kids=none→bX (p++k::q) d=none
 |[],q,d,x,h,hn=>by
  cases h;show(nth k d.kids).bind (bX q)=none;rw[hn];rfl
 |j::p,q,d,x,h,hn=>by
  have h2:(nth j d.kids).bind (bX p)=some x:=h;obtain⟨y,h3,h4⟩:=Option.bind_eq_some_iff.1 h2;show(nth j d.kids).bind (bX (p++k::q))=_;rw[h3];exact tP k p q y x h4 hn
theorem vm(k1:Nds)(d:Nd)(r:Nds):nth k1.len (k1.app (d.put r))=some d:=by
 induction k1 with
 |nil=>rfl
 |cons a b c e f g x k1 _ ih=>exact ih
theorem IY(f:Nd→Nd)(k1:Nds)(d:Nd)(r:Nds):atN f k1.len (k1.app (d.put r))=k1.app ((f d).put r):=by
 induction k1 with
 |nil=>rfl
 |cons a b c e g h x k1 _ ih=>
  show Nds.cons a b c e g h x (atN f k1.len (k1.app (d.put r)))=Nds.cons a b c e g h x (k1.app ((f d).put r));rw[ih]
theorem rq:∀(k:Nat) (X:Nds),k < X.len→∃(k1:Nds) (d:Nd) (r:Nds),X=k1.app (d.put r)∧k1.len=k
 |k,.nil,h=>absurd h (Nat.not_lt_zero _)
 |0,.cons a b c e f g x r,_=>⟨.nil,⟨a,b,c,e,f,g,x⟩,r,rfl,rfl⟩
 |k+1,.cons a b c e f g x r,h=>by
  obtain⟨k1,d,r',h1,h2⟩:=rq k r (by simp only[Nds.len]at h;omega);exact⟨.cons a b c e f g x k1,d,r',by rw[h1];rfl,by simp only[Nds.len,h2]⟩
end Fx
theorem Foc.down{w:World}{B nb gn on gb c:Nat}{root x:Nd}{p:List Nat}{bl:List Nat}{vs:List Value}{k1:Nds}{d:Nd}{r:Nds}(h:Foc w B nb root p gn on x (some ⟨gb,0,none⟩) c bl vs)(hx:x.kids=k1.app (d.put r)):
  ∃g2 c2 b2 vs2,Foc w B nb root (p++[k1.len]) gb (k1.len * 7) d g2 c2 b2 vs2:=by
 obtain⟨h1,h2,h3,h4,h5,h55⟩:=h;have hnd:=List.nodup_append.1 h2.nodup;have he:=h2.enc;rw[hx]at he;obtain⟨g2,c2,b2,vs2,i1,i2,i3,i4⟩:=aU.Gt k1 d r bl vs he hnd.2.1;have hgb:gb∉bl:=fun hb=>hnd.2.2 gb (by simp[aB]) gb hb rfl
 have hrow:=h2.own.row.2.2.2.2.part (k1.len * 7) 7;rw[Nat.zero_add,i3]at hrow;have hlen:k1.len < x.kids.len:=by
  rw[hx,Nds.bZ];show k1.len < k1.len+(r.len+1);omega
 have hvl:=h2.own.len;refine⟨g2,c2,b2,vs2,hrow,i1,fun hb=>hgb (i2 _ hb),by rw[Fx.fW _ p root x h4,hx];exact Fx.vm k1 d r,fun w' d' g' c' bl' vs' hg hk hv hs=> ?_,.inl h2.own.lt.1⟩;rw[Fx.tN _ _ p root x h4,hx,Fx.IY];obtain⟨bq,j1,j2,j3⟩:=i4 w' d' g' c' bl' vs' (fun b hb hn=>hk b (h2.enc.mem _ _ _ b hb).2 (fun e=>hgb (by rw[← e];exact hb)) hn) hv hs;have hgl:gb < w.heap.size:=h2.own.lt.2;have hown:ak w' B 28 7 (some ⟨gb,0,none⟩) x.kids.len c (vs.take (k1.len * 7)++ab d'.name d'.kind d'.at_ d'.size d'.val d'.text (.slice g' d'.kids.len c')++vs.drop (k1.len * 7+7)):=by
  have h6:=ak.setCells (ab d'.name d'.kind d'.at_ d'.size d'.val d'.text (.slice g' d'.kids.len c')) (k1.len * 7) w vs h2.own (by rw[hvl,vl];omega);rw[vl]at h6;exact h6.an fun y hy=>by cases hy;exact hg
 have hkv:aM w' B (k1.app (d'.put r)) (some ⟨gb,0,none⟩) c bq (vs.take (k1.len * 7)++ab d'.name d'.kind d'.at_ d'.size d'.val d'.text (.slice g' d'.kids.len c')++vs.drop (k1.len * 7+7)):=by
  refine⟨?_,j1,?_⟩
  ·have e:(k1.app (d'.put r)).len=x.kids.len:=by rw[hx,Nds.bZ,Nds.bZ];rfl
   rw[e];exact hown
  ·show(gb::bq).Nodup;rw[List.nodup_cons];refine⟨fun hb=> ?_,j2⟩;rcases j3 gb hb with h|h
   ·exact hgb h
   ·omega
 have hgn:gn≠gb:=fun e=>h3 (by rw[e];simp[aB])
 have hgnb:gn∉bl:=fun hb=>h3 (List.mem_append_right _ hb)
 refine h5 w' {x with kids:=k1.app (d'.put r)} (some ⟨gb,0,none⟩) c bq _ ?_ ?_ hkv ?_
 ·have e:(k1.app (d'.put r)).len=x.kids.len:=by rw[hx,Nds.bZ,Nds.bZ];rfl
  simp only[];rw[e,sr _ h1];exact hk gn h1.lt hgn (fun hb=>hgnb (i2 _ hb))
 ·intro b hb hbn hbm;exact hk b hb (fun e=>hbm (by rw[e];simp[aB])) (fun hb2=>hbm (List.mem_append_right _ (i2 _ hb2)))
 ·intro b hb;rcases List.mem_append.1 hb with h|h
  ·exact .inl (List.mem_append_left _ h)
  ·rcases j3 b h with h|h
   ·exact .inl (List.mem_append_right _ h)
   ·exact .inr h
namespace Fx
open Tm Ly
def Tdy:Nds→Prop
 | .nil=>True
 | .cons _ kd _ _ _ _ ks r=>(kd=1∨kd=2→ks= .nil)∧Tdy ks∧Tdy r
theorem Tdy.nth:∀{k:Nat} {X:Nds} {d:Nd},Tdy X→nth k X=some d→(d.kind=1∨d.kind=2→d.kids= .nil)∧Tdy d.kids
 |k,.nil,d,_,h=>by cases k <;> cases h
 |0,.cons a b c e f g x r,d,ht,h=>by cases h;exact⟨ht.1,ht.2.1⟩
 |k+1,.cons a b c e f g x r,d,ht,h=>Tdy.nth (k:=k) ht.2.2 h
theorem Ao:∀(r:List Ty) (nm:Wd) (ks:Nds),(wrS r nm ks).isSome=true→∃t∈r,t.name=nm∧∃r':List Ty,(∀x∈r',x∈r)∧(aF (wrS r') t.items ks).isSome=true∧∀p,itS r nm p=oX (itS r') t.items p
 |[],nm,ks,h=>by cases h
 |t::r,nm,ks,h=>by
  unfold wrS at h
  by_cases hn:t.name=nm
  ·rw[if_pos hn]at h;refine⟨t,by simp,hn,r,fun x hx=>by simp[hx],h,fun p=> ?_⟩;show(if t.name=nm then _ else _)=_;rw[if_pos hn]
  ·rw[if_neg hn]at h;obtain⟨t2,h1,h2,r',h3,h4,h5⟩:=Ao r nm ks h;refine⟨t2,by simp[h1],h2,r',fun x hx=>by simp[h3 x hx],h4,fun p=> ?_⟩;show(if t.name=nm then _ else _)=_;rw[if_neg hn];exact h5 p
theorem vn:∀(l:Its) (k:Nat) (h:Hd) (l':Its) (R:Itf) (p:List Nat),l.drop k= .cons h l'→oX R l (k::p)=hdI R h p
 | .nil,k,h,l',R,p,hd=>by cases k <;> cases hd
 | .cons h0 l,0,h,l',R,p,hd=>by cases hd;rfl
 | .when _ _ _ l,0,h,l',R,p,hd=>by cases hd
 | .cons h0 l,k+1,h,l',R,p,hd=>vn l k h l' R p hd
 | .when _ _ _ l,k+1,h,l',R,p,hd=>vn l k h l' R p hd
theorem vo:∀(l:Its) (k a:Nat) (c:Ex.X) (b l':Its) (R:Itf) (p:List Nat),l.drop k= .when a c b l'→oX R l (k::p)=oX R b p
 | .nil,k,a,c,b,l',R,p,hd=>by cases k <;> cases hd
 | .cons h0 l,0,a,c,b,l',R,p,hd=>by cases hd
 | .when _ _ _ l,0,a,c,b,l',R,p,hd=>by cases hd;rfl
 | .cons h0 l,k+1,a,c,b,l',R,p,hd=>vo l k a c b l' R p hd
 | .when _ _ _ l,k+1,a,c,b,l',R,p,hd=>vo l k a c b l' R p hd
theorem rv:∀(l:Its) (X:Nds) (k:Nat) (W:Wri) (d:Nd),(aF W l X).isSome=true→nth k X=some d→(∃h l',l.drop k= .cons h l'∧(aY W h d).isSome=true)∨∃a c b l',l.drop k= .when a c b l'∧d.kind=4∧(d.val≠0→(aF W b d.kids).isSome=true)∧(d.val=0→d.kids= .nil)
 |l,.nil,k,W,d,_,h=>by cases k <;> cases h
 | .nil,.cons ..,k,W,d,hw,_=>by cases hw
 | .cons h l,.cons a b c e f g x r,0,W,d,hw,hn=>by cases hn;exact .inl ⟨h,l,rfl,(bR hw).1⟩
 | .when a0 c0 b0 l,.cons a b c e f g x r,0,W,d,hw,hn=>by
  cases hn;have hb:b=4:=by
   unfold aF at hw;split at hw
   ·cases hw
   ·rename_i hno
    rw[not_or]at hno;exact Classical.not_not.1 hno.2
  exact .inr ⟨a0,c0,b0,l,rfl,hb,(bI hw).1,(bI hw).2.1⟩
 | .cons h l,.cons a b c e f g x r,k+1,W,d,hw,hn=>rv l r k W d (bR hw).2 hn
 | .when a0 c0 b0 l,.cons a b c e f g x r,k+1,W,d,hw,hn=>rv l r k W d (bI hw).2.2 hn
end Fx
theorem jS{w w':World}{g:Nat}:∀(xs:List Value) (o:Nat) (w w':World),w'.heap[g]? =w.heap[g]? →(w'.setCells g o xs).heap[g]? =(w.setCells g o xs).heap[g]?
 |[],o,w,w',h=>h
 |v::r,o,w,w',h=>jS (w:=w) (w':=w') r (o+1) _ _ (by simp[World.setCell,Array.getElem?_modify,h])
theorem Foc.up{w w1:World}{B nb gn on c:Nat}{root x:Nd}{p:List Nat}{g:Option Addr}{bl:List Nat}{vs:List Value}(h:Foc w B nb root p gn on x g c bl vs)(hb:Below w.heap.size w w1):Foc w1 B nb root p gn on x g c bl vs:=by
 refine⟨h.row.below hb h.row.lt,h.kv.an fun b _ hl=>hb.block b hl,h.off,h.get,fun w' x' g' c' bl' vs' hg hk hv hs=>h.put w' x' g' c' bl' vs' ?_ (fun b hbl hn hm=>(hk b (Nat.lt_of_lt_of_le hbl hb.size) hn hm).trans (hb.block b hbl)) hv (fun b hbm=>(hs b hbm).imp id (fun h2=>Nat.le_trans hb.size h2)),h.base⟩;rw[hg];exact jS (w:=w) (w':=w1) _ _ _ _ (hb.block gn h.row.lt)
inductive Cxt(U:World)(rb:Nat)(tys:List Tm.Ty)(root:Tm.Wd)(x:Nd)(q:List Nat)(lv xv:Value):Prop where
 |leaf (h:x.kids= .nil)
 |its (l:Tm.Its) (r:List Tm.Ty) (gi:Option Addr) (capi:Nat) (bs:List Value) (hlv:lv= .slice gi l.len capi) (hk:x.kind≠9) (hr:∀t∈r,t∈tys) (hw:(aF (wrS r) l x.kids).isSome=true) (ho:ak U (rb+1) 70 13 gi l.len capi bs) (he:Tm.bu U rb l bs)
   (hi:∀k p,Fx.itS tys.reverse root (q++k::p)=Fx.oX (Fx.itS r) l (k::p))
 |lst (h:Tm.Hd) (r:List Tm.Ty) (gx ox:Nat) (cv:Value) (hxv:xv= .pointer (some ⟨gx,ox,none⟩)) (hrow:ae U gx ox 70 (Tm.ag h cv)) (hk:x.kind=9) (hr:∀t∈r,t∈tys) (hw:(bc (aX (wrS r) h) x.kids).isSome=true)
   (hi:∀k p,Fx.itS tys.reverse root (q++k::p)=Fx.kO (Fx.itS r) h p)
inductive Itm(U:World)(tys:List Tm.Ty)(root:Tm.Wd)(x:Nd)(q:List Nat)(gx ox:Nat):Prop where
 |hd (h:Tm.Hd) (cv:Value) (hrow:ae U gx ox 70 (Tm.ag h cv)) (hi:Fx.itS tys.reverse root q=some h) (hk:x.kind=kNo h.k∨x.kind=9)
 |wh (ai:Nat) (cv sv:Value) (hrow:ae U gx ox 70 (Tm.au ai cv sv)) (hk:x.kind=4)
inductive Gu(U:World)(rb:Nat)(tys:List Tm.Ty)(root:Tm.Wd)(d:Nd)(q:List Nat)(gx ox:Nat):Prop where
 |wh (ai:Nat) (cv:Value) (gc:Option Addr) (nc cc:Nat) (hrow:ae U gx ox 70 (Tm.au ai cv (.slice gc nc cc))) (hc:Cxt U rb tys root d q (.slice gc nc cc) (.pointer (some ⟨gx,ox,none⟩)))
 |st (h:Tm.Hd) (cv:Value) (t:Tm.Ty) (hrow:ae U gx ox 70 (Tm.ag h cv)) (hk:h.k= .struct t.name) (hd:d.kind=3) (ht:t∈tys) (hc:∀gi capi bs,ak U (rb+1) 70 13 gi t.items.len capi bs→Tm.bu U rb t.items bs→Cxt U rb tys root d q (.slice gi t.items.len capi) (.pointer (some ⟨gx,ox,none⟩)))
 |no (h:Tm.Hd) (cv:Value) (hrow:ae U gx ox 70 (Tm.ag h cv)) (hk:(∀t,h.k≠.struct t)∨d.kind≠3) (hc:∀lv,Cxt U rb tys root d q lv (.pointer (some ⟨gx,ox,none⟩)))
theorem yk{U:World}{rb:Nat}{tys:List Tm.Ty}{root:Tm.Wd}{d:Nd}{q:List Nat}{gx ox:Nat}{h:Tm.Hd}{cv:Value}{r:List Tm.Ty}(hrow:ae U gx ox 70 (Tm.ag h cv))(hr:∀t∈r,t∈tys)(hw:(aX (wrS r) h d).isSome=true)(ht:d.kind=1∨d.kind=2→d.kids= .nil)(hi:∀p,Fx.itS tys.reverse root (q++p)=Fx.kO (Fx.itS r) h p):Gu U rb tys root d q gx ox∧d.kind=kNo h.k:=by
 obtain⟨u,hu⟩:=Option.isSome_iff_exists.1 hw;obtain⟨_,hkd,_⟩:=iB hu;refine⟨?_,hkd⟩;cases hk:h.k with
 |scalar w0=>exact .no h cv hrow (.inl fun t e=>by rw[hk]at e;cases e) fun lv=> .leaf (ht (.inl (by rw[hkd,hk];rfl)))
 |bytes=>exact .no h cv hrow (.inl fun t e=>by rw[hk]at e;cases e) fun lv=> .leaf (ht (.inr (by rw[hkd,hk];rfl)))
 |struct t0=>
  obtain⟨t,h1,rfl,r',h3,h4,h5⟩:=Fx.Ao r t0 d.kids (Fx.bj hk hw);have hd3:d.kind=3:=by rw[hkd,hk];rfl
  refine .st h cv t hrow hk hd3 (hr t h1) fun gi capi bs ho he=> .its t.items r' gi capi bs rfl (by omega) (fun x hx=>hr x (h3 x hx)) h4 ho he fun k p=> ?_
  rw[hi (k::p),← h5];show(match h.k with| .struct t=>Fx.itS r t (k::p)|_=>none)=_;rw[hk]
theorem IZ{U:World}{rb:Nat}{tys:List Tm.Ty}{root:Tm.Wd}{x d:Nd}{q:List Nat}{k gi capi:Nat}{bs:List Value}{l:Tm.Its}{r:List Tm.Ty}(hn:Fx.nth k x.kids=some d)(htd:(d.kind=1∨d.kind=2→d.kids= .nil))(hr:∀t∈r,t∈tys)(hw:(aF (wrS r) l x.kids).isSome=true)(ho:ak U (rb+1) 70 13 (some ⟨gi,0,none⟩) l.len capi bs)(he:Tm.bu U rb l bs)
  (hi:∀k p,Fx.itS tys.reverse root (q++k::p)=Fx.oX (Fx.itS r) l (k::p)):Gu U rb tys root d (q++[k]) gi (k * 13)∧Itm U tys root d (q++[k]) gi (k * 13):=by
 rcases Fx.rv l x.kids k (wrS r) d hw hn with⟨h,l',hd,hp⟩|⟨a,c,b,l',hd,hk4,hv1,hv0⟩
 ·obtain⟨cv,_,hrow,_⟩:=Tm.bu.hd ho he hd;have hi2:∀p,Fx.itS tys.reverse root (q++[k]++p)=Fx.hdI (Fx.itS r) h p:=fun p=>by
   rw[List.append_assoc];show Fx.itS tys.reverse root (q++k::p)=_;rw[hi k p,Fx.vn l k h l' _ p hd]
  have hi0:Fx.itS tys.reverse root (q++[k])=some h:=by have:=hi2 [];rw[List.append_nil]at this;exact this
  unfold aY at hp
  by_cases hm:Tm.cP h=true
  ·rw[if_pos hm]at hp;split at hp
   ·cases hp
   ·rename_i hno
    rw[not_or]at hno;have hk9:d.kind=9:=Classical.not_not.1 hno.2;refine⟨.no h cv hrow (.inr (by omega)) fun lv=> .lst h r gi (k * 13) cv rfl hrow hk9 hr hp fun k2 p=> ?_,.hd h cv hrow hi0 (.inr hk9)⟩;rw[hi2 (k2::p)];show(if Tm.cP h then Fx.kO (Fx.itS r) h p else _)=_;rw[if_pos hm]
  ·rw[if_neg hm]at hp;have h3:=yk (rb:=rb) (q:=q++[k]) hrow hr hp htd (fun p=>by
    rw[hi2 p];cases p with
    |nil=>rfl
    |cons k2 p=>
     show(if Tm.cP h then _ else Fx.kO (Fx.itS r) h (k2::p))=_;rw[if_neg hm])
   exact⟨h3.1,.hd h cv hrow hi0 (.inl h3.2)⟩
 ·obtain⟨cb,gc,capc,bsc,hxc,hoc,hec,hrow,_⟩:=Tm.bu.wh ho he hd;refine⟨.wh a _ gc b.len capc hrow ?_,.wh a _ _ hrow hk4⟩
  by_cases hv:d.val=0
  ·exact .leaf (hv0 hv)
  ·refine .its b r gc capc bsc rfl (by omega) hr (hv1 hv) hoc hec fun k2 p=> ?_
   rw[List.append_assoc];show Fx.itS tys.reverse root (q++k::(k2::p))=_;rw[hi k (k2::p),Fx.vo l k a c b l' _ _ hd]
theorem Ja{U:World}{rb:Nat}{tys:List Tm.Ty}{root:Tm.Wd}{x d:Nd}{q:List Nat}{k gx ox:Nat}{cv:Value}{h:Tm.Hd}{r:List Tm.Ty}(hn:Fx.nth k x.kids=some d)(htd:(d.kind=1∨d.kind=2→d.kids= .nil))(hrow:ae U gx ox 70 (Tm.ag h cv))(hr:∀t∈r,t∈tys)(hw:(bc (aX (wrS r) h) x.kids).isSome=true)
  (hi:∀k p,Fx.itS tys.reverse root (q++k::p)=Fx.kO (Fx.itS r) h p):Gu U rb tys root d (q++[k]) gx ox∧Itm U tys root d (q++[k]) gx ox:=by
 have hp:=Fx.xP k _ _ hw hn;have hi2:∀p,Fx.itS tys.reverse root (q++[k]++p)=Fx.kO (Fx.itS r) h p:=fun p=>by
  rw[List.append_assoc];exact hi k p
 have hi0:Fx.itS tys.reverse root (q++[k])=some h:=by have:=hi2 [];rw[List.append_nil]at this;exact this
 have h3:=yk (rb:=rb) (q:=q++[k]) hrow hr hp htd hi2;exact⟨h3.1,.hd h cv hrow hi0 (.inl h3.2)⟩
end
section
open Go.RowKit
def RdI(w:World)(a:Option Addr)(L:List Int):Prop:=∀i,i < L.length→∃x:Addr,a=some x∧x.block < w.heap.size∧w.cell? (x.add i)=some (.int .i64 (L.getD i 0))
theorem getD_take(L:List Int)(n i:Nat)(h:i < n):(L.take n).getD i 0=L.getD i 0:=by
 simp only[List.getD_eq_getElem?_getD,List.getElem?_take];rw[if_pos h]
theorem gW.rd{w:World}{a:Option Addr}{n c:Nat}{zs:List Int}(h:gW .i64 w a n c zs):RdI w a (zs.take n):=by
 intro i hi;rw[List.length_take]at hi;obtain⟨x,h1,h2,h3⟩:=h.cell i (by omega);exact⟨x,h1,h2,by rw[getD_take _ _ _ (by omega)];exact h3⟩
theorem gW.take_len{w:World}{a:Option Addr}{n c:Nat}{zs:List Int}(h:gW .i64 w a n c zs):(zs.take n).length=n:=by
 have:=h.len;rw[List.length_take];omega
theorem RdI.below{w w':World}{a:Option Addr}{L:List Int}(h:RdI w a L){B:Nat}(hb:Below B w w')(hB:w.heap.size≤B):RdI w' a L:=by
 intro i hi;obtain⟨x,h1,h2,h3⟩:=h i hi;refine⟨x,h1,Nat.lt_of_lt_of_le (Nat.lt_of_lt_of_le h2 (Z5 _)) hb.size,?_⟩;rw[World.cell?_of_block (w:=w) (w':=w') (a:=x.add i)]
 ·exact h3
 ·rw[Addr.cH];exact hb.block _ (Nat.lt_of_lt_of_le h2 hB)
theorem add_lit(b o i:Nat):(⟨b,o,none⟩:Addr).add i=⟨b,o+i,none⟩:=by
 unfold Addr.add;split <;> simp_all
theorem iH.rd{w:World}{a:Option Addr}{L:List Int}(h:iH w a L):RdI w a L:=by
 intro i hi;rcases h with h|⟨g,off,h1,hc⟩
 ·subst h;simp at hi
 ·refine⟨_,h1,?_,?_⟩
  ·have:=World.block_lt_of_cell? w _ (hc i hi);exact this
  ·rw[add_lit];exact hc i hi
end
end Go.Proofs.YtlomecfhobehnaaGreatDoor
