import Derived.Deep.AppendLies
import Derived.Test.YtlomecfhobehnaaGreatDoorMgFixDrops11
set_option linter.all false
set_option maxRecDepth 100000
set_option maxHeartbeats 1000000
namespace Go.Proofs.YtlomecfhobehnaaGreatDoor
open Lib (hid)
section
open Go Go.RowKit
open Rd
open Ly
theorem tc(w:World):(zeroValue 63).run Tryz.prog w= .ok (.slice none 0 0) w:=by kernel_rfl
theorem bV.look{U w:World}{rb fb:Nat}{A:List Tm.Ty}(h:bV U w rb fb A){t:Tm.Ty}(ht:t∈A)(hl:t.name.length≤100000):∃ga cap bs,ak U (rb+1) 70 13 ga t.items.len cap bs∧Tm.bu U rb t.items bs∧
  ∀W:World,W.heap[fb]? =w.heap[fb]? →(Instr.lookup 59 (.map (some fb)) (.string (aa t.name)) false).run Tryz.prog W= .ok (.slice ga t.items.len cap) W:=by
 obtain⟨n,G,h1,h2⟩:=h;obtain⟨ga,cap,bs,h3,h4,h5⟩:=h2.1 t ht;refine⟨ga,cap,bs,h4,h5,fun W hW=> ?_⟩;have:=(h1.an hW).look (Maps.string_keyed Tryz.underlying9) Tryz.underlying59 (tc W) (uC Tryz.underlying9 t.name (by omega)) (mi _);rw[h3]at this;exact this
theorem qt(A:List Tm.Ty)(S S':Sub)(s:Tm.Wd)(t:Tm.Ty)(ht:t∈A)(hS:∀st,S t.name st=(bO S' s t.items (fun _=>none) st).map fun p=>(p.1,p.2.2))(hI:sZ A S' s t.items)(htl:t.name.length≤100000)(b rb fb:Nat)(mv cv:Value)(g o:Nat)(st:St)(N:Ex.Names)(h:Tm.Hd)(U w:World)
  (hL0:LR w b (.map (some fb)) s st)(hU:Below U.heap.size U w)(hbU:U.heap.size≤b)(hfm:bV U w rb fb A)(hs:s.length≤1000000)(hk:h.k= .struct t.name)
  (hr:ae w g o 70 (Tm.ag h cv)):
  Calls Tryz.prog 30 #[.pointer (some ⟨b,0,none⟩),.pointer (some ⟨g,o,none⟩),mv] w (gp w b none (.map (some fb)) s st (bL S s N h st)):=by
 obtain⟨F,hF⟩:∃F,F=Value.map (some fb):=⟨_,rfl⟩;have hL:LR w b F s st:=by rw[hF];exact hL0
 have hg:g≠b:=by
  rintro rfl;exact absurd (hr.ty hL.row) (by decide)
 have hflt:=hfm.lt;have hfb:fb≠b:=hfm.ne hL.row;obtain⟨ga,cap,bs,hoi,hen,hlk⟩:=hfm.look ht htl;rw[← hF]at hlk⊢;have HF:=hid hF;have HU:=hid hU;have HFM:=hid hfm;clear hF hL0 hU hfm;have hglt:=hr.lt;have hblt:=hL.row.lt;obtain⟨W0,hW0⟩:∃W0,W0=w.alloc (.cells cM.toArray 28):=⟨_,rfl⟩;have hr0:ae W0 g o 70 (Tm.ag h cv):=by rw[hW0];exact hr.alloc _
 have hL0:LR W0 b F s st:=by rw[hW0];exact hL.an (Below.heap_alloc _ _ _ hblt)
 have c0:=hr0.cell 0 (by simp[Tm.aj]);have c2:=hr0.cell 2 (by simp[Tm.aj]);have hnd:=jx b F s (h.name) 3 g o st W0 hL0 hg c2;have c0':W0.cell? ⟨g,o,none⟩=some (.int .i64 3):=by
  have:=c0;simp only[Tm.ag,hk,Tm.aJ,Z0,Y2]at this;exact this
 have HND:=hid (show Calls Tryz.prog 60 #[.pointer (some ⟨b,0,none⟩),.pointer (some ⟨g,o,none⟩),.int .i64 3] W0 (fB W0 b F s (h.name) 3 st)from hnd);have HR0:=hid hr0;have HL:=hid hL;rw[hW0]at c0';have HW0:=hid hW0;clear hnd c0 c2 hr0 hL0 hr hL hW0;go_enter Tryz.func30,Tryz.ntmps30;go_wp2_with fail;rw[← HW0.out];refine HND.out.mono ?_;intro e w1 hno;unfold fB at hno;cases hn:nod st with
 |none=>
  rw[hn]at hno;obtain⟨hb1,t,v,he⟩:=hno;unfold bC at he;subst he;have HB1:=hid hb1;have ho:bL S s N h st=none:=by unfold bL;rw[hn];rfl
  rw[ho];clear hb1 ho hn;go_wp2_with fail;exact⟨rfl,mg HW0.out HB1.out hblt,t,v,rfl⟩
 |some st1=>
  rw[hn]at hno;obtain⟨hb1,he,hL1⟩:=hno;have he2:e= .returned (.agg #[.string (aa (h.name)),.int .i64 3,.int .i64 (st.at_:Nat),.int .i64 0,.int .i64 0,.string {data:= #[]},.slice none 0 0]):=he;subst he2;have hat:st1.at_=st.at_:=lx hn;have hbs:=BxS.start (m:=none) (nm:=h.name) (kd:=3) HL.out HW0.out hb1 hL1 (fun x e=>by cases e);have hbx:ae (w1.alloc (.cells #[.string {data:= #[]},.int .i64 0,.int .i64 0,.int .i64 0,.int .i64 0,.string {data:= #[]},.slice none 0 0] 28)) w1.heap.size 0 28 [.string {data:= #[]},.int .i64 0,.int .i64 0,.int .i64 0,.int .i64 0,.string {data:= #[]},.slice none 0 0]:=ae.new w1 28 #[.string {data:= #[]},.int .i64 0,.int .i64 0,.int .i64 0,.int .i64 0,.string {data:= #[]},.slice none 0 0];have y0:=hbx.cell0 0 (by simp);have z0:=hbx.frozen0 0 (by simp);have y1:=hbx.cell0 1 (by simp);have z1:=hbx.frozen0 1 (by simp);have y2:=hbx.cell0 2 (by simp);have z2:=hbx.frozen0 2 (by simp);have y3:=hbx.cell0 3 (by simp);have z3:=hbx.frozen0 3 (by simp);have y4:=hbx.cell0 4 (by simp);have z4:=hbx.frozen0 4 (by simp);have y5:=hbx.cell0 5 (by simp);have z5:=hbx.frozen0 5 (by simp);have y6:=hbx.cell0 6 (by simp);have z6:=hbx.frozen0 6 (by simp);simp only[Z0,Z1]at y0 y1 y2 y3 y4 y5 y6;have hg0:g < W0.heap.size:=HR0.out.lt;have hr1:ae w1 g o 70 (Tm.ag h cv):=HR0.out.of_heap (hb1.block g hg0 hg (fun e=>by cases e));obtain⟨V,hV⟩:∃V,V=w1.alloc (.cells #[.string (aa (h.name)),.int .i64 3,.int .i64 (st.at_:Nat),.int .i64 0,.int .i64 0,.string {data:= #[]},.slice none 0 0] 28):=⟨_,rfl⟩;have hr2:ae V g o 70 (Tm.ag h cv):=by rw[hV];exact hr1.alloc _
  have hbs2:BxS w V b w1.heap.size none F s st1 (ab (h.name) 3 st.at_ 0 0 [] (.slice none 0 0)):=by rw[hV];exact hbs
  have hgn:g≠w1.heap.size:=by have:=hr1.lt;omega
  have HR2:=hid hr2;have HBS:=hid hbs2;have HV:=hid hV;have k0:=hr2.cell 0 (by simp[Tm.aj]);have k3:=hr2.cell 3 (by simp[Tm.aj]);simp only[Tm.ag,hk,Tm.aJ,Tm.bw,Z0,Z1,Y2]at k0 k3;rw[hV]at k0;have q0:=hbs2.lr.row.cell0 0 (by simp);simp only[Z0]at q0;have hb0:But w W0 b none:=by rw[HW0.out];exact But.aA ((Y4 _ _).alloc (Z5 _) _)
  have hbV:But w1 V b none:=by rw[hV];exact But.aA ((Y4 _ _).alloc (Z5 _) _)
  have hbwV:But w V b none:=(hb0.trans hb1).trans hbV;have hfV:V.heap[fb]? =w.heap[fb]? :=hbwV.block fb hflt hfb (fun e=>by cases e);have hlk0:∀j,(Instr.lookup 59 F (.string (aa t.name)) false).run Tryz.prog (V.drewN j)= .ok (.slice ga t.items.len cap) (V.drewN j):=fun j=>hlk _ hfV
  have hmm:∀W:World,(Instr.makeMap 103 none).run Tryz.prog W= .ok (.map (some W.heap.size)) (W.alloc (.map #[] 0)):=fun W=>by kernel_rfl
  have hFV:bV U V rb fb A:=HFM.out.an hfV;have hUV:Below U.heap.size U V:=But.below HU.out hbs2.but HU.out.size hbU (fun x e=>by cases e);clear hlk0;have hn2:=oF hn;have hC:∀(W0:World) (k:Nat),k=W0.heap.size→BxS w W0 b w1.heap.size none F s st1 (ab h.name 3 st.at_ 0 0 [] (.slice none 0 0))→W0.heap[fb]? =V.heap[fb]? →
    Calls Tryz.prog 65 #[.pointer (some ⟨b,0,none⟩),.slice ga t.items.len cap,.map (some k)] (W0.alloc (.map #[] 0)) (uD (W0.alloc (.map #[] 0)) b k F s st1 (bO S' s t.items (fun _=>none) st1)):=by
   intro W0 k hk hB hfb0;subst hk;have hUW:Below U.heap.size U W0:=But.below HU.out hB.but HU.out.size hbU (fun x e=>by cases e);have hfl:fb < W0.heap.size:=by have:=hB.but.size;omega
   have hlr:LR (W0.alloc (.map #[] 0)) b (.map (some fb)) s st1:=by rw[← HF.out];exact hB.lr.an (Below.heap_alloc _ _ _ hB.lr.row.lt)
   have hE:RdE U (W0.alloc (.map #[] 0)) rb fb b W0.heap.size 0 A s (fun _=>none) st1:=⟨hUW.alloc hUW.size _,hbU,hUW.size,by omega,(hFV.an hfb0).an (Below.heap_alloc _ _ _ hfl),hlr,NmM.made W0,Nat.zero_le _⟩;have:=hI U _ rb fb b W0.heap.size 0 cap ga bs _ st1 hE hoi hen;rw[← HF.out]at this;exact this
  have HC:=hid hC;have HLK:=hid hlk;have HFV:=hid (show V.heap[fb]? =w.heap[fb]? from hfV);have hSS:∀W st' sv,BxS w W b w1.heap.size none F s st' [.string (aa h.name),.int .i64 ((3:Nat):Int),.int .i64 (st.at_:Nat),.int .i64 ((0:Nat):Int),.int .i64 0,.string (aa []),sv]→W.heap[fb]? =w.heap[fb]? →
    W.cell? ⟨b,0,none⟩=some F∧W.cell? ⟨g,o+3,none⟩=some (.string (aa t.name))∧(Instr.lookup 59 F (.string (aa t.name)) false).run Tryz.prog W= .ok (.slice ga t.items.len cap) W:=by
   intro W st' sv hB hf;have hrw:ae W0 g o 70 (Tm.ag h cv):=HR0.out;have hbW:ae W g o 70 (Tm.ag h cv):=by
    have h1:g < w.heap.size:=hglt;refine ae.of_heap (w:=W0) hrw ?_;rw[hB.but.block g h1 hg (fun e=>by cases e),HW0.out];exact(Below.heap_alloc _ _ _ h1).symm
   have c3:=hbW.cell 3 (by simp[Tm.aj]);simp only[Tm.ag,hk,Tm.bw,Z0,Z1]at c3;have c0:=hB.lr.row.cell0 0 (by simp);simp only[Z0]at c0;exact⟨c0,c3,HLK.out W hf⟩
  have HSS:=hid hSS;obtain⟨D,hD⟩:∃D,D=V.drew:=⟨_,rfl⟩;have hbD:BxS w D b w1.heap.size none F s st1 (ab h.name 3 st.at_ 0 0 [] (.slice none 0 0)):=by rw[hD];exact hbs2.drewN 1
  have hfD:D.heap[fb]? =w.heap[fb]? :=by rw[hD];exact hfV
  have hS1:=hSS D st1 (.slice none 0 0) hbD hfD;have hfE:(D.alloc (.map #[] 0)).heap[fb]? =w.heap[fb]? :=(Below.heap_alloc D _ fb (by have:=hbD.but.size;omega)).trans hfD;have hS2:=hSS (D.alloc (.map #[] 0)) st1 (.slice none 0 0) (hbD.up ((Y4 _ _).alloc (Z5 _) _)) hfE;have HS1:=hid hS1;have HS2:=hid hS2;have HBD:=hid hbD;have HFD:=hid (show D.heap[fb]? =V.heap[fb]? by rw[hD];rfl);have HFE:=hid hfE;have HD:=hid hD;rw[hV]at k3;clear q0 hlk hb1 hL1 he hbx hr1 hr2 hbs hbs2 hV hb0 hbV hbwV hfV hFV hUV hC hSS hn2 y0 y1 y2 y3 y4 y5 y6 z0 z1 z2 z3 z4 z5 z6 hS1 hS2 hD hbD hfD hfE;go_wp2_with fail;rw[← HV.out];refine wp_region_held_drew (S:=fun W:World=>W.cell? ⟨b,0,none⟩=some F∧W.cell? ⟨g,o+3,none⟩=some (.string (aa t.name))∧(Instr.lookup 59 F (.string (aa t.name)) false).run Tryz.prog W= .ok (.slice ga t.items.len cap) W) (by kernel_rfl) (by rw[← HD.out];exact HS1.out) (fun hHeld=> ?_);rw[← HD.out];clear hHeld;refine bQ (i:=0) (oi:=⟨some 22,_,_,_,_,_⟩) (d:=some 22) (v:= ?_) rfl rfl (by as_aux_lemma=>kernel_rfl) (by as_aux_lemma=>kernel_rfl) (by as_aux_lemma=>kernel_rfl) (fun _ _ _ h=>h) (Or.inl ⟨by rfl,?_⟩) (by first|exact HS1.out|exact HS2.out) ?_
  rotate_left
  ·(intro w hSw;obtain⟨s1,s2,s3⟩:=hSw;go_simp) <;> with_reducible rfl
  try dsimp only[Act.put]
  try simp only[Act.put,Z4,Z2,Z3]
  refine bQ (i:=1) (oi:=⟨some 23,_,_,_,_,_⟩) (d:=some 23) (v:= ?_) rfl rfl (by as_aux_lemma=>kernel_rfl) (by as_aux_lemma=>kernel_rfl) (by as_aux_lemma=>kernel_rfl) (fun _ _ _ h=>h) (Or.inl ⟨by rfl,?_⟩) (by first|exact HS1.out|exact HS2.out) ?_
  rotate_left
  ·(intro w hSw;obtain⟨s1,s2,s3⟩:=hSw;go_simp) <;> with_reducible rfl
  try dsimp only[Act.put]
  try simp only[Act.put,Z4,Z2,Z3]
  refine bQ (i:=2) (oi:=⟨some 24,_,_,_,_,_⟩) (d:=some 24) (v:= ?_) rfl rfl (by as_aux_lemma=>kernel_rfl) (by as_aux_lemma=>kernel_rfl) (by as_aux_lemma=>kernel_rfl) (fun _ _ _ h=>h) (Or.inl ⟨by rfl,?_⟩) (by first|exact HS1.out|exact HS2.out) ?_
  rotate_left
  ·(intro w hSw;obtain⟨s1,s2,s3⟩:=hSw;go_simp) <;> with_reducible rfl
  try dsimp only[Act.put]
  try simp only[Act.put,Z4,Z2,Z3]
  refine bQ (i:=3) (oi:=⟨some 25,_,_,_,_,_⟩) (d:=some 25) (v:= ?_) rfl rfl (by as_aux_lemma=>kernel_rfl) (by as_aux_lemma=>kernel_rfl) (by as_aux_lemma=>kernel_rfl) (fun _ _ _ h=>h) (Or.inl ⟨by rfl,?_⟩) (by first|exact HS1.out|exact HS2.out) ?_
  rotate_left
  ·(intro w hSw;obtain⟨s1,s2,s3⟩:=hSw;go_simp) <;> with_reducible rfl
  try dsimp only[Act.put]
  try simp only[Act.put,Z4,Z2,Z3]
  refine bQ (i:=5) (oi:=⟨some 27,_,_,_,_,_⟩) (d:=some 27) (v:= ?_) rfl rfl (by as_aux_lemma=>kernel_rfl) (by as_aux_lemma=>kernel_rfl) (by as_aux_lemma=>kernel_rfl) (fun _ _ _ h=>h) (Or.inl ⟨by rfl,?_⟩) (by first|exact HS1.out|exact HS2.out) ?_
  rotate_left
  ·(intro w hSw;obtain⟨s1,s2,s3⟩:=hSw;go_simp) <;> with_reducible rfl
  try dsimp only[Act.put]
  try simp only[Act.put,Z4,Z2,Z3]
  refine bQ (i:=6) (oi:=⟨some 28,_,_,_,_,_⟩) (d:=some 28) (v:= ?_) rfl rfl (by as_aux_lemma=>kernel_rfl) (by as_aux_lemma=>kernel_rfl) (by as_aux_lemma=>kernel_rfl) (fun _ _ _ h=>h) (Or.inl ⟨by rfl,?_⟩) (by first|exact HS1.out|exact HS2.out) ?_
  rotate_left
  ·(intro w hSw;obtain⟨s1,s2,s3⟩:=hSw;go_simp) <;> with_reducible rfl
  try dsimp only[Act.put]
  try simp only[Act.put,Z4,Z2,Z3]
  refine bQ (i:=7) (oi:=⟨some 29,_,_,_,_,_⟩) (d:=some 29) (v:= ?_) rfl rfl (by as_aux_lemma=>kernel_rfl) (by as_aux_lemma=>kernel_rfl) (by as_aux_lemma=>kernel_rfl) (fun _ _ _ h=>h) (Or.inl ⟨by rfl,?_⟩) (by first|exact HS1.out|exact HS2.out) ?_
  rotate_left
  ·(intro w hSw;obtain⟨s1,s2,s3⟩:=hSw;go_simp) <;> with_reducible rfl
  try dsimp only[Act.put]
  try simp only[Act.put,Z4,Z2,Z3]
  refine bQ (i:=4) (oi:=⟨some 26,_,_,_,_,_⟩) (d:=some 26) (v:= ?_) rfl rfl (by as_aux_lemma=>kernel_rfl) (by as_aux_lemma=>kernel_rfl) (by as_aux_lemma=>kernel_rfl) (fun _ _ _ h=>h) (Or.inl ⟨by rfl,?_⟩) (by first|exact HS1.out|exact HS2.out) ?_
  rotate_left
  ·(intro w hSw;obtain⟨s1,s2,s3⟩:=hSw;go_simp) <;> with_reducible rfl
  try dsimp only[Act.put]
  try simp only[Act.put,Z4,Z2,Z3]
  refine bQ (i:=8) (oi:=⟨some 30,_,_,_,_,_⟩) (d:=some 30) (v:= ?_) rfl rfl (by as_aux_lemma=>kernel_rfl) (by as_aux_lemma=>kernel_rfl) (by as_aux_lemma=>kernel_rfl) (fun _ _ _ h=>h) (Or.inl ⟨by rfl,?_⟩) (by first|exact HS1.out|exact HS2.out) ?_
  rotate_left
  ·(intro w hSw;obtain⟨s1,s2,s3⟩:=hSw;go_simp) <;> with_reducible rfl
  try dsimp only[Act.put]
  try simp only[Act.put,Z4,Z2,Z3]
  refine bQ (i:=9) (oi:=⟨some 31,_,_,_,_,_⟩) (d:=some 31) (v:= ?_) rfl rfl (by as_aux_lemma=>kernel_rfl) (by as_aux_lemma=>kernel_rfl) (by as_aux_lemma=>kernel_rfl) (fun _ _ _ h=>h) (Or.inl ⟨by rfl,?_⟩) (by first|exact HS1.out|exact HS2.out) ?_
  rotate_left
  ·(intro w hSw;obtain⟨s1,s2,s3⟩:=hSw;go_simp) <;> with_reducible rfl
  try dsimp only[Act.put]
  try simp only[Act.put,Z4,Z2,Z3]
  refine wpAnyH_ready (rs:=[10]) (by as_aux_lemma=>kernel_rfl) (by simp) ?_;refine AllReadyH.cons (o:=⟨some 32,_,_,_,_,_⟩) rfl (fun K hK=> ?_) AllReadyH.nil;go_simp;refine hK.out _ _ HS2.out (fun hHeld=> ?_);clear hHeld hK K;refine wpAnyH_ready (rs:=[11]) (by as_aux_lemma=>kernel_rfl) (by simp) ?_;refine AllReadyH.cons (o:=⟨some 33,_,_,_,_,_⟩) rfl (fun K hK=> ?_) AllReadyH.nil;go_simp;refine(HC.out D _ rfl HBD.out HFD.out).mono ?_;unfold uD;rintro e w4 ⟨hb4,hv⟩;have hbD4:But D w4 b none:=((But.aA ((Y4 D.heap.size D).alloc (Z5 _) (.map #[] 0))).trans hb4).fresh (Z5 _);have HB4:=hid hbD4;cases hi:bO S' s t.items (fun _=>none) st1 with
  |none=>
   rw[hi]at hv;obtain⟨t',v,he⟩:=hv;unfold bC at he;subst he;have ho:bL S s N h st=none:=by unfold bL;rw[hn,hk];simp only[Option.bind_some,hS,hi];rfl
   rw[ho];clear hb4 hbD4 ho hn hi;go_wp2_with fail;exact⟨rfl,HBD.out.but.trans HB4.out,t',v,rfl⟩
  |some p=>
   obtain⟨nds,N4,st2⟩:=p;rw[hi]at hv;obtain⟨⟨g4,c4,bl,vs,rfl,hk4⟩,hl4,hat2,n4,hN4,hn4⟩:=hv;have ho:bL S s N h st=some (⟨h.name,3,st.at_,st2.at_ - st.at_,0,[],nds⟩,st2):=by unfold bL;rw[hn,hk];simp only[Option.bind_some,hS,hi];rfl
   have HO:=hid ho;have hs4:=HBD.out.move hbD4 hl4;have hf4:w4.heap[fb]? =w.heap[fb]? :=(hb4.block fb (by have:=HBD.out.but.size;simp;omega) hfb (fun e=>by have:=HBD.out.but.size;injection e with e;omega)).trans HFE.out;have HS4:=hid (HSS.out w4 st2 _ hs4 hf4);have hlen:=hl4.len;have h5:=HBD.out.row.lt;have h6:=HBD.out.lt;have hmm:∀k:Nat,k≠w1.heap.size→k≠w.heap.size→∀(W X:World),W=w4.setCell ⟨w1.heap.size,6,none⟩ (.slice g4 nds.len c4)→(∀j:Nat,X.heap[j]? =W.heap[j]?)→∀(sz v0 v1 v2 v3 v4 v5 v6:Value),(st7 (X.setCell ⟨w1.heap.size,3,none⟩ sz) w.heap.size v0 v1 v2 v3 v4 v5 v6).heap[k]? =w4.heap[k]? :=by
    intro k k1 k2 W X hW hX sz v0 v1 v2 v3 v4 v5 v6;rw[dz _ _ _ _ _ _ _ k k2,Below.heap_setCell X ⟨w1.heap.size,3,none⟩ sz k k1,hX,hW];exact Below.heap_setCell _ _ _ _ k1
   have HMM:=hid hmm;have HK4:=hid hk4;have hDs:D.heap.size < (D.alloc (.map #[] 0)).heap.size:=by simp
   have HSB:=hid (show w.heap.size < (D.alloc (.map #[] 0)).heap.size∧w1.heap.size < (D.alloc (.map #[] 0)).heap.size from⟨by omega,by omega⟩);clear hDs;have d6:=(hs4.cell 6 (by simp[ab])).1;have e6:=(hs4.cell 6 (by simp[ab])).2;simp only[ab,Z0,Z1]at d6;have hs5:=hs4.set 6 (by simp[ab]) (.slice g4 nds.len c4);simp only[ab,Z2,Z3]at hs5;have HS5b:=hid hs5;have HS5c:=hid (HSS.out _ st2 _ hs5 ((Below.heap_setCell _ ⟨w1.heap.size,6,none⟩ _ fb (show fb≠w1.heap.size by have:=HBD.out.lt;omega)).trans hf4));have hatC:st1.at_≤st2.at_:=hat2.1;have hatD:st1.n+nds.len≤st2.n:=hat2.2;have HNX:=hid (show st.n < st2.n by have h1:=oF hn;omega);clear hatD;have hatA:st.at_≤st2.at_:=by omega
   have hatB:st2.at_≤s.length:=hlen;clear hatC hb4 hl4 hk4 hN4 hn4 hs4 hs5 ho hmm h5 h6 hlen hat hat2 hf4 hbD4;go_wp2_with fail;refine hK.out _ _ HS4.out (fun hHeld=> ?_);clear hHeld hK K
   try simp only[Act.put,Z4,Z2,Z3]
   refine bQ (i:=12) (oi:=⟨some 34,_,_,_,_,_⟩) (d:=some 34) (v:= ?_) rfl rfl (by as_aux_lemma=>kernel_rfl) (by as_aux_lemma=>kernel_rfl) (by as_aux_lemma=>kernel_rfl) (fun _ _ _ h=>h) (Or.inl ⟨by rfl,?_⟩) (by exact HS4.out) ?_
   rotate_left
   ·(intro w hSw;obtain⟨s1,s2,s3⟩:=hSw;go_simp) <;> with_reducible rfl
   try dsimp only[Act.put]
   try simp only[Act.put,Z4,Z2,Z3]
   refine wpAnyH_ready (rs:=[13]) (by as_aux_lemma=>kernel_rfl) (by simp) ?_;refine AllReadyH.cons (o:=⟨none,_,_,_,_,_⟩) rfl (fun K hK=> ?_) AllReadyH.nil;go_simp;refine hK.out _ _ HS5c.out (fun hHeld=> ?_);clear hHeld hK K;refine wpAnyH_done (by as_aux_lemma=>kernel_rfl) ?_ _;go_wp2_with fail;obtain⟨W,hW⟩:∃W,W=w4.setCell ⟨w1.heap.size,6,none⟩ (.slice g4 nds.len c4):=⟨_,rfl⟩;have hs5:BxS w W b w1.heap.size none F s st2 [.string (aa (h.name)),.int .i64 ((3:Nat):Int),.int .i64 (st.at_:Nat),.int .i64 ((0:Nat):Int),.int .i64 (0),.string (aa ([])),.slice g4 nds.len c4]:=by rw[hW];exact HS5b.out
   rw[← hW];have q2:=(hs5.cell 2 (by simp)).1;have q3:=(hs5.cell 3 (by simp)).1;have u3:=(hs5.cell 3 (by simp)).2;have qr:=hs5.lr.row.cell0 2 (by simp);simp only[Z0,Z1]at q2 q3 qr;have hsz:(st2.at_:Int) - (st.at_:Int)=((st2.at_ - st.at_:Nat):Int):=by omega
   have wq:wrap64 ((st2.at_:Int) - (st.at_:Int))=(st2.at_:Int) - (st.at_:Int):=IntWalk.wrap64_in _ ⟨by omega,by omega⟩;have HSZ:=hid hsz;have HS5:=hid hs5;have HWW:=hid hW;clear hsz hs5 hW;go_still_tail 8,(by kernel_rfl);change wpList _ _ _ _ _ W.drew;obtain⟨X,hX⟩:∃X,X=W.drew:=⟨_,rfl⟩;rw[← hX];have hs6:=HS5.out.drewN 1;rw[show W.drewN 1=X from hX.symm]at hs6;have y3:=(hs6.cell 3 (by simp)).1;have u3:=(hs6.cell 3 (by simp)).2;simp only[Z0,Z1]at y3;have hsX:=hs6.set 3 (by simp) (.int .i64 ((st2.at_:Int) - (st.at_:Int)));simp only[Z2,Z3]at hsX;have HSX:=hid hsX;have HXW:=hid (show ∀k:Nat,X.heap[k]? =W.heap[k]? from fun k=>by rw[hX];rfl);clear hX hs6 q2 q3 qr;have r0:=(hsX.cell 0 (by simp)).1;have r1:=(hsX.cell 1 (by simp)).1;have r2:=(hsX.cell 2 (by simp)).1;have r3:=(hsX.cell 3 (by simp)).1;have r4:=(hsX.cell 4 (by simp)).1;have r5:=(hsX.cell 5 (by simp)).1;have r6:=(hsX.cell 6 (by simp)).1;simp only[Z0,Z1]at r0 r1 r2 r3 r4 r5 r6;have x0:=hsX.res.cell0 0 (by simp);have v0:=hsX.res.frozen0 0 (by simp);have x1:=hsX.res.cell0 1 (by simp);have v1:=hsX.res.frozen0 1 (by simp);have x2:=hsX.res.cell0 2 (by simp);have v2:=hsX.res.frozen0 2 (by simp);have x3:=hsX.res.cell0 3 (by simp);have v3:=hsX.res.frozen0 3 (by simp);have x4:=hsX.res.cell0 4 (by simp);have v4:=hsX.res.frozen0 4 (by simp);have x5:=hsX.res.cell0 5 (by simp);have v5:=hsX.res.frozen0 5 (by simp);have x6:=hsX.res.cell0 6 (by simp);have v6:=hsX.res.frozen0 6 (by simp);simp only[Z0,Z1]at x0 x1 x2 x3 x4 x5 x6;clear hsX;go_wp2_with fail;clear r0 r1 r2 r3 r4 r5 r6;have p0:=HSX.out.res.ax 0 (by simp) (.string (aa (h.name)));have r0:=p0.cell0 0 (by simp);have p1:=p0.ax 1 (by simp) (.int .i64 3);have r1:=p1.cell0 1 (by simp);have p2:=p1.ax 2 (by simp) (.int .i64 (st.at_:Nat));have r2:=p2.cell0 2 (by simp);have p3:=p2.ax 3 (by simp) (.int .i64 ((st2.at_:Int) - (st.at_:Int)));have r3:=p3.cell0 3 (by simp);have p4:=p3.ax 4 (by simp) (.int .i64 (0));have r4:=p4.cell0 4 (by simp);have p5:=p4.ax 5 (by simp) (.string (aa ([])));have r5:=p5.cell0 5 (by simp);have p6:=p5.ax 6 (by simp) (.slice g4 nds.len c4);have r6:=p6.cell0 6 (by simp);simp only[Z2,Z3,Z0,Z1]at r0 r1 r2 r3 r4 r5 r6;have hfin:=HSX.out.result (.string (aa (h.name))) (.int .i64 3) (.int .i64 (st.at_:Nat)) (.int .i64 ((st2.at_:Int) - (st.at_:Int))) (.int .i64 (0)) (.string (aa ([]))) (.slice g4 nds.len c4);clear p0 p1 p2 p3 p4 p5 p6;refine bodyPost_ret (v:= .agg #[.string (aa (h.name)),.int .i64 3,.int .i64 (st.at_:Nat),.int .i64 ((st2.at_:Int) - (st.at_:Int)),.int .i64 (0),.string (aa ([])),.slice g4 nds.len c4]) (by simp[results,Tryz.results30,go_sem,r0,r1,r2,r3,r4,r5,r6];first|done|rfl) rfl ?_;refine⟨hfin.1,?_⟩;rw[HO.out];refine⟨⟨_,_,rfl,?_,HK4.out.nodup⟩,hfin.2.1,hatA,HNX.out⟩;rw[HSZ.out];exact((HK4.out.an (fun k h1 h2=>HMM.out k (by have:=HSB.out;omega) (by have:=HSB.out;omega) W X HWW.out HXW.out _ _ _ _ _ _ _ _)).low (Nat.le_of_lt HSB.out.1)).nd _ _ _ _ _ _
end
section
open Go.RowKit
theorem gw{P:Program}(w:World){ops:Array Oper}{o:Oper}{act:Act}{K:Act→World→Prop}{Q:Exit→Act→World→Prop}{E:Prop}(hgd:o.guard=none)(s x:Operand)(t:TypeId)
  (ho:o.op= .call {callee:= .builtin .append,args:= #[s,x],argTypes:= #[t,t]})
  (B:Nat)(e:TypeId)(z:Value)(size bytes:Nat)(ht:P.underlying t=some (.slice e))(hinf:(P.info? e).map (fun i=>(i.zero,i.size,i.bytes))=some (some z,size,bytes))(hzs:z.cells.size=size)(hsz:0 < size)
  (a:Option Addr)(n cap:Nat)(xs:List Value)(hs:act.eval s= .slice a n cap)(hown:ak w B e size a n cap xs)
  (g m c:Nat)(hm:0 < m)(news:List Value)(hl:news.length=m * size)(h1:∀u∈news,u.oneCell'=true)(hx:act.eval x= .slice (some ⟨g,0,none⟩) m c)(hrow:ae w g 0 e news)
  (h63:n+m≤maxLen)(hbytes:(n+m) * bytes≤140737488355328)(hbase:B≤w.heap.size)
  (h:∀a' cap' w',ak w' B e size a' (n+m) cap' (xs++news)→w.grownBy w' (blk a)→(∀x,a'=some x→a=some x∨w.heap.size≤x.block)→(∃g,a'=some ⟨g,0,none⟩)→K (act.put o.dst (.slice a' (n+m) cap')) w'):
  if Region.wanted o (yielded ops act.tmps)=true then Oper.wp P o act w K Q else E:=by
 obtain⟨i,hi,hz,hsize,hby⟩:=info_parts hinf;have hnews:∀j u,news[j]? =some u→w.cell? ((⟨g,0,none⟩:Addr).add j)=some u:=by
  intro j u hj;have hadd:(⟨g,0,none⟩:Addr).add j=⟨g,j,none⟩:=by unfold Addr.add;split <;> simp_all
  rw[hadd];have hlt:j < news.length:=by
   rcases Nat.lt_or_ge j news.length with h|h
   ·exact h
   ·rw[List.getElem?_eq_none h]at hj;cases hj
  rw[hrow.cell0 j hlt,← hj,Y1 hlt]
 refine step_append_lies w hgd s x t ho B e i z size bytes ht hi hz hsize hby hzs hsz (.slice a n cap) n xs hs hown ⟨g,0,none⟩ m c news hx hl hnews h1 hm h63 hbytes hbase _ rfl ?_;intro gg cap' w' hown' hgrow hat hlt;refine h (some ⟨gg,0,none⟩) cap' w' hown' ?_ ?_ ⟨gg,rfl⟩
 ·rw[bF]at hgrow;exact hgrow
 ·intro y hy;cases hy;rcases hat with hloc|hloc
  ·left;rw[bF]at hloc;cases ha:a with
   |none=>rw[ha]at hloc;simp[blk]at hloc
   |some y=>
    rw[ha]at hloc;subst ha;have hr:=ak.row hown;simp[blk]at hloc;rw[hr.1,hloc]
  ·right;show w.heap.size≤gg;omega
theorem Fl{P:Program}{ops:Array Oper}{act:Act}{w:World}{K:Act→World→Prop}{Q:Exit→Act→World→Prop}{E:Prop}{d:Option Nat}{s x:Operand}{t ty:TypeId}{pos:String}{af:Array Edge}{gd:Option (Tmp×Bool)}
  (h:if Region.wanted ⟨d,.call {callee:= .builtin .append,args:= #[s,x],argTypes:= #[t,t]},ty,pos,af,gd⟩ (yielded ops act.tmps)=true then Oper.wp P ⟨d,.call {callee:= .builtin .append,args:= #[s,x],argTypes:= #[t,t]},ty,pos,af,gd⟩ act w K Q else E):
  if Region.wanted ⟨d,.call {callee:= .builtin .append,args:= #[s,x],argTypes:= #[t,t]},ty,pos,af,gd⟩ (yielded ops act.tmps)=true then Oper.wp P ⟨d,.call {callee:= .builtin .append,args:= #[s,x],argTypes:= #[t,t]},ty,pos,af,gd⟩ act w K Q else E:=h
end
section
open Go Go.RowKit
open Rd
open Ly
theorem BxS.grow{w0 w w':World}{b nb:Nat}{m:Option Nat}{F:Value}{s:Tm.Wd}{st:St}{cs:List Value}(h:BxS w0 w b nb m F s st cs){ga:Option Addr}(hg:w.grownBy w' (blk ga))(hga:∀x,ga=some x→nb < x.block):BxS w0 w' b nb m F s st cs:=by
 have h1:=h.but.size;have h2:=h.blt;have h3:=h.lt;have k:∀g,g < w.heap.size→g≤nb→w'.heap[g]? =w.heap[g]? :=fun g hg1 h4=>hg.block g hg1 (fun e=>by
  cases ha:ga with
  |none=>rw[ha]at e;simp[blk]at e
  |some x=>rw[ha]at e;simp only[blk,Option.map_some]at e;injection e with e;have:=hga x ha;omega)
 refine⟨⟨hg.os.trans h.but.os,hg.tape.trans h.but.tape,hg.output.trans h.but.output,Nat.le_trans h1 hg.size,fun g hg1 h4 h5=>(k g (by omega) (by omega)).trans (h.but.block g hg1 h4 h5)⟩,h.res.of_heap (k _ h.res.lt (by omega)),h.row.of_heap (k _ h.row.lt (Z5 _)),h3,h.lr.an (k b (by omega) (by omega)),h2,h.mlt⟩
namespace Ly
open Tm
theorem Fm{f:St→Option (Nd×St)}{k:Nat}{st st2:St}{d:Nd}(h:f st=some (d,st2)):rep f (k+1) st=(rep f k st2).map fun q=>(d.put q.1,q.2):=by
 show(f st).bind _=_;rw[h];rfl
theorem Ba{f:St→Option (Nd×St)}{k:Nat}{st:St}(h:f st=none):rep f (k+1) st=none:=by
 show(f st).bind _=_;rw[h];rfl
theorem Bb(ks r:Nds)(d:Nd):(ks.app (d.put .nil)).app r=ks.app (d.put r):=by
 rw[Nds.dM];rfl
structure sf(w0 V w:World)(b nb:Nat)(F:Value)(s nm:Wd)(at_:Nat)(f:St→Option (Nd×St))(k i:Nat)(st1:St)(ks:Nds)(ga:Option Addr)(cap:Nat)(bl:List Nat)(vs:List Value)(st2:St):Prop where
 bx:BxS w0 w b nb none F s st2 [.string (aa nm),.int .i64 ((9:Nat):Int),.int .i64 (at_:Nat),.int .i64 ((0:Nat):Int),.int .i64 0,.string (aa []),.slice ga ks.len cap]
 kv:aM w V.heap.size ks ga cap bl vs
 sz:V.heap.size≤w.heap.size
 nb:nb < V.heap.size
 len:ks.len=i
 rep:rep f k st1=(rep f (k - i) st2).map fun q=>(ks.app q.1,q.2)
 at_:st1.at_≤st2.at_
 few:st1.n+i≤st2.n
theorem sf.drew{w0 V w:World}{b nb:Nat}{F:Value}{s nm:Wd}{at_:Nat}{f:St→Option (Nd×St)}{k i:Nat}{st1 st2:St}{ks:Nds}{ga:Option Addr}{cap:Nat}{bl:List Nat}{vs:List Value}(h:sf w0 V w b nb F s nm at_ f k i st1 ks ga cap bl vs st2):sf w0 V w.drew b nb F s nm at_ f k i st1 ks ga cap bl vs st2:=
 ⟨h.bx.drewN 1,h.kv.an (fun _ _ _=>rfl),h.sz,h.nb,h.len,h.rep,h.at_,h.few⟩
theorem sf.push{w0 V w w4 w5:World}{b nb:Nat}{F:Value}{s nm:Wd}{at_:Nat}{f:St→Option (Nd×St)}{k i:Nat}{st1 st2 st3:St}{ks:Nds}{ga ga':Option Addr}{cap cap':Nat}{bl b1:List Nat}{vs cs:List Value}{d:Nd}
  (h:sf w0 V w b nb F s nm at_ f k i st1 ks ga cap bl vs st2)(hi:i < k)(hf:f st2=some (d,st3))(hb:But w w4 b none)(hl:LR w4 b F s st3)(hd:NdV w4 w.heap.size b1 d (.agg cs.toArray))(hnd:b1.Nodup)(hat:st2.at_≤st3.at_)(hn:st2.n < st3.n)
  (ho:ak w5 V.heap.size 28 7 ga' (i+1) cap' (vs++cs))(hg:w4.grownBy w5 (blk ga))(hloc:∀x,ga'=some x→ga=some x∨w4.heap.size < x.block):
  sf w0 V (w5.setCell ⟨nb,6,none⟩ (.slice ga' (i+1) cap')) b nb F s nm at_ f k (i+1) st1 (ks.app (d.put .nil)) ga' cap' (bl++b1) (vs++cs) st3:=by
 have hlen:=h.len;have hnb:=h.nb;have hsz:=h.sz;have hbs:=hb.size;have hgs:=hg.size;have hblt:=h.bx.blt;have hlt:=h.bx.lt;have hbw:=h.bx.but.size;have hga:∀x,ga=some x→nb < x.block:=fun x hx=>by have:=h.kv.mem x.block (by rw[hx];simp[aB]);omega
 have hbx:=((h.bx.move hb hl).grow hg hga).set 6 (by simp) (.slice ga' (i+1) cap');simp only[Z2,Z3]at hbx;have hkv:=h.kv.push (w2:=w5) (fun g h1 h2=>hb.block g h2 (by omega) (fun e=>by cases e)) hd hnd hsz hbs (by rw[hlen];exact ho) hg hloc;have hl2:(ks.app (d.put .nil)).len=i+1:=by rw[Nds.bZ,hlen];rfl
 refine⟨by rw[hl2];exact hbx,hkv.an (fun g h1 _=>Below.heap_setCell _ _ _ _ (show g≠nb by omega)),by rw[World.size_setCell];omega,hnb,hl2,?_,by have:=h.at_;omega,by have:=h.few;omega⟩;rw[h.rep,show k - i=(k - (i+1))+1 by omega,Fm hf];cases Ly.rep f (k - (i+1)) st3 with
 |none=>rfl
 |some q=>show some (ks.app (d.put q.1),q.2)=some ((ks.app (d.put .nil)).app q.1,q.2);rw[Bb]
theorem ix{w0 V w:World}{b nb:Nat}{F:Value}{s nm:Wd}{at_:Nat}{f:St→Option (Nd×St)}{k i:Nat}{st1 st2:St}{ks:Nds}{ga:Option Addr}{cap:Nat}{bl:List Nat}{vs:List Value}(h:sf w0 V w b nb F s nm at_ f k i st1 ks ga cap bl vs st2):wrap64 ((i:Int)+1)=((i+1:Nat):Int):=by
 have h1:=h.few;have h2:=h.bx.lr.few;exact(IntWalk.wrap64_in _ ⟨by omega,by omega⟩).trans (by omega)
theorem mm{n:Nat}(h:n≤400):n+1≤maxLen∧(n+1) * 88≤140737488355328:=by
 refine⟨?_,by omega⟩;show n+1≤9223372036854775807;omega
end Ly
theorem de:(Tryz.prog.info? 28).map (fun i=>(i.zero,i.size,i.bytes))=some (some (.agg #[.string ByteArray.empty,.int .i64 0,.int .i64 0,.int .i64 0,.int .i64 0,.string ByteArray.empty,.slice none 0 0]),7,88):=by kernel_rfl
theorem Fo(b m n rb cb:Nat)(F:Value)(s:Tm.Wd)(g o:Nat)(st:St)(S:Sub)(N:Ex.Names)(h:Tm.Hd)(c:Ex.X)(U w:World)(hL:LR w b F s st)(hg:g≠b)(hs:s.length≤1000000)(hc:h.cnt=some c)
  (hf:Ex.kK Num.numOf Num.dec c)(hU:Below U.heap.size U w)(hbU:U.heap.size≤b)(hx:IsX U rb cb c)(hN:NmM w m n N)(hm:m≠b)
  (hr:ae w g o 70 (Tm.ag h (.pointer (some ⟨cb,0,none⟩))))
  (hone:∀w' st',But w w' b none→LR w' b F s st'→Calls Tryz.prog 30 #[.pointer (some ⟨b,0,none⟩),.pointer (some ⟨g,o,none⟩),.map (some m)] w' (gp w' b none F s st' (bL S s N h st'))):
  Calls Tryz.prog 95 #[.pointer (some ⟨b,0,none⟩),.pointer (some ⟨g,o,none⟩),.map (some m)] w (gp w b none F s st (iw S s N h st)):=by
 have HONE:=hid hone;clear hone;have hglt:=hr.lt;have hblt:=hL.row.lt;obtain⟨W0,hW0⟩:∃W0,W0=w.alloc (.cells cM.toArray 28):=⟨_,rfl⟩;have hr0:ae W0 g o 70 (Tm.ag h (.pointer (some ⟨cb,0,none⟩))):=by rw[hW0];exact hr.alloc _
 have hL0:LR W0 b F s st:=by rw[hW0];exact hL.an (Below.heap_alloc _ _ _ hblt)
 have c2:=hr0.cell 2 (by simp[Tm.aj]);have hnd:=jx b F s (h.name) 9 g o st W0 hL0 hg c2;have HND:=hid (show Calls Tryz.prog 60 #[.pointer (some ⟨b,0,none⟩),.pointer (some ⟨g,o,none⟩),.int .i64 9] W0 (fB W0 b F s (h.name) 9 st)from hnd);have HR0:=hid hr0;have HL:=hid hL;have HW0:=hid hW0;clear hnd c2 hr0 hL0 hr hL hW0;go_enter Tryz.func95,Tryz.ntmps95;go_wp2_with fail;rw[← HW0.out];refine HND.out.mono ?_;intro e w1 hno;unfold fB at hno;cases hn:nod st with
 |none=>
  rw[hn]at hno;obtain⟨hb1,t,v,he⟩:=hno;unfold bC at he;subst he;have HB1:=hid hb1;have ho:iw S s N h st=none:=by unfold iw;rw[hn];rfl
  rw[ho];clear hb1 ho hn;go_wp2_with fail;exact⟨rfl,mg HW0.out HB1.out hblt,t,v,rfl⟩
 |some st1=>
  rw[hn]at hno;obtain⟨hb1,he,hL1⟩:=hno;have he2:e= .returned (.agg #[.string (aa (h.name)),.int .i64 9,.int .i64 (st.at_:Nat),.int .i64 0,.int .i64 0,.string {data:= #[]},.slice none 0 0]):=he;subst he2;have hat:st1.at_=st.at_:=lx hn;have hbs:=BxS.start (m:=none) (nm:=h.name) (kd:=9) HL.out HW0.out hb1 hL1 (fun x e=>by cases e);have hbx:ae (w1.alloc (.cells #[.string {data:= #[]},.int .i64 0,.int .i64 0,.int .i64 0,.int .i64 0,.string {data:= #[]},.slice none 0 0] 28)) w1.heap.size 0 28 [.string {data:= #[]},.int .i64 0,.int .i64 0,.int .i64 0,.int .i64 0,.string {data:= #[]},.slice none 0 0]:=ae.new w1 28 #[.string {data:= #[]},.int .i64 0,.int .i64 0,.int .i64 0,.int .i64 0,.string {data:= #[]},.slice none 0 0];have y0:=hbx.cell0 0 (by simp);have z0:=hbx.frozen0 0 (by simp);have y1:=hbx.cell0 1 (by simp);have z1:=hbx.frozen0 1 (by simp);have y2:=hbx.cell0 2 (by simp);have z2:=hbx.frozen0 2 (by simp);have y3:=hbx.cell0 3 (by simp);have z3:=hbx.frozen0 3 (by simp);have y4:=hbx.cell0 4 (by simp);have z4:=hbx.frozen0 4 (by simp);have y5:=hbx.cell0 5 (by simp);have z5:=hbx.frozen0 5 (by simp);have y6:=hbx.cell0 6 (by simp);have z6:=hbx.frozen0 6 (by simp);simp only[Z0,Z1]at y0 y1 y2 y3 y4 y5 y6;have hg0:g < W0.heap.size:=HR0.out.lt;have hr1:ae w1 g o 70 (Tm.ag h (.pointer (some ⟨cb,0,none⟩))):=HR0.out.of_heap (hb1.block g hg0 hg (fun e=>by cases e));obtain⟨V,hV⟩:∃V,V=w1.alloc (.cells #[.string (aa (h.name)),.int .i64 9,.int .i64 (st.at_:Nat),.int .i64 0,.int .i64 0,.string {data:= #[]},.slice none 0 0] 28):=⟨_,rfl⟩;have hr2:ae V g o 70 (Tm.ag h (.pointer (some ⟨cb,0,none⟩))):=by rw[hV];exact hr1.alloc _
  have hbs2:BxS w V b w1.heap.size none F s st1 (ab (h.name) 9 st.at_ 0 0 [] (.slice none 0 0)):=by rw[hV];exact hbs
  have hgn:g≠w1.heap.size:=by have:=hr1.lt;omega
  have HR2:=hid hr2;have HBS:=hid hbs2;have HV:=hid hV;have k8:=hr2.cell 8 (by simp[Tm.aj]);simp only[Tm.ag,Z0,Z1,Y2]at k8;have hUV:Below U.heap.size U V:=But.below hU hbs2.but hU.size hbU (fun x e=>by cases e);have hNV:NmM V m n N:=hN.an (hbs2.but.block m hN.lt hm (fun e=>by cases e));obtain⟨kn,hNA⟩:=hNV.at_;have HNUM:=hid (ly V rb cb kn c _ N hNA (zo hx hUV) hf);have HRG:=hid (fun v=>Ex.vQ hNA.rng c hf v);rw[hV]at k8;clear hb1 hL1 he hbx hr1 hr2 hbs hbs2 hV hNA hNV hUV;go_wp2_with fail;rw[← HV.out];refine HNUM.out.mono ?_;unfold ql;rintro e w2 ⟨hb2,hv⟩;clear y0 y1 y2 y3 y4 y5 y6 z0 z1 z2 z3 z4 z5 z6 k8;have hs2:=HBS.out.up hb2;have HS2:=hid hs2;cases hev:Ex.ev N c with
  |none=>
   rw[hev]at hv;obtain⟨t,v,he⟩:=hv;unfold bC at he;subst he;have ho:iw S s N h st=none:=by unfold iw;rw[hn,hc];simp only[Option.bind_some,hev];rfl
   rw[ho];clear hb2 hs2 ho hn hev;go_wp2_with fail;exact⟨rfl,HS2.out.but,t,v,rfl⟩
  |some v=>
   rw[hev]at hv;have hv2:e= .returned (.int .i64 v):=hv;subst hv2;obtain⟨g1,g2⟩:=HRG.out v hev
   by_cases hneg:v < 0
   ·have d0:decide (v < 0)=true:=Z9 hneg;have ho:iw S s N h st=none:=by unfold iw;rw[hn,hc];simp only[Option.bind_some,hev,if_pos hneg]
    have HO:=hid ho;have HF:=hid (show Calls Tryz.prog 31 #[.pointer (some ⟨b,0,none⟩),.int .i64 3] w2 fun e w'=>oS e∧Below w2.heap.size w2 w' from km b 3 F s st1 w2 hs2.lr);clear hb2 hs2 ho hn hev hneg g1 g2 hv;go_wp2_with fail;refine HF.out.mono ?_;rintro e w3 ⟨⟨t,v',he⟩,hb⟩;unfold bC at he;subst he;have HB:=hid hb;clear hb;go_wp2_with fail;refine⟨rfl,HS2.out.but.trans (But.aA HB.out),?_⟩;rw[HO.out];exact⟨t,v',rfl⟩
   ·obtain⟨K,rfl⟩:∃K:Nat,v=(K:Int):=⟨v.toNat,by omega⟩;have d0:decide ((K:Int) < 0)=false:=Y9 hneg;have ho:iw S s N h st=(rep (bL S s N h) K st1).map fun p=>(⟨h.name,9,st.at_,p.2.at_ - st.at_,0,[],p.1⟩,p.2):=by
     unfold iw;rw[hn,hc];simp only[Option.bind_some,hev,if_neg hneg];rfl
    have HO:=hid ho;have h0:sf w w2 w2 b w1.heap.size F s h.name st.at_ (bL S s N h) K 0 st1 .nil none 0 [] [] st1:=
     ⟨hs2,aM.nil _ _,Z5 _,hs2.row.lt,rfl,by
      cases hq:rep (bL S s N h) K st1 with
      |none=>simp[hq]
      |some q=>simp[hq];rfl,Z5 _,by omega⟩
    have H0:=hid h0;have HKN:=hid (show(K:Int)≤9223372036854775807 from g2);have HN1:=hid (oF hn);clear h0 hs2 hb2 ho hn hev hneg g1 g2 hv;go_wp2_with fail;go_loopw [23] (fun v23 wr=>∃(i:Nat) (ks:Nds) (ga:Option Addr) (cap:Nat) (bl:List Nat) (vs:List Value) (st2:St),v23= .int .i64 (i:Nat)∧i≤K∧Hid (sf w w2 wr b w1.heap.size F s h.name st.at_ (bL S s N h) K i st1 ks ga cap bl vs st2)) (fun v23 _=>K - (intOf v23).toNat)
    case atStart=>exact⟨0,.nil,none,0,[],[],st1,rfl,Nat.zero_le _,H0⟩
    case round=>
     obtain⟨i,ks,ga,cap,bl,vs,st2,rfl,hiK,HM⟩:=hrel;clear H0;have hKb:=HKN.out
     by_cases hi:i < K
     ·have d1:decide ((i:Int) < (K:Int))=true:=Z9 (by omega);have d1n:decide (i < K)=true:=Z9 hi;have HI:=hid hi;clear hi hiK hKb;go_wp2_with fail;obtain⟨D,hD⟩:∃D,D=wr.drew:=⟨_,rfl⟩;have hm1:sf w w2 D b w1.heap.size F s h.name st.at_ (bL S s N h) K i st1 ks ga cap bl vs st2:=by rw[hD];exact HM.out.drew
      have c6:=(hm1.bx.cell 6 (by simp)).1;simp only[Z0,Z1]at c6;rw[hm1.len]at c6;have HMD:=hid hm1;have HC:=hid (HONE.out D st2 hm1.bx.but hm1.bx.lr);refine wp_region_any (by kernel_rfl) ?_
      try(change wpAny _ _ _ _ _ _ _ (World.drew _))
      rw[← hD];clear hD hm1;refine wpAny_take (i:=0) (v:= ?_) rfl (by kernel_rfl) (by kernel_rfl) (by kernel_rfl) (fun _ _ _ h=>h) (Or.inl ⟨by kernel_rfl,?_⟩) ?_
      rotate_left
      ·(intro w;go_simp) <;> with_reducible rfl
      try dsimp only[Act.put]
      try simp only[Act.put,Z4,Z2,Z3]
      refine wpAny_take (i:=2) (v:= ?_) rfl (by kernel_rfl) (by kernel_rfl) (by kernel_rfl) (fun _ _ _ h=>h) (Or.inl ⟨by kernel_rfl,?_⟩) ?_
      rotate_left
      ·(intro w;go_simp) <;> with_reducible rfl
      try dsimp only[Act.put]
      try simp only[Act.put,Z4,Z2,Z3]
      refine wpAny_take (i:=3) (v:= ?_) rfl (by kernel_rfl) (by kernel_rfl) (by kernel_rfl) (fun _ _ _ h=>h) (Or.inl ⟨by kernel_rfl,?_⟩) ?_
      rotate_left
      ·(intro w;go_simp) <;> with_reducible rfl
      try dsimp only[Act.put]
      try simp only[Act.put,Z4,Z2,Z3]
      refine wpAny_take (i:=4) (v:= ?_) rfl (by kernel_rfl) (by kernel_rfl) (by kernel_rfl) (fun _ _ _ h=>h) (Or.inl ⟨by kernel_rfl,?_⟩) ?_
      rotate_left
      ·(intro w;go_simp) <;> with_reducible rfl
      try dsimp only[Act.put]
      try simp only[Act.put,Z4,Z2,Z3]
      refine wpAny_ready (rs:=[1,5]) (by kernel_rfl) (by simp) ?_;refine AllReady.cons rfl (fun K2 hK=> ?_) (AllReady.cons rfl (fun K2 hK=> ?_) AllReady.nil)
      ·go_simp;refine hK _ _ ?_;clear hK K2
       try simp only[Act.put,Z4,Z2,Z3]
       refine wpAny_ready (rs:=[5]) (by kernel_rfl) (by simp) ?_;refine AllReady.cons rfl (fun K2 hK=> ?_) AllReady.nil;go_simp;refine HC.out.mono ?_;unfold gp;rintro e w4 ⟨hb4,hv⟩;cases hoh:bL S s N h st2 with
       |none=>
        rw[hoh]at hv;obtain⟨t,v,he⟩:=hv;unfold bC at he;subst he;have ho:iw S s N h st=none:=by
         rw[HO.out,HMD.out.rep,show K - i=(K - (i+1))+1 by have:=HI.out;omega,Ba hoh];rfl
        have HO2:=hid ho;have HB4:=hid hb4;clear hb4 ho hoh;go_wp2_with fail;refine⟨rfl,HMD.out.bx.but.trans HB4.out,?_⟩;rw[HO2.out];exact⟨t,v,rfl⟩
       |some p=>
        obtain⟨d,st3⟩:=p;rw[hoh]at hv;obtain⟨⟨v,b1,rfl,hd,hnd⟩,hl4,hat4,hn4⟩:=hv;obtain⟨g4,c4,rfl⟩:=hd.cells;have hat5:st2.at_≤st3.at_:=hat4;have hn5:st2.n < st3.n:=hn4;have hnb:=HMD.out.nb;have hsz:=HMD.out.sz;have hsz4:=hb4.size;have hblt:=HMD.out.bx.blt;have hlt:=HMD.out.bx.lt;have hown4:ak w4 w2.heap.size 28 7 ga i cap vs:=by
         have:=HMD.out.kv.own;rw[HMD.out.len]at this;exact this.an fun x hx=>hb4.block _ (this.gY x hx) (by have h9:=HMD.out.kv.mem x.block (by rw[hx];simp[aB]);omega) (fun e=>by cases e)
        have c6b:w4.cell? ⟨w1.heap.size,6,none⟩=some (.slice ga i cap):=(World.cell?_of_block (hb4.block w1.heap.size HMD.out.bx.row.lt (by omega) (fun e=>by cases e))).trans c6;have HB4:=hid hb4;have HD4:=hid hd;have HND:=hid hnd;have HL4:=hid hl4;have HAT:=hid hat5;have HNN:=hid hn5;have HOH:=hid hoh;have HO4:=hid hown4;have HSZ4:=hid (show w2.heap.size≤w4.heap.size by omega);have HB6:=hid c6b;have HNBB:=hid (show w1.heap.size < w4.heap.size by omega);clear hb4 hd hnd hl4 hat4 hn4 hat5 hn5 hoh hnb hsz hsz4 hblt hlt hown4;go_simp;refine hK _ _ ?_;clear hK K2
        try simp only[Act.put,Z4,Z2,Z3]
        refine wpAny_ready (rs:=[6]) (by kernel_rfl) (by simp) ?_;refine AllReady.cons rfl (fun K2 hK=> ?_) AllReady.nil;go_simp;have c6c:(w4.alloc (.cells ([.string (aa d.name),.int .i64 (d.kind:Nat),.int .i64 (d.at_:Nat),.int .i64 (d.size:Nat),.int .i64 d.val,.string (aa d.text),.slice g4 d.kids.len c4]).toArray 28)).cell? ⟨w1.heap.size,6,none⟩=some (.slice ga i cap):=(World.cell?_of_block (Below.heap_alloc _ _ _ HNBB.out)).trans HB6.out;refine hK _ _ ?_;clear hK K2
        try simp only[Act.put,Z4,Z2,Z3]
        refine wpAny_ready (rs:=[7]) (by kernel_rfl) (by simp) ?_;refine AllReady.cons rfl (fun K2 hK=> ?_) AllReady.nil;obtain⟨hs1,hs2⟩:=mm (show i≤400 by have h1:=HMD.out.few;have h2:=HMD.out.bx.lr.few;omega);refine gw _ (by rfl) _ _ 26 (by rfl) w2.heap.size 28 (.agg #[.string ByteArray.empty,.int .i64 0,.int .i64 0,.int .i64 0,.int .i64 0,.string ByteArray.empty,.slice none 0 0]) 7 88 Tryz.underlying26 de rfl (by decide) ga i cap vs (by rfl) (HO4.out.alloc _) w4.heap.size 1 1 (by decide) ([.string (aa d.name),.int .i64 (d.kind:Nat),.int .i64 (d.at_:Nat),.int .i64 (d.size:Nat),.int .i64 d.val,.string (aa d.text),.slice g4 d.kids.len c4]) rfl (by intro u hu;simp only[List.mem_cons,List.not_mem_nil,or_false]at hu;rcases hu with rfl|rfl|rfl|rfl|rfl|rfl|rfl <;> rfl) (by rfl) (ae.new w4 _ _) hs1 hs2 (by have:=HSZ4.out;simp;omega) ?_;intro ga' cap' w5 ho5 hg5 hl5 hex5;have hg45:w4.grownBy w5 (blk ga):=(World.grownBy_alloc w4 _ _).trans hg5;have hl55:∀x,ga'=some x→ga=some x∨w4.heap.size < x.block:=fun x hx=>(hl5 x hx).imp id (fun h=>by simp at h;omega)
        have hp:=HMD.out.push HI.out HOH.out HB4.out HL4.out HD4.out HND.out HAT.out HNN.out ho5 hg45 hl55;have HP:=hid hp;have hbx5:=((HMD.out.bx.move HB4.out HL4.out).grow hg45 (fun x hx=>by have h9:=HMD.out.kv.mem x.block (by rw[hx];simp[aB]);have h8:=HMD.out.nb;omega));have c65:=(hbx5.cell 6 (by simp)).1;have e65:=(hbx5.cell 6 (by simp)).2;simp only[Z0,Z1]at c65;clear ho5 hg5 hl5 hg45 hl55 hp hbx5 hs1 hs2;refine hK _ _ ?_;clear hK K2
        try simp only[Act.put,Z4,Z2,Z3]
        refine wpAny_take (i:=8) (v:= ?_) rfl (by kernel_rfl) (by kernel_rfl) (by kernel_rfl) (fun _ _ _ h=>h) (Or.inl ⟨by kernel_rfl,?_⟩) ?_
        rotate_left
        ·(intro w;go_simp) <;> with_reducible rfl
        try dsimp only[Act.put]
        try simp only[Act.put,Z4,Z2,Z3]
        refine wpAny_ready (rs:=[9]) (by kernel_rfl) (by simp) ?_;refine AllReady.cons rfl (fun K2 hK=> ?_) AllReady.nil;go_simp;refine hK _ _ ?_;clear hK K2
        try simp only[Act.put,Z4,Z2,Z3]
        refine wpAny_done (by kernel_rfl) ?_ _;go_wp2_with fail;go_roundw
        case rel=>exact⟨i+1,_,ga',cap',_,_,st3,by rw[ix HMD.out],by have:=HI.out;omega,HP⟩
        case measure=>rw[ix HMD.out];simp only[intOf];have:=HI.out;omega
      ·go_simp;refine HC.out.mono ?_;unfold gp;rintro e w4 ⟨hb4,hv⟩;cases hoh:bL S s N h st2 with
       |none=>
        rw[hoh]at hv;obtain⟨t,v,he⟩:=hv;unfold bC at he;subst he;have ho:iw S s N h st=none:=by
         rw[HO.out,HMD.out.rep,show K - i=(K - (i+1))+1 by have:=HI.out;omega,Ba hoh];rfl
        have HO2:=hid ho;have HB4:=hid hb4;clear hb4 ho hoh;go_wp2_with fail;refine⟨rfl,HMD.out.bx.but.trans HB4.out,?_⟩;rw[HO2.out];exact⟨t,v,rfl⟩
       |some p=>
        obtain⟨d,st3⟩:=p;rw[hoh]at hv;obtain⟨⟨v,b1,rfl,hd,hnd⟩,hl4,hat4,hn4⟩:=hv;obtain⟨g4,c4,rfl⟩:=hd.cells;have hat5:st2.at_≤st3.at_:=hat4;have hn5:st2.n < st3.n:=hn4;have hnb:=HMD.out.nb;have hsz:=HMD.out.sz;have hsz4:=hb4.size;have hblt:=HMD.out.bx.blt;have hlt:=HMD.out.bx.lt;have hown4:ak w4 w2.heap.size 28 7 ga i cap vs:=by
         have:=HMD.out.kv.own;rw[HMD.out.len]at this;exact this.an fun x hx=>hb4.block _ (this.gY x hx) (by have h9:=HMD.out.kv.mem x.block (by rw[hx];simp[aB]);omega) (fun e=>by cases e)
        have c6b:w4.cell? ⟨w1.heap.size,6,none⟩=some (.slice ga i cap):=(World.cell?_of_block (hb4.block w1.heap.size HMD.out.bx.row.lt (by omega) (fun e=>by cases e))).trans c6;have HB4:=hid hb4;have HD4:=hid hd;have HND:=hid hnd;have HL4:=hid hl4;have HAT:=hid hat5;have HNN:=hid hn5;have HOH:=hid hoh;have HO4:=hid hown4;have HSZ4:=hid (show w2.heap.size≤w4.heap.size by omega);have HB6:=hid c6b;have HNBB:=hid (show w1.heap.size < w4.heap.size by omega);clear hb4 hd hnd hl4 hat4 hn4 hat5 hn5 hoh hnb hsz hsz4 hblt hlt hown4;go_simp;refine hK _ _ ?_;clear hK K2
        try simp only[Act.put,Z4,Z2,Z3]
        refine wpAny_ready (rs:=[1,6]) (by kernel_rfl) (by simp) ?_;refine AllReady.cons rfl (fun K2 hK=> ?_) (AllReady.cons rfl (fun K2 hK=> ?_) AllReady.nil)
        ·go_simp;refine hK _ _ ?_;clear hK K2
         try simp only[Act.put,Z4,Z2,Z3]
         refine wpAny_ready (rs:=[6]) (by kernel_rfl) (by simp) ?_;refine AllReady.cons rfl (fun K2 hK=> ?_) AllReady.nil;go_simp;have c6c:(w4.alloc (.cells ([.string (aa d.name),.int .i64 (d.kind:Nat),.int .i64 (d.at_:Nat),.int .i64 (d.size:Nat),.int .i64 d.val,.string (aa d.text),.slice g4 d.kids.len c4]).toArray 28)).cell? ⟨w1.heap.size,6,none⟩=some (.slice ga i cap):=(World.cell?_of_block (Below.heap_alloc _ _ _ HNBB.out)).trans HB6.out;refine hK _ _ ?_;clear hK K2
         try simp only[Act.put,Z4,Z2,Z3]
         refine wpAny_ready (rs:=[7]) (by kernel_rfl) (by simp) ?_;refine AllReady.cons rfl (fun K2 hK=> ?_) AllReady.nil;obtain⟨hs1,hs2⟩:=mm (show i≤400 by have h1:=HMD.out.few;have h2:=HMD.out.bx.lr.few;omega);refine gw _ (by rfl) _ _ 26 (by rfl) w2.heap.size 28 (.agg #[.string ByteArray.empty,.int .i64 0,.int .i64 0,.int .i64 0,.int .i64 0,.string ByteArray.empty,.slice none 0 0]) 7 88 Tryz.underlying26 de rfl (by decide) ga i cap vs (by rfl) (HO4.out.alloc _) w4.heap.size 1 1 (by decide) ([.string (aa d.name),.int .i64 (d.kind:Nat),.int .i64 (d.at_:Nat),.int .i64 (d.size:Nat),.int .i64 d.val,.string (aa d.text),.slice g4 d.kids.len c4]) rfl (by intro u hu;simp only[List.mem_cons,List.not_mem_nil,or_false]at hu;rcases hu with rfl|rfl|rfl|rfl|rfl|rfl|rfl <;> rfl) (by rfl) (ae.new w4 _ _) hs1 hs2 (by have:=HSZ4.out;simp;omega) ?_;intro ga' cap' w5 ho5 hg5 hl5 hex5;have hg45:w4.grownBy w5 (blk ga):=(World.grownBy_alloc w4 _ _).trans hg5;have hl55:∀x,ga'=some x→ga=some x∨w4.heap.size < x.block:=fun x hx=>(hl5 x hx).imp id (fun h=>by simp at h;omega)
         have hp:=HMD.out.push HI.out HOH.out HB4.out HL4.out HD4.out HND.out HAT.out HNN.out ho5 hg45 hl55;have HP:=hid hp;have hbx5:=((HMD.out.bx.move HB4.out HL4.out).grow hg45 (fun x hx=>by have h9:=HMD.out.kv.mem x.block (by rw[hx];simp[aB]);have h8:=HMD.out.nb;omega));have c65:=(hbx5.cell 6 (by simp)).1;have e65:=(hbx5.cell 6 (by simp)).2;simp only[Z0,Z1]at c65;clear ho5 hg5 hl5 hg45 hl55 hp hbx5 hs1 hs2;refine hK _ _ ?_;clear hK K2
         try simp only[Act.put,Z4,Z2,Z3]
         refine wpAny_take (i:=8) (v:= ?_) rfl (by kernel_rfl) (by kernel_rfl) (by kernel_rfl) (fun _ _ _ h=>h) (Or.inl ⟨by kernel_rfl,?_⟩) ?_
         rotate_left
         ·(intro w;go_simp) <;> with_reducible rfl
         try dsimp only[Act.put]
         try simp only[Act.put,Z4,Z2,Z3]
         refine wpAny_ready (rs:=[9]) (by kernel_rfl) (by simp) ?_;refine AllReady.cons rfl (fun K2 hK=> ?_) AllReady.nil;go_simp;refine hK _ _ ?_;clear hK K2
         try simp only[Act.put,Z4,Z2,Z3]
         refine wpAny_done (by kernel_rfl) ?_ _;go_wp2_with fail;go_roundw
         case rel=>exact⟨i+1,_,ga',cap',_,_,st3,by rw[ix HMD.out],by have:=HI.out;omega,HP⟩
         case measure=>rw[ix HMD.out];simp only[intOf];have:=HI.out;omega
        ·go_simp;have c6c:(w4.alloc (.cells ([.string (aa d.name),.int .i64 (d.kind:Nat),.int .i64 (d.at_:Nat),.int .i64 (d.size:Nat),.int .i64 d.val,.string (aa d.text),.slice g4 d.kids.len c4]).toArray 28)).cell? ⟨w1.heap.size,6,none⟩=some (.slice ga i cap):=(World.cell?_of_block (Below.heap_alloc _ _ _ HNBB.out)).trans HB6.out;refine hK _ _ ?_;clear hK K2
         try simp only[Act.put,Z4,Z2,Z3]
         refine wpAny_ready (rs:=[1]) (by kernel_rfl) (by simp) ?_;refine AllReady.cons rfl (fun K2 hK=> ?_) AllReady.nil;go_simp;refine hK _ _ ?_;clear hK K2
         try simp only[Act.put,Z4,Z2,Z3]
         refine wpAny_ready (rs:=[7]) (by kernel_rfl) (by simp) ?_;refine AllReady.cons rfl (fun K2 hK=> ?_) AllReady.nil;obtain⟨hs1,hs2⟩:=mm (show i≤400 by have h1:=HMD.out.few;have h2:=HMD.out.bx.lr.few;omega);refine gw _ (by rfl) _ _ 26 (by rfl) w2.heap.size 28 (.agg #[.string ByteArray.empty,.int .i64 0,.int .i64 0,.int .i64 0,.int .i64 0,.string ByteArray.empty,.slice none 0 0]) 7 88 Tryz.underlying26 de rfl (by decide) ga i cap vs (by rfl) (HO4.out.alloc _) w4.heap.size 1 1 (by decide) ([.string (aa d.name),.int .i64 (d.kind:Nat),.int .i64 (d.at_:Nat),.int .i64 (d.size:Nat),.int .i64 d.val,.string (aa d.text),.slice g4 d.kids.len c4]) rfl (by intro u hu;simp only[List.mem_cons,List.not_mem_nil,or_false]at hu;rcases hu with rfl|rfl|rfl|rfl|rfl|rfl|rfl <;> rfl) (by rfl) (ae.new w4 _ _) hs1 hs2 (by have:=HSZ4.out;simp;omega) ?_;intro ga' cap' w5 ho5 hg5 hl5 hex5;have hg45:w4.grownBy w5 (blk ga):=(World.grownBy_alloc w4 _ _).trans hg5;have hl55:∀x,ga'=some x→ga=some x∨w4.heap.size < x.block:=fun x hx=>(hl5 x hx).imp id (fun h=>by simp at h;omega)
         have hp:=HMD.out.push HI.out HOH.out HB4.out HL4.out HD4.out HND.out HAT.out HNN.out ho5 hg45 hl55;have HP:=hid hp;have hbx5:=((HMD.out.bx.move HB4.out HL4.out).grow hg45 (fun x hx=>by have h9:=HMD.out.kv.mem x.block (by rw[hx];simp[aB]);have h8:=HMD.out.nb;omega));have c65:=(hbx5.cell 6 (by simp)).1;have e65:=(hbx5.cell 6 (by simp)).2;simp only[Z0,Z1]at c65;clear ho5 hg5 hl5 hg45 hl55 hp hbx5 hs1 hs2;refine hK _ _ ?_;clear hK K2
         try simp only[Act.put,Z4,Z2,Z3]
         refine wpAny_take (i:=8) (v:= ?_) rfl (by kernel_rfl) (by kernel_rfl) (by kernel_rfl) (fun _ _ _ h=>h) (Or.inl ⟨by kernel_rfl,?_⟩) ?_
         rotate_left
         ·(intro w;go_simp) <;> with_reducible rfl
         try dsimp only[Act.put]
         try simp only[Act.put,Z4,Z2,Z3]
         refine wpAny_ready (rs:=[9]) (by kernel_rfl) (by simp) ?_;refine AllReady.cons rfl (fun K2 hK=> ?_) AllReady.nil;go_simp;refine hK _ _ ?_;clear hK K2
         try simp only[Act.put,Z4,Z2,Z3]
         refine wpAny_done (by kernel_rfl) ?_ _;go_wp2_with fail;go_roundw
         case rel=>exact⟨i+1,_,ga',cap',_,_,st3,by rw[ix HMD.out],by have:=HI.out;omega,HP⟩
         case measure=>rw[ix HMD.out];simp only[intOf];have:=HI.out;omega
     ·have d1:decide ((i:Int) < (K:Int))=false:=Y9 (by omega);have d1n:decide (i < K)=false:=Y9 hi;have hiK2:i=K:=by omega
      have HI:=hid hiK2;clear hi hiK hiK2 hKb;have hML:=HM.out.len;have HML:=hid hML;have ho2:iw S s N h st=some (⟨h.name,9,st.at_,st2.at_ - st.at_,0,[],ks⟩,st2):=by
       rw[HO.out,HM.out.rep,HI.out,Nat.sub_self];show some ((⟨h.name,9,st.at_,st2.at_ - st.at_,0,[],ks.app .nil⟩:Nd),st2)=_;rw[Nds.fe]
      have HO2:=hid ho2;have hatA:st.at_≤st2.at_:=by have:=HM.out.at_;omega
      have hatB:st2.at_≤s.length:=HM.out.bx.lr.len;have HNX:=hid (show st.n < st2.n by have h1:=HM.out.few;have h2:=HN1.out;omega);have HMX:=hid (show ∀k:Nat,w2.heap.size≤k→∀(W X:World),W=wr→(∀j:Nat,X.heap[j]? =W.heap[j]?)→∀(sz v0 v1 v2 v3 v4 v5 v6:Value),(st7 (X.setCell ⟨w1.heap.size,3,none⟩ sz) w.heap.size v0 v1 v2 v3 v4 v5 v6).heap[k]? =wr.heap[k]? from by
       intro k k1 W X hW hX sz v0 v1 v2 v3 v4 v5 v6;have hnb:=HM.out.nb;have hlt:=HM.out.bx.lt;rw[dz _ _ _ _ _ _ _ k (by omega),Below.heap_setCell X ⟨w1.heap.size,3,none⟩ sz k (show k≠w1.heap.size by omega),hX,hW])
      have HLW:=hid (show w.heap.size≤w2.heap.size by have hnb:=HM.out.nb;have hlt:=HM.out.bx.lt;omega);clear hML ho2 hat;go_wp2_with fail;obtain⟨W,hW⟩:∃W,W=wr:=⟨_,rfl⟩;have hs5:BxS w W b w1.heap.size none F s st2 [.string (aa (h.name)),.int .i64 ((9:Nat):Int),.int .i64 (st.at_:Nat),.int .i64 ((0:Nat):Int),.int .i64 (0),.string (aa ([])),.slice ga ks.len cap]:=by rw[hW];exact HM.out.bx
      rw[← hW];have q2:=(hs5.cell 2 (by simp)).1;have q3:=(hs5.cell 3 (by simp)).1;have u3:=(hs5.cell 3 (by simp)).2;have qr:=hs5.lr.row.cell0 2 (by simp);simp only[Z0,Z1]at q2 q3 qr;have hsz:(st2.at_:Int) - (st.at_:Int)=((st2.at_ - st.at_:Nat):Int):=by omega
      have wq:wrap64 ((st2.at_:Int) - (st.at_:Int))=(st2.at_:Int) - (st.at_:Int):=IntWalk.wrap64_in _ ⟨by omega,by omega⟩;have HSZ:=hid hsz;have HS5:=hid hs5;have HWW:=hid hW;clear hsz hs5 hW;go_still_tail 8,(by kernel_rfl);change wpList _ _ _ _ _ W.drew;obtain⟨X,hX⟩:∃X,X=W.drew:=⟨_,rfl⟩;rw[← hX];have hs6:=HS5.out.drewN 1;rw[show W.drewN 1=X from hX.symm]at hs6;have y3:=(hs6.cell 3 (by simp)).1;have u3:=(hs6.cell 3 (by simp)).2;simp only[Z0,Z1]at y3;have hsX:=hs6.set 3 (by simp) (.int .i64 ((st2.at_:Int) - (st.at_:Int)));simp only[Z2,Z3]at hsX;have HSX:=hid hsX;have HXW:=hid (show ∀k:Nat,X.heap[k]? =W.heap[k]? from fun k=>by rw[hX];rfl);clear hX hs6 q2 q3 qr;have r0:=(hsX.cell 0 (by simp)).1;have r1:=(hsX.cell 1 (by simp)).1;have r2:=(hsX.cell 2 (by simp)).1;have r3:=(hsX.cell 3 (by simp)).1;have r4:=(hsX.cell 4 (by simp)).1;have r5:=(hsX.cell 5 (by simp)).1;have r6:=(hsX.cell 6 (by simp)).1;simp only[Z0,Z1]at r0 r1 r2 r3 r4 r5 r6;have x0:=hsX.res.cell0 0 (by simp);have v0:=hsX.res.frozen0 0 (by simp);have x1:=hsX.res.cell0 1 (by simp);have v1:=hsX.res.frozen0 1 (by simp);have x2:=hsX.res.cell0 2 (by simp);have v2:=hsX.res.frozen0 2 (by simp);have x3:=hsX.res.cell0 3 (by simp);have v3:=hsX.res.frozen0 3 (by simp);have x4:=hsX.res.cell0 4 (by simp);have v4:=hsX.res.frozen0 4 (by simp);have x5:=hsX.res.cell0 5 (by simp);have v5:=hsX.res.frozen0 5 (by simp);have x6:=hsX.res.cell0 6 (by simp);have v6:=hsX.res.frozen0 6 (by simp);simp only[Z0,Z1]at x0 x1 x2 x3 x4 x5 x6;clear hsX;go_wp2_with fail;clear r0 r1 r2 r3 r4 r5 r6;have p0:=HSX.out.res.ax 0 (by simp) (.string (aa (h.name)));have r0:=p0.cell0 0 (by simp);have p1:=p0.ax 1 (by simp) (.int .i64 9);have r1:=p1.cell0 1 (by simp);have p2:=p1.ax 2 (by simp) (.int .i64 (st.at_:Nat));have r2:=p2.cell0 2 (by simp);have p3:=p2.ax 3 (by simp) (.int .i64 ((st2.at_:Int) - (st.at_:Int)));have r3:=p3.cell0 3 (by simp);have p4:=p3.ax 4 (by simp) (.int .i64 (0));have r4:=p4.cell0 4 (by simp);have p5:=p4.ax 5 (by simp) (.string (aa ([])));have r5:=p5.cell0 5 (by simp);have p6:=p5.ax 6 (by simp) (.slice ga ks.len cap);have r6:=p6.cell0 6 (by simp);simp only[Z2,Z3,Z0,Z1]at r0 r1 r2 r3 r4 r5 r6;have hfin:=HSX.out.result (.string (aa (h.name))) (.int .i64 9) (.int .i64 (st.at_:Nat)) (.int .i64 ((st2.at_:Int) - (st.at_:Int))) (.int .i64 (0)) (.string (aa ([]))) (.slice ga ks.len cap);clear p0 p1 p2 p3 p4 p5 p6;refine bodyPost_ret (v:= .agg #[.string (aa (h.name)),.int .i64 9,.int .i64 (st.at_:Nat),.int .i64 ((st2.at_:Int) - (st.at_:Int)),.int .i64 (0),.string (aa ([])),.slice ga ks.len cap]) (by simp[results,Tryz.results95,go_sem,r0,r1,r2,r3,r4,r5,r6];first|done|rfl) rfl ?_;refine⟨hfin.1,?_⟩;rw[HO2.out];refine⟨⟨_,_,rfl,?_,HM.out.kv.nodup⟩,hfin.2.1,hatA,HNX.out⟩;rw[HSZ.out];exact((HM.out.kv.an (fun k h1 h2=>HMX.out k h1 W X HWW.out HXW.out _ _ _ _ _ _ _ _)).low HLW.out).nd _ _ _ _ _ _
end
end Go.Proofs.YtlomecfhobehnaaGreatDoor
