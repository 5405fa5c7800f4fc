import Derived.Shelf.Strings.Repeat
import Derived.Shelf.Strings.BuilderCap
import Derived.Shelf.Slices.Turned
import Derived.Shelf.Slices.Clone
import Derived.Shelf.SlicesE.Clone
import Derived.Test.YtlomecfhobehnaaGreatDoorMgFixSets22
set_option linter.unusedVariables false
set_option linter.unusedSimpArgs false
set_option maxRecDepth 100000
set_option maxHeartbeats 4000000
namespace Go.Proofs.YtlomecfhobehnaaGreatDoor
open Lib (hid)
section
open Go Go.RowKit
open Rd
open Ly
theorem fh{n:Nat}(h:n≤400):n+1≤maxLen∧(n+1) * 88≤140737488355328:=lN h
theorem lT(h:Tm.Hd):Tm.ba h=Tm.cI h:=by unfold Tm.ba Tm.cI;cases h.k <;> cases h.cnt <;> rfl
theorem vo{h:Tm.Hd}(hm:Tm.ba h=true):∃c,h.cnt=some c:=by
 cases hc:h.cnt with
 |some c=>exact⟨c,rfl⟩
 |none=>unfold Tm.ba at hm;rw[hc]at hm;cases hk:h.k <;> rw[hk]at hm <;> cases hm
theorem om{h:Tm.Hd}(hm:Tm.ba h=true):Tm.single h=false:=by
 obtain⟨c,hc⟩:=vo hm;rw[Tm.eN,hc];cases h.k <;> rfl
theorem jR{w:Tm.Wd}(h:Tm.aN w=true):w.length≤12:=by
 unfold Tm.aN at h;simp only[Bool.and_eq_true,decide_eq_true_eq]at h;exact h.2
theorem yw{h:Tm.Hd}{wd:Tm.Wd}(hk:h.k= .scalar wd)(hm:Tm.ba h=false):Tm.single h=true:=by
 rw[Tm.eN,hk];unfold Tm.ba at hm;rw[hk]at hm;cases hc:h.cnt with
 |none=>rfl
 |some c=>rw[hc]at hm;cases hm
theorem rU{h:Tm.Hd}(hk:(match h.k with| .scalar _=>False|_=>True)):Tm.single h=false:=by
 rw[Tm.eN];cases h9:h.k with
 |scalar w=>rw[h9]at hk;exact hk.elim
 |bytes=>rfl
 |struct t=>rfl
theorem eU{U w0 w:World}{rb fb b m n:Nat}{A:List Tm.Ty}{S:Sub}{s:Tm.Wd}{l:Tm.Its}{N0 N:Ex.Names}{st0 st2:St}{i cap:Nat}{ks:Nds}{ga:Option Addr}{bl:List Nat}{vs:List Value}(h:LoS U w0 w rb fb b m n A S s l N0 st0 i N st2 ks ga cap bl vs):wrap64 ((i:Int)+1)=((i+1:Nat):Int):=by
 have h1:=h.few;have h2:=h.rd.lr.few;exact(IntWalk.wrap64_in _ ⟨by omega,by omega⟩).trans (by omega)
theorem tr(A:List Tm.Ty)(S:Sub)(s:Tm.Wd)(hs:s.length≤1000000)(l:Tm.Its)(hF:Tm.bB l)(hlen:l.len≤100000)(hW:∀i a c b r,l.drop i= .when a c b r→rO A S s b)
  (hSt:∀i h r t,l.drop i= .cons h r→h.k= .struct t→Dw A S s t):rO A S s l:=by
 intro U w rb fb b m n cap ga bs N st hE ho hen;obtain⟨F,hFd⟩:∃F,F=Value.map (some fb):=⟨_,rfl⟩;have hcap:l.len≤cap:=aT ho;obtain⟨nl,hnl⟩:∃nl,nl=l.len:=⟨_,rfl⟩;rw[← hnl]at hcap hlen ho⊢;have HNL:=hid hnl;have h0:LoS U w w rb fb b m n A S s l N st 0 N st .nil none 0 [] []:=LoS.start hE;have H0:=hid h0;have HO:=hid ho;have HEN:=hid hen;have HF:=hid hF;have HW:=hid hW;have HST:=hid hSt;clear hnl h0 ho hen hF hW hSt hE;go_enter Tryz.func65,Tryz.ntmps65;go_wp2_with fail;go_loopw [7,13] (fun v7 v13 wr=>∃(i:Nat) (N2:Ex.Names) (st2:St) (ks:Nds) (g7:Option Addr) (k7:Nat) (bl:List Nat) (vs:List Value) (n2:Nat),v7= .slice g7 i k7∧v13= .int .i64 (i:Nat)∧i≤nl∧Hid (LoS U w wr rb fb b m n2 A S s l N st i N2 st2 ks g7 k7 bl vs)) (fun _ v13 _=>nl - (intOf v13).toNat)
 case atStart=>exact⟨0,N,st,.nil,none,0,[],[],n,rfl,rfl,Nat.zero_le _,H0⟩
 case round=>
  obtain⟨i,N2,st2,ks,g7,k7,bl,vs,n2,rfl,rfl,hi,HL⟩:=hrel;clear H0
  by_cases hlt:i < nl
  ·have hki:(i:Int) < (nl:Int):=by omega
   have q1:decide ((i:Int) < (nl:Int))=true:=Z9 hki;have q2:decide (i < nl)=true:=Z9 hlt;have HLT:=hid hlt;obtain⟨x,rfl⟩:∃x,ga=some x:=by
    cases ga with
    |none=>have:=HO.out.aO.1;omega
    |some x=>exact⟨x,rfl⟩
   obtain⟨gb,rfl⟩:∃gb,x=⟨gb,0,none⟩:=⟨x.block,HO.out.row.1⟩;have HFD:=hid (Tm.df i l HF.out);have ho2:=HO.out;rw[HNL.out]at ho2;rcases Tm.cE l i (by rw[← HNL.out];exact hlt)with⟨h,r,hdr⟩|⟨a,c,bd,r,hdr⟩
   ·obtain⟨cv,hcv,hrow,hnx⟩:=Tm.bp.hd ho2 HEN.out hdr;rw[hdr]at HFD;have hfh:=HFD.out.1;have hrw:=hrow.below HL.out.rd.bel hrow.lt;have HROW:=hid hrw;have HCV:=hid hcv;have HDR:=hid hdr;have HNX:=hid hnx;have HFH:=hid hfh;have hONE:=GD A S s h hfh (fun t ht=>HST.out i h r t hdr ht) hs U wr rb fb b m n2 N2 st2 gb (i * 13) cv HL.out.rd hrw hcv;have c7:=hrw.cell 7 (by simp[Tm.aj]);simp only[Tm.ag,Z0,Z1,Y2]at c7;have hgb:gb≠b:=by
     rintro rfl;exact absurd (hrw.ty HL.out.rd.lr.row) (by decide)
    have hgm:gb≠m:=fun e=>HL.out.rd.nm.ne hrw e.symm
    have HONE:=hid hONE;clear hrow hcv hdr hnx hfh hrw hlt hki hi ho2 hONE;cases hmb:Tm.ba h with
    |true=>
     rw[hmb]at c7;obtain⟨cx,hcx⟩:=vo hmb;have hcv:=HCV.out;rw[hcx]at hcv;obtain⟨cb,hcve,hxc⟩:=hcv;have hrw:=HROW.out;rw[hcve]at hrw;have HMA:=hid (Ds b m n2 rb cb (.map (some fb)) s gb (i * 13) st2 S N2 h cx U wr HL.out.rd.lr hgb hs hcx (HFH.out.2.2.1 cx hcx).1.1 HL.out.rd.bel HL.out.rd.bU hxc HL.out.rd.nm HL.out.rd.ne.2 hrw HONE.out);have HHD:=hid (show hdR S s N2 h st2=hH S s N2 h st2 by unfold hdR;rw[← lT,hmb];rfl);have HSG:=hid (om hmb);clear hmb hrw hcve hxc hcx;go_wp2_with fail;refine HMA.out.mono ?_;unfold fS;rintro e w4 ⟨hb4,hv⟩;cases hoh:hH S s N2 h st2 with
     |none=>
      rw[hoh]at hv;obtain⟨t,v,he⟩:=hv;unfold bA at he;subst he;have HO2:=hid (show bM S s l N st=none by rw[HL.out.rep,HDR.out,fV (HHD.out.trans hoh)];rfl);have HB4:=hid hb4;clear hb4 hoh;go_wp2_with fail;refine⟨rfl,HL.out.but.trans HB4.out.wide,?_⟩;rw[HO2.out];exact⟨t,v,rfl⟩
     |some p=>
      obtain⟨d,st4⟩:=p;rw[hoh]at hv;obtain⟨⟨v,b1,rfl,hd,hnd⟩,hl4,hat4,hn4⟩:=hv;obtain⟨g4,c4,rfl⟩:=hd.cells;have hat5:st2.at_≤st4.at_:=hat4;have hn5:st2.n < st4.n:=hn4;have hown4:an w4 w.heap.size 28 7 g7 i k7 vs:=by
       have h9:=HL.out.kv.own;rw[HL.out.len]at h9;exact h9.al fun x hx=>hb4.block _ (h9.gI x hx) (by have h8:=HL.out.kv.mem x.block (by rw[hx];simp[aU]);have h7:=HL.out.blt;omega) (fun e=>by cases e)
      have HB4:=hid hb4;have HD4:=hid hd;have HND:=hid hnd;have HL4:=hid hl4;have HAT:=hid hat5;have HNN:=hid hn5;have HO4:=hid hown4;have HBS:=hid (show w.heap.size≤w4.heap.size from Nat.le_trans HL.out.but.size hb4.size);have hh:hdR S s N2 h st2=some (d,st4):=HHD.out.trans hoh;have hstep:bM S s (l.drop i) N2 st2=(bM S s (l.drop (i+1)) N2 st4).map fun q=>(d.put q.1,q.2):=by rw[HDR.out,pP hh,HSG.out,HNX.out];rfl
      have HSTEP:=hid hstep;have HNM:=hid (HL.out.rd.nm.al (hb4.block m HL.out.rd.nm.lt HL.out.rd.ne.2 (fun e=>by cases e)));clear hb4 hd hnd hl4 hat4 hn4 hat5 hn5 hoh hown4 hh hstep c7;obtain⟨hs1,hs2⟩:=fh (show i≤400 by have h1:=HL.out.few;have h2:=HL.out.rd.lr.few;omega);have hbase:=HBS.out;have hown5:=HO4.out;go_wp2_with (with_reducible refine bP w4 rfl _ _ 26 rfl w.heap.size 28 (.agg #[.string ByteArray.empty,.int .i64 0,.int .i64 0,.int .i64 0,.int .i64 0,.string ByteArray.empty,.slice none 0 0]) 7 88 Tryz.underlying26 eD rfl (by decide) g7 i k7 _ rfl hown5 [.string (aa d.name),.int .i64 (d.kind:Nat),.int .i64 (d.at_:Nat),.int .i64 (d.size:Nat),.int .i64 d.val,.string (aa d.text),.slice g4 d.kids.len c4] rfl (by simp[Value.oneCell']) rfl hs1 hs2 hbase ?_;intro g8 k8 w6 hown6 hgrow6 hloc6 hsz6 hex6);have HL5:=hid (HL.out.push HSTEP.out HB4.out.wide HL4.out HNM.out (by have:=HL.out.rd.few;have:=HNN.out;omega) HD4.out HND.out HAT.out HNN.out hown6 hgrow6 (fun x hx=>hloc6 x hx));clear hown6 hgrow6 hloc6 hsz6 hex6 hs1 hs2 hbase hown5;go_wp2_with fail;go_roundw
      case rel=>exact⟨i+1,_,st4,_,g8,k8,_,_,_,rfl,by first|rfl|rw[eU HL.out],by have:=HLT.out;omega,HL5⟩
      case measure=>(try rw[eU HL.out]);simp only[intOf];have:=HLT.out;omega
    |false=>
     rw[hmb]at c7;have HHD:=hid (show hdR S s N2 h st2=bI S s N2 h st2 by unfold hdR;rw[← lT,hmb];rfl);have HC1:=hid (HONE.out wr st2 (But.refl _ _ _) HL.out.rd.lr);have HMB:=hid hmb;clear hmb;go_wp2_with fail;refine HC1.out.mono ?_;unfold fS;rintro e w4 ⟨hb4,hv⟩;clear c7;cases hoh:bI S s N2 h st2 with
     |none=>
      rw[hoh]at hv;obtain⟨t,v,he⟩:=hv;unfold bA at he;subst he;have HO2:=hid (show bM S s l N st=none by rw[HL.out.rep,HDR.out,fV (HHD.out.trans hoh)];rfl);have HB4:=hid hb4;clear hb4 hoh;go_wp2_with fail;refine⟨rfl,HL.out.but.trans HB4.out.wide,?_⟩;rw[HO2.out];exact⟨t,v,rfl⟩
     |some p=>
      obtain⟨d,st4⟩:=p;rw[hoh]at hv;obtain⟨⟨v,b1,rfl,hd,hnd⟩,hl4,hat4,hn4⟩:=hv;obtain⟨g4,c4,rfl⟩:=hd.cells;have hat5:st2.at_≤st4.at_:=hat4;have hn5:st2.n < st4.n:=hn4;have hown4:an w4 w.heap.size 28 7 g7 i k7 vs:=by
       have h9:=HL.out.kv.own;rw[HL.out.len]at h9;exact h9.al fun x hx=>hb4.block _ (h9.gI x hx) (by have h8:=HL.out.kv.mem x.block (by rw[hx];simp[aU]);have h7:=HL.out.blt;omega) (fun e=>by cases e)
      have HB4:=hid hb4;have HD4:=hid hd;have HND:=hid hnd;have HL4:=hid hl4;have HAT:=hid hat5;have HNN:=hid hn5;have HO4:=hid hown4;have HBS:=hid (show w.heap.size≤w4.heap.size from Nat.le_trans HL.out.but.size hb4.size);have hbx:ad (w4.alloc (.cells #[.string {data:= #[]},.int .i64 0,.int .i64 0,.int .i64 0,.int .i64 0,.string {data:= #[]},.slice none 0 0] 28)) w4.heap.size 0 28 [.string {data:= #[]},.int .i64 0,.int .i64 0,.int .i64 0,.int .i64 0,.string {data:= #[]},.slice none 0 0]:=ad.new w4 28 #[.string {data:= #[]},.int .i64 0,.int .i64 0,.int .i64 0,.int .i64 0,.string {data:= #[]},.slice none 0 0];have y0:=hbx.cell0 0 (by simp);have z0:=hbx.frozen0 0 (by simp);have y1:=hbx.cell0 1 (by simp);have z1:=hbx.frozen0 1 (by simp);have y2:=hbx.cell0 2 (by simp);have z2:=hbx.frozen0 2 (by simp);have y3:=hbx.cell0 3 (by simp);have z3:=hbx.frozen0 3 (by simp);have y4:=hbx.cell0 4 (by simp);have z4:=hbx.frozen0 4 (by simp);have y5:=hbx.cell0 5 (by simp);have z5:=hbx.frozen0 5 (by simp);have y6:=hbx.cell0 6 (by simp);have z6:=hbx.frozen0 6 (by simp);simp only[Z0,Z1]at y0 y1 y2 y3 y4 y5 y6;obtain⟨V,hV⟩:∃V,V=w4.alloc (.cells #[.string (aa d.name),.int .i64 (d.kind:Nat),.int .i64 (d.at_:Nat),.int .i64 (d.size:Nat),.int .i64 d.val,.string (aa d.text),.slice g4 d.kids.len c4] 28):=⟨_,rfl⟩;have hvb:Below w4.heap.size w4 V:=by rw[hV];exact(Y4 _ _).alloc (Z5 _) _
      have hrV:ad V gb (i * 13) 70 (Tm.ag h cv):=(HROW.out.of_heap (HB4.out.block gb HROW.out.lt hgb (fun e=>by cases e))).below hvb (Nat.lt_of_lt_of_le HROW.out.lt HB4.out.size);have hboxV:ad V w4.heap.size 0 28 [.string (aa d.name),.int .i64 (d.kind:Nat),.int .i64 (d.at_:Nat),.int .i64 (d.size:Nat),.int .i64 d.val,.string (aa d.text),.slice g4 d.kids.len c4]:=by rw[hV];exact ad.new w4 _ _
      have k0:=hrV.cell 0 (by simp[Tm.aj]);have hd6:NdV V wr.heap.size b1 d (.agg ([.string (aa d.name),.int .i64 (d.kind:Nat),.int .i64 (d.at_:Nat),.int .i64 (d.size:Nat),.int .i64 d.val,.string (aa d.text),.slice g4 d.kids.len c4]).toArray):=hd.al fun g hg=>hvb.block g (hd.mem g hg).2
      have HD6:=hid hd6;have HO6:=hid (hown4.below hvb (Z5 _));have HBS6:=hid (show w.heap.size≤V.heap.size from Nat.le_trans HBS.out hvb.size);have HL6:=hid (show LR V b (.map (some fb)) s st4 from hl4.al (hvb.block b hl4.row.lt));have HBOX:=hid hboxV;have hh:hdR S s N2 h st2=some (d,st4):=HHD.out.trans hoh;have hstep:bM S s (l.drop i) N2 st2=(bM S s (l.drop (i+1)) (if Tm.single h then upd N2 h.name d.val else N2) st4).map fun q=>(d.put q.1,q.2):=by rw[HDR.out,pP hh,HNX.out]
      have hnmV:NmM V m n2 N2:=(HL.out.rd.nm.al (hb4.block m HL.out.rd.nm.lt HL.out.rd.ne.2 (fun e=>by cases e))).al (hvb.block m (Nat.lt_of_lt_of_le HL.out.rd.nm.lt hb4.size));have HNMV:=hid hnmV;have HBV:=hid (show But wr V b none from hb4.trans (But.az hvb));have HVS:=hid (show w4.heap.size < V.heap.size by rw[hV];simp);have HV:=hid hV;have HOH:=hid hoh;cases hk:h.k with
      |scalar wd=>
       have hkw:(Tm.kindOf wd).isSome=true:=by have:=HFH.out.1;rw[hk]at this;exact this
       have hval:Ex.InR d.val:=E7 hk hkw hoh;have hsg:Tm.single h=true:=yw hk HMB.out;rw[hsg]at hstep;have HSTEP:=hid (show bM S s (l.drop i) N2 st2=(bM S s (l.drop (i+1)) (upd N2 h.name d.val) st4).map fun q=>(d.put q.1,q.2)from hstep);have HVAL:=hid hval;have hnl2:h.name.length≤1000:=by have:=jR HFH.out.2.1.2;omega
       have HNL2:=hid hnl2;simp only[Tm.ag,hk,Tm.aI,Z0,Z1,Y2]at k0;have k2:=hrV.cell 2 (by simp[Tm.aj]);simp only[Tm.ag,Z0,Z1]at k2;have v4:=hboxV.cell0 4 (by simp);simp only[Z0,Z1]at v4;rw[hV]at k0 k2 v4;clear hb4 hd hnd hl4 hat4 hn4 hat5 hn5 hoh hown4 hh hstep hbx hrV hboxV hd6 hnmV hkw hval hsg hnl2 hV hvb hk;go_wp2_with fail;rw[← HV.out]at k0 k2 v4⊢;go_still_tail 7,(by kernel_rfl);change wpList _ _ _ _ _ V.drew;refine qV V.drew rfl _ _ _ rfl m n2 N2 rfl (HNMV.out.al (w':=V.drew) rfl) (by have h1:=HL.out.rd.few;have h2:=HL.out.rd.lr.few;show n2 < 9223372036854775807;omega) h.name HNL2.out d.val HVAL.out rfl rfl ?_;intro w6 hm6 hg6;clear k0 k2 v4 y0 y1 y2 y3 y4 y5 y6 z0 z1 z2 z3 z4 z5 z6;have hm0:=HL.out.mlt;have hw0:=HL.out.but.size;have hw4:=HB4.out.size;have hk6:∀g,g < V.heap.size→g≠m→w6.heap[g]? =V.heap[g]? :=fun g h1 h2=>hg6.block g h1 (fun e=>by injection e with e;exact h2 e)
       have hbox6:ad w6 w4.heap.size 0 28 [.string (aa d.name),.int .i64 (d.kind:Nat),.int .i64 (d.at_:Nat),.int .i64 (d.size:Nat),.int .i64 d.val,.string (aa d.text),.slice g4 d.kids.len c4]:=HBOX.out.of_heap (hk6 _ HVS.out (by omega))
       replace HBOX:=hid hbox6
       have hd7:NdV w6 wr.heap.size b1 d (.agg ([.string (aa d.name),.int .i64 (d.kind:Nat),.int .i64 (d.at_:Nat),.int .i64 (d.size:Nat),.int .i64 d.val,.string (aa d.text),.slice g4 d.kids.len c4]).toArray):=HD6.out.al fun g hg=>hk6 g (HD6.out.mem g hg).2 (by have:=(HD6.out.mem g hg).1;omega)
       replace HD6:=hid hd7
       have ho7:=HO6.out.al (w':=w6) fun x hx=>hk6 _ (HO6.out.gI x hx) (by have:=HL.out.kv.mem x.block (by rw[hx];simp[aU]);omega)
       replace HO6:=hid ho7
       replace HL6:=hid (show LR w6 b (.map (some fb)) s st4 from HL6.out.al (hk6 b HL6.out.row.lt (Ne.symm HL.out.rd.ne.2)))
       have HB6:=hid (show But wr w6 b (some m)from HBV.out.wide.trans ⟨hg6.os,hg6.tape,hg6.output,hg6.size,fun g h1 h2 h3=>hg6.block g h1 (fun e=>h3 e)⟩);have HNM6:=hid hm6;have HN6:=hid (show n2+1≤st4.n by have h1:=HL.out.rd.few;have h2:=HNN.out;omega)
       replace HBS6:=hid (show w.heap.size≤w6.heap.size from Nat.le_trans HBS6.out hg6.size)
       clear hm6 hg6 hk6 hbox6 hd7 ho7 hm0 hw0 hw4;have r0:=HBOX.out.cell0 0 (by simp);have r1:=HBOX.out.cell0 1 (by simp);have r2:=HBOX.out.cell0 2 (by simp);have r3:=HBOX.out.cell0 3 (by simp);have r4:=HBOX.out.cell0 4 (by simp);have r5:=HBOX.out.cell0 5 (by simp);have r6:=HBOX.out.cell0 6 (by simp);simp only[Z0,Z1]at r0 r1 r2 r3 r4 r5 r6;have hown5:=HO6.out;have hbase:=HBS6.out;obtain⟨hs1,hs2⟩:=fh (show i≤400 by have h1:=HL.out.few;have h2:=HL.out.rd.lr.few;omega);go_wp2_with (with_reducible refine bP w6 rfl _ _ 26 rfl w.heap.size 28 (.agg #[.string ByteArray.empty,.int .i64 0,.int .i64 0,.int .i64 0,.int .i64 0,.string ByteArray.empty,.slice none 0 0]) 7 88 Tryz.underlying26 eD rfl (by decide) g7 i k7 _ rfl hown5 [.string (aa d.name),.int .i64 (d.kind:Nat),.int .i64 (d.at_:Nat),.int .i64 (d.size:Nat),.int .i64 d.val,.string (aa d.text),.slice g4 d.kids.len c4] rfl (by simp[Value.oneCell']) rfl hs1 hs2 hbase ?_;intro g8 k8 w6 hown6 hgrow6 hloc6 hsz6 hex6);have HL5:=hid (HL.out.push HSTEP.out HB6.out HL6.out HNM6.out HN6.out HD6.out HND.out HAT.out HNN.out hown6 hgrow6 (fun x hx=>hloc6 x hx));clear hown6 hgrow6 hloc6 hsz6 hex6 hs1 hs2 hbase hown5;clear r0 r1 r2 r3 r4 r5 r6;go_wp2_with fail;go_roundw
       case rel=>exact⟨i+1,_,st4,_,g8,k8,_,_,_,rfl,by first|rfl|rw[eU HL.out],by have:=HLT.out;omega,HL5⟩
       case measure=>(try rw[eU HL.out]);simp only[intOf];have:=HLT.out;omega
      |bytes=>
       have hsg:Tm.single h=false:=rU (by rw[hk];trivial);rw[hsg]at hstep;have HSTEP:=hid (show bM S s (l.drop i) N2 st2=(bM S s (l.drop (i+1)) N2 st4).map fun q=>(d.put q.1,q.2)from hstep);simp only[Tm.ag,hk,Tm.aI,Z0,Z1,Y2]at k0;rw[hV]at k0;have HB6:=hid (show But wr V b (some m)from HBV.out.wide);have HNM6:=HNMV;have HN6:=hid (show n2≤st4.n by have h1:=HL.out.rd.few;have h2:=HNN.out;omega);clear hb4 hd hnd hl4 hat4 hn4 hat5 hn5 hoh hown4 hh hstep hbx hrV hboxV hd6 hnmV hsg hvb hk;have r0:=HBOX.out.cell0 0 (by simp);have r1:=HBOX.out.cell0 1 (by simp);have r2:=HBOX.out.cell0 2 (by simp);have r3:=HBOX.out.cell0 3 (by simp);have r4:=HBOX.out.cell0 4 (by simp);have r5:=HBOX.out.cell0 5 (by simp);have r6:=HBOX.out.cell0 6 (by simp);simp only[Z0,Z1]at r0 r1 r2 r3 r4 r5 r6;rw[hV]at r0 r1 r2 r3 r4 r5 r6;clear hV;have hown5:=HO6.out;have hbase:=HBS6.out;obtain⟨hs1,hs2⟩:=fh (show i≤400 by have h1:=HL.out.few;have h2:=HL.out.rd.lr.few;omega)
       go_upto_region 11 with fail
       rw[← HV.out]at r0 r1 r2 r3 r4 r5 r6⊢;go_wp2_with (with_reducible refine bP V rfl _ _ 26 rfl w.heap.size 28 (.agg #[.string ByteArray.empty,.int .i64 0,.int .i64 0,.int .i64 0,.int .i64 0,.string ByteArray.empty,.slice none 0 0]) 7 88 Tryz.underlying26 eD rfl (by decide) g7 i k7 _ rfl hown5 [.string (aa d.name),.int .i64 (d.kind:Nat),.int .i64 (d.at_:Nat),.int .i64 (d.size:Nat),.int .i64 d.val,.string (aa d.text),.slice g4 d.kids.len c4] rfl (by simp[Value.oneCell']) rfl hs1 hs2 hbase ?_;intro g8 k8 w6 hown6 hgrow6 hloc6 hsz6 hex6);have HL5:=hid (HL.out.push HSTEP.out HB6.out HL6.out HNM6.out HN6.out HD6.out HND.out HAT.out HNN.out hown6 hgrow6 (fun x hx=>hloc6 x hx));clear hown6 hgrow6 hloc6 hsz6 hex6 hs1 hs2 hbase hown5;clear r0 r1 r2 r3 r4 r5 r6;go_wp2_with fail;go_roundw
       case rel=>exact⟨i+1,_,st4,_,g8,k8,_,_,_,rfl,by first|rfl|rw[eU HL.out],by have:=HLT.out;omega,HL5⟩
       case measure=>(try rw[eU HL.out]);simp only[intOf];have:=HLT.out;omega
      |struct t=>
       have hsg:Tm.single h=false:=rU (by rw[hk];trivial);rw[hsg]at hstep;have HSTEP:=hid (show bM S s (l.drop i) N2 st2=(bM S s (l.drop (i+1)) N2 st4).map fun q=>(d.put q.1,q.2)from hstep);simp only[Tm.ag,hk,Tm.aI,Z0,Z1,Y2]at k0;rw[hV]at k0;have HB6:=hid (show But wr V b (some m)from HBV.out.wide);have HNM6:=HNMV;have HN6:=hid (show n2≤st4.n by have h1:=HL.out.rd.few;have h2:=HNN.out;omega);clear hb4 hd hnd hl4 hat4 hn4 hat5 hn5 hoh hown4 hh hstep hbx hrV hboxV hd6 hnmV hsg hvb hk;have r0:=HBOX.out.cell0 0 (by simp);have r1:=HBOX.out.cell0 1 (by simp);have r2:=HBOX.out.cell0 2 (by simp);have r3:=HBOX.out.cell0 3 (by simp);have r4:=HBOX.out.cell0 4 (by simp);have r5:=HBOX.out.cell0 5 (by simp);have r6:=HBOX.out.cell0 6 (by simp);simp only[Z0,Z1]at r0 r1 r2 r3 r4 r5 r6;rw[hV]at r0 r1 r2 r3 r4 r5 r6;clear hV;have hown5:=HO6.out;have hbase:=HBS6.out;obtain⟨hs1,hs2⟩:=fh (show i≤400 by have h1:=HL.out.few;have h2:=HL.out.rd.lr.few;omega)
       go_upto_region 11 with fail
       rw[← HV.out]at r0 r1 r2 r3 r4 r5 r6⊢;go_wp2_with (with_reducible refine bP V rfl _ _ 26 rfl w.heap.size 28 (.agg #[.string ByteArray.empty,.int .i64 0,.int .i64 0,.int .i64 0,.int .i64 0,.string ByteArray.empty,.slice none 0 0]) 7 88 Tryz.underlying26 eD rfl (by decide) g7 i k7 _ rfl hown5 [.string (aa d.name),.int .i64 (d.kind:Nat),.int .i64 (d.at_:Nat),.int .i64 (d.size:Nat),.int .i64 d.val,.string (aa d.text),.slice g4 d.kids.len c4] rfl (by simp[Value.oneCell']) rfl hs1 hs2 hbase ?_;intro g8 k8 w6 hown6 hgrow6 hloc6 hsz6 hex6);have HL5:=hid (HL.out.push HSTEP.out HB6.out HL6.out HNM6.out HN6.out HD6.out HND.out HAT.out HNN.out hown6 hgrow6 (fun x hx=>hloc6 x hx));clear hown6 hgrow6 hloc6 hsz6 hex6 hs1 hs2 hbase hown5;clear r0 r1 r2 r3 r4 r5 r6;go_wp2_with fail;go_roundw
       case rel=>exact⟨i+1,_,st4,_,g8,k8,_,_,_,rfl,by first|rfl|rw[eU HL.out],by have:=HLT.out;omega,HL5⟩
       case measure=>(try rw[eU HL.out]);simp only[intOf];have:=HLT.out;omega
   ·obtain⟨cb,gc,capc,bsc,hxc,hoc,hec,hrow,hnx⟩:=Tm.bp.wh ho2 HEN.out hdr;rw[hdr]at HFD;have hfx:=HFD.out.1;have hrw:=hrow.below HL.out.rd.bel hrow.lt;have HROW:=hid hrw;have HDR:=hid hdr;have HNX:=hid hnx;have HWH:=hid (Dp A S s bd (HW.out i a c bd r hdr) b m n2 rb fb cb a gb (i * 13) st2 N2 c gc capc bsc U wr HL.out.rd hs hfx.1 hxc hoc hec hrw);have c7:=hrw.cell 7 (by simp[Tm.bf]);simp only[Tm.au,Z0,Z1,Y2]at c7;have hgb:gb≠b:=by
     rintro rfl;exact absurd (hrw.ty HL.out.rd.lr.row) (by decide)
    have hgm:gb≠m:=fun e=>HL.out.rd.nm.ne hrw e.symm
    clear hrow hdr hnx hrw hlt hki hi ho2 hxc hoc hec hfx;go_wp2_with fail;refine HWH.out.mono ?_;unfold zO;rintro e w4 ⟨hb4,hv⟩;clear c7;cases hoh:fe S s N2 c bd st2 with
    |none=>
     rw[hoh]at hv;obtain⟨t,v,he⟩:=hv;unfold bA at he;subst he;have HO2:=hid (show bM S s l N st=none by rw[HL.out.rep,HDR.out,jm,hoh];rfl);have HB4:=hid hb4;clear hb4 hoh;go_wp2_with fail;refine⟨rfl,HL.out.but.trans HB4.out,?_⟩;rw[HO2.out];exact⟨t,v,rfl⟩
    |some p=>
     obtain⟨d,N4,st4⟩:=p;rw[hoh]at hv;obtain⟨⟨v,b1,rfl,hd,hnd⟩,hl4,⟨hat4,hn4⟩,n4,hN4,hn44⟩:=hv;obtain⟨g4,c4,rfl⟩:=hd.cells;have hat5:st2.at_≤st4.at_:=hat4;have hn5:st2.n < st4.n:=hn4;have hown4:an w4 w.heap.size 28 7 g7 i k7 vs:=by
      have h9:=HL.out.kv.own;rw[HL.out.len]at h9;exact h9.al fun x hx=>hb4.block _ (h9.gI x hx) (by have h8:=HL.out.kv.mem x.block (by rw[hx];simp[aU]);have h7:=HL.out.blt;omega) (fun e=>by injection e with e;have h8:=HL.out.kv.mem x.block (by rw[hx];simp[aU]);have h7:=HL.out.mlt;omega)
     have HB4:=hid hb4;have HD4:=hid hd;have HND:=hid hnd;have HL4:=hid hl4;have HAT:=hid hat5;have HNN:=hid hn5;have HO4:=hid hown4;have HBS:=hid (show w.heap.size≤w4.heap.size from Nat.le_trans HL.out.but.size hb4.size);have hbx:ad (w4.alloc (.cells #[.string {data:= #[]},.int .i64 0,.int .i64 0,.int .i64 0,.int .i64 0,.string {data:= #[]},.slice none 0 0] 28)) w4.heap.size 0 28 [.string {data:= #[]},.int .i64 0,.int .i64 0,.int .i64 0,.int .i64 0,.string {data:= #[]},.slice none 0 0]:=ad.new w4 28 #[.string {data:= #[]},.int .i64 0,.int .i64 0,.int .i64 0,.int .i64 0,.string {data:= #[]},.slice none 0 0];have y0:=hbx.cell0 0 (by simp);have z0:=hbx.frozen0 0 (by simp);have y1:=hbx.cell0 1 (by simp);have z1:=hbx.frozen0 1 (by simp);have y2:=hbx.cell0 2 (by simp);have z2:=hbx.frozen0 2 (by simp);have y3:=hbx.cell0 3 (by simp);have z3:=hbx.frozen0 3 (by simp);have y4:=hbx.cell0 4 (by simp);have z4:=hbx.frozen0 4 (by simp);have y5:=hbx.cell0 5 (by simp);have z5:=hbx.frozen0 5 (by simp);have y6:=hbx.cell0 6 (by simp);have z6:=hbx.frozen0 6 (by simp);simp only[Z0,Z1]at y0 y1 y2 y3 y4 y5 y6;obtain⟨V,hV⟩:∃V,V=w4.alloc (.cells #[.string (aa d.name),.int .i64 (d.kind:Nat),.int .i64 (d.at_:Nat),.int .i64 (d.size:Nat),.int .i64 d.val,.string (aa d.text),.slice g4 d.kids.len c4] 28):=⟨_,rfl⟩;have hvb:Below w4.heap.size w4 V:=by rw[hV];exact(Y4 _ _).alloc (Z5 _) _
     have hrV:ad V gb (i * 13) 70 (Tm.au a (.pointer (some ⟨cb,0,none⟩)) (.slice gc bd.len capc)):=(HROW.out.of_heap (HB4.out.block gb HROW.out.lt hgb (fun e=>by injection e with e;exact hgm e))).below hvb (Nat.lt_of_lt_of_le HROW.out.lt HB4.out.size);have hboxV:ad V w4.heap.size 0 28 [.string (aa d.name),.int .i64 (d.kind:Nat),.int .i64 (d.at_:Nat),.int .i64 (d.size:Nat),.int .i64 d.val,.string (aa d.text),.slice g4 d.kids.len c4]:=by rw[hV];exact ad.new w4 _ _
     have k0:=hrV.cell 0 (by simp[Tm.bf]);have hd6:NdV V wr.heap.size b1 d (.agg ([.string (aa d.name),.int .i64 (d.kind:Nat),.int .i64 (d.at_:Nat),.int .i64 (d.size:Nat),.int .i64 d.val,.string (aa d.text),.slice g4 d.kids.len c4]).toArray):=hd.al fun g hg=>hvb.block g (hd.mem g hg).2
     have HD6:=hid hd6;have HO6:=hid (hown4.below hvb (Z5 _));have HBS6:=hid (show w.heap.size≤V.heap.size from Nat.le_trans HBS.out hvb.size);have HL6:=hid (show LR V b (.map (some fb)) s st4 from hl4.al (hvb.block b hl4.row.lt));have HBOX:=hid hboxV;have HSTEP:=hid (show bM S s (l.drop i) N2 st2=(bM S s (l.drop (i+1)) N4 st4).map fun q=>(d.put q.1,q.2) by rw[HDR.out,jm,hoh,HNX.out];rfl);have HNM6:=hid (show NmM V m n4 N4 from hN4.al (hvb.block m hN4.lt));have HB6:=hid (show But wr V b (some m)from hb4.trans (But.az hvb));have HN6:=hid (show n4≤st4.n from hn44);have HV:=hid hV;simp only[Tm.au,Z0,Z1,Y2]at k0;rw[hV]at k0;clear hb4 hd hnd hl4 hat4 hn4 hat5 hn5 hoh hown4 hbx hrV hboxV hd6 hvb hN4 hn44;have r0:=HBOX.out.cell0 0 (by simp);have r1:=HBOX.out.cell0 1 (by simp);have r2:=HBOX.out.cell0 2 (by simp);have r3:=HBOX.out.cell0 3 (by simp);have r4:=HBOX.out.cell0 4 (by simp);have r5:=HBOX.out.cell0 5 (by simp);have r6:=HBOX.out.cell0 6 (by simp);simp only[Z0,Z1]at r0 r1 r2 r3 r4 r5 r6;rw[hV]at r0 r1 r2 r3 r4 r5 r6;clear hV;have hown5:=HO6.out;have hbase:=HBS6.out;obtain⟨hs1,hs2⟩:=fh (show i≤400 by have h1:=HL.out.few;have h2:=HL.out.rd.lr.few;omega)
     go_upto_region 11 with fail
     rw[← HV.out]at r0 r1 r2 r3 r4 r5 r6⊢;go_wp2_with (with_reducible refine bP V rfl _ _ 26 rfl w.heap.size 28 (.agg #[.string ByteArray.empty,.int .i64 0,.int .i64 0,.int .i64 0,.int .i64 0,.string ByteArray.empty,.slice none 0 0]) 7 88 Tryz.underlying26 eD rfl (by decide) g7 i k7 _ rfl hown5 [.string (aa d.name),.int .i64 (d.kind:Nat),.int .i64 (d.at_:Nat),.int .i64 (d.size:Nat),.int .i64 d.val,.string (aa d.text),.slice g4 d.kids.len c4] rfl (by simp[Value.oneCell']) rfl hs1 hs2 hbase ?_;intro g8 k8 w6 hown6 hgrow6 hloc6 hsz6 hex6);have HL5:=hid (HL.out.push HSTEP.out HB6.out HL6.out HNM6.out HN6.out HD6.out HND.out HAT.out HNN.out hown6 hgrow6 (fun x hx=>hloc6 x hx));clear hown6 hgrow6 hloc6 hsz6 hex6 hs1 hs2 hbase hown5;clear r0 r1 r2 r3 r4 r5 r6;go_wp2_with fail;go_roundw
     case rel=>exact⟨i+1,_,st4,_,g8,k8,_,_,_,rfl,by first|rfl|rw[eU HL.out],by have:=HLT.out;omega,HL5⟩
     case measure=>(try rw[eU HL.out]);simp only[intOf];have:=HLT.out;omega
  ·have q1:decide ((i:Int) < (nl:Int))=false:=Y9 (by omega);have q2:decide (i < nl)=false:=Y9 hlt;have HEQ:=hid (show i=nl by omega);have HO2:=hid (show bM S s l N st=some (ks,N2,st2) by
    rw[HL.out.rep,HEQ.out,HNL.out,Tm.de];show some (ks.app .nil,N2,st2)=_;rw[Nds.eT])
   clear hlt hi;go_wp2_with fail;go_ret;refine⟨HL.out.but,?_⟩;rw[HO2.out];refine⟨⟨g7,k7,bl,vs,?_,HL.out.kv⟩,HL.out.rd.lr,⟨HL.out.at_,?_⟩,n2,HL.out.rd.nm,HL.out.rd.few⟩
   ·show _=Ending.returned (.slice g7 ks.len k7);rw[HL.out.len];rfl
   ·show st.n+ks.len≤st2.n;rw[HL.out.len];exact HL.out.few
end
end Go.Proofs.YtlomecfhobehnaaGreatDoor
namespace Go.Proofs
open Go.Shelf
def Tryz.nO:Go.Shelf.Ren:=⟨fun|105=>107|212=>129|99=>130|165=>131|166=>81|170=>132|169=>83|263=>146|264=>147|206=>148|240=>106|241=>149|276=>128|277=>155|n=>n,fun|9=>9|3=>3|4=>4|20=>20|0=>0|46=>217|109=>218|5=>5|72=>149|76=>150|51=>172|146=>232|53=>114|148=>234|70=>146|37=>147|75=>30|127=>191|164=>134|80=>52|n=>n,fun|n=>n⟩
theorem Tryz.E8:Go.Proofs.Lays.n105 Tryz.prog Tryz.nO:={
 mixed:=by kernel_rfl
 f99:=Tryz.func130.trans (congrArg some (by kernel_rfl))
 f105:=Tryz.func107.trans (congrArg some (by kernel_rfl))
 f165:=Tryz.func131.trans (congrArg some (by kernel_rfl))
 f166:=Tryz.func81.trans (congrArg some (by kernel_rfl))
 f169:=Tryz.func83.trans (congrArg some (by kernel_rfl))
 f170:=Tryz.func132.trans (congrArg some (by kernel_rfl))
 f206:=Tryz.func148.trans (congrArg some (by kernel_rfl))
 f212:=Tryz.func129.trans (congrArg some (by kernel_rfl))
 f240:=Tryz.func106.trans (congrArg some (by kernel_rfl))
 f241:=Tryz.func149.trans (congrArg some (by kernel_rfl))
 f263:=Tryz.func146.trans (congrArg some (by kernel_rfl))
 f264:=Tryz.func147.trans (congrArg some (by kernel_rfl))
 f276:=Tryz.func128.trans (congrArg some (by kernel_rfl))
 f277:=Tryz.func155.trans (congrArg some (by kernel_rfl))
 t0:=Tryz.underlying0
 a0:=Tryz.isAgg0
 z0:=Tryz.sizeOf0
 v0:=Tryz.zeroValue0
 t3:=Tryz.underlying3
 a3:=Tryz.isAgg3
 z3:=Tryz.sizeOf3
 v3:=Tryz.zeroValue3
 t4:=Tryz.underlying4
 a4:=Tryz.isAgg4
 z4:=Tryz.sizeOf4
 v4:=Tryz.zeroValue4
 t5:=Tryz.underlying5
 a5:=Tryz.isAgg5
 z5:=Tryz.sizeOf5
 v5:=Tryz.zeroValue5
 t9:=Tryz.underlying9
 a9:=Tryz.isAgg9
 z9:=Tryz.sizeOf9
 v9:=Tryz.zeroValue9
 t20:=Tryz.underlying20
 a20:=Tryz.isAgg20
 z20:=Tryz.sizeOf20
 v20:=Tryz.zeroValue20
 t37:=Tryz.underlying147
 a37:=Tryz.isAgg147
 z37:=Tryz.sizeOf147
 v37:=Tryz.zeroValue147
 t46:=Tryz.underlying217
 a46:=Tryz.isAgg217
 z46:=Tryz.sizeOf217
 v46:=Tryz.zeroValue217
 t51:=Tryz.underlying172
 a51:=Tryz.isAgg172
 z51:=Tryz.sizeOf172
 v51:=Tryz.zeroValue172
 t53:=Tryz.underlying114
 a53:=Tryz.isAgg114
 z53:=Tryz.sizeOf114
 v53:=Tryz.zeroValue114
 t70:=Tryz.underlying146
 a70:=Tryz.isAgg146
 z70:=Tryz.sizeOf146
 v70:=Tryz.zeroValue146
 t72:=Tryz.underlying149
 a72:=Tryz.isAgg149
 z72:=Tryz.sizeOf149
 v72:=Tryz.zeroValue149
 t75:=Tryz.underlying30
 a75:=Tryz.isAgg30
 z75:=Tryz.sizeOf30
 v75:=Tryz.zeroValue30
 t76:=Tryz.underlying150
 a76:=Tryz.isAgg150
 z76:=Tryz.sizeOf150
 v76:=Tryz.zeroValue150
 t109:=Tryz.underlying218
 a109:=Tryz.isAgg218
 z109:=Tryz.sizeOf218
 v109:=Tryz.zeroValue218
 t127:=Tryz.underlying191
 a127:=Tryz.isAgg191
 z127:=Tryz.sizeOf191
 v127:=Tryz.zeroValue191
 t146:=Tryz.underlying232
 a146:=Tryz.isAgg232
 z146:=Tryz.sizeOf232
 v146:=Tryz.zeroValue232
 t148:=Tryz.underlying234
 a148:=Tryz.isAgg234
 z148:=Tryz.sizeOf234
 v148:=Tryz.zeroValue234
 t164:=Tryz.underlying134
 a164:=Tryz.isAgg134
 z164:=Tryz.sizeOf134
 v164:=Tryz.zeroValue134}
theorem Tryz.lU:Builder.Extra Tryz.prog Tryz.nO:={
 sizeBuilder:=by kernel_rfl
 liesBuilder:=by kernel_rfl
 t5:=Tryz.underlying5
 a5:=Tryz.isAgg5
 z5:=Tryz.sizeOf5
 v5:=Tryz.zeroValue5
 infoByte:=by kernel_rfl
 cellsByte:=by kernel_rfl
 sizeByte:=by kernel_rfl
 neB5:=by decide}
open Go.RowKit Go.Lib in
theorem Tryz.strings_Repeat(s:ByteArray)(c:Nat)(w:World)(hc:c≤9223372036854775807)(hlen:s.size * c≤140737488355328):
  Calls Tryz.prog 107 #[.string s,.int .i64 c] w fun e w'=>e= .returned (.string ⟨(Lib.repeatL s.data.toList c).toArray⟩)∧Below w.heap.size w w':=Any.strings_Repeat Tryz.E8 Tryz.lU s c w hc hlen
def Tryz.nP:Go.Shelf.Ren:=⟨fun|169=>83|n=>n,fun|70=>146|9=>9|0=>0|72=>149|37=>147|127=>191|3=>3|5=>5|n=>n,fun|n=>n⟩
theorem Tryz.E9:Go.Proofs.Lays.n169 Tryz.prog Tryz.nP:={
 mixed:=by kernel_rfl
 f169:=Tryz.func83.trans (congrArg some (by kernel_rfl))
 t0:=Tryz.underlying0
 a0:=Tryz.isAgg0
 z0:=Tryz.sizeOf0
 v0:=Tryz.zeroValue0
 t3:=Tryz.underlying3
 a3:=Tryz.isAgg3
 z3:=Tryz.sizeOf3
 v3:=Tryz.zeroValue3
 t9:=Tryz.underlying9
 a9:=Tryz.isAgg9
 z9:=Tryz.sizeOf9
 v9:=Tryz.zeroValue9
 t37:=Tryz.underlying147
 a37:=Tryz.isAgg147
 z37:=Tryz.sizeOf147
 v37:=Tryz.zeroValue147
 t70:=Tryz.underlying146
 a70:=Tryz.isAgg146
 z70:=Tryz.sizeOf146
 v70:=Tryz.zeroValue146
 t72:=Tryz.underlying149
 a72:=Tryz.isAgg149
 z72:=Tryz.sizeOf149
 v72:=Tryz.zeroValue149
 t127:=Tryz.underlying191
 a127:=Tryz.isAgg191
 z127:=Tryz.sizeOf191
 v127:=Tryz.zeroValue191}
theorem Tryz.lV:Builder.Extra Tryz.prog Tryz.nP:={
 sizeBuilder:=by kernel_rfl
 liesBuilder:=by kernel_rfl
 t5:=Tryz.underlying5
 a5:=Tryz.isAgg5
 z5:=Tryz.sizeOf5
 v5:=Tryz.zeroValue5
 infoByte:=by kernel_rfl
 cellsByte:=by kernel_rfl
 sizeByte:=by kernel_rfl
 neB5:=by decide}
open Go.RowKit in
theorem Tryz.Builder_String_any(B b:Nat)(l:List UInt8)(w:World)(h:Lib.IsBuilder 149 5 B b (Lib.byteCells l) w)(hBw:B≤w.heap.size):
  Calls Tryz.prog 83 #[.pointer (some ⟨b,0,none⟩)] w fun e w'=>e= .returned (.string ⟨l.toArray⟩)∧Below B w w':=Any.Builder_String_any Tryz.E9 Tryz.lV B b l w h hBw
end Go.Proofs
namespace Go.Proofs.YtlomecfhobehnaaGreatDoor
open Lib (hid)
section
open Go.RowKit
theorem Fa(d:Nat)(w:World)(hd:d≤1000000):Calls Tryz.prog 107 #[.string {data:= #[32,32]},.int .i64 (d:Nat)] w fun e w'=>e= .returned (.string (aa (Tm.pad d)))∧Below w.heap.size w w':=by
 refine(Tryz.strings_Repeat {data:= #[32,32]} d w (by omega) (by show 2 * d≤_;omega)).mono ?_;rintro e w' ⟨he,hb⟩;refine⟨?_,hb⟩;rw[he];have:Lib.repeatL ({data:= #[32,32]}:ByteArray).data.toList d=Tm.pad d:=by
  have:=Lib.repeatL_replicate (32:UInt8) 2 d;unfold Tm.pad;rw[Nat.mul_comm 2 d,← this];rfl
 rw[this];rfl
theorem Dx(B b:Nat)(l:List UInt8)(w:World)(h:IsB B b l w)(hBw:B≤w.heap.size):
  Calls Tryz.prog 83 #[.pointer (some ⟨b,0,none⟩)] w fun e w'=>e= .returned (.string (aa l))∧Below B w w':=Tryz.Builder_String_any B b l w h hBw
end
end Go.Proofs.YtlomecfhobehnaaGreatDoor
