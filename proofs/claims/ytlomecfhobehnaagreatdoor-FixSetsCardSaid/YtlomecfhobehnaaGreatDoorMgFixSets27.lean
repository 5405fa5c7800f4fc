import Derived.Test.YtlomecfhobehnaaGreatDoorMgFixSets26
set_option linter.unusedVariables false
set_option linter.unusedSimpArgs false
set_option maxRecDepth 100000
set_option maxHeartbeats 8000000
namespace Go.Proofs.YtlomecfhobehnaaGreatDoor
open Lib (hid)
section
open Go.RowKit
open Rd
def DA(w:World)(E:Nat)(T:List Rd.Tok)(e:Ending)(w':World):Prop:=
 Below w.heap.size w w'∧((∃tys a cap vs,Tm.Tys E 0 T tys∧e= .returned (.tuple #[.slice a (List.length tys) cap,.nilIface])∧an w' w.heap.size 97 3 a (List.length tys) cap vs∧Tm.cF w' w.heap.size tys vs)∨((∀tys,¬Tm.Tys E 0 T tys)∧∃g n p:Nat,e= .returned (.tuple #[.slice none 0 0,.iface 120 (.pointer (some ⟨g,0,none⟩))])∧ad w' g 0 122 [.int .i64 (n:Nat),.int .i64 (p:Nat)]))
theorem BJ{n:Nat}(h:n≤8):n+1≤maxLen∧(n+1) * 48≤140737488355328:=by
 refine⟨?_,by omega⟩;show n+1≤9223372036854775807;omega
theorem yE(s:List UInt8)(T:List Rd.Tok)(w:World)(hs:s.length≤3000)(hm:ec w)(he:Env w w.heap.size)(hn:Lex.cZ s 0=some T)(hT:fD T):
  Calls Tryz.prog 25 #[.string (aa s)] w (DA w s.length T):=by
 have HL:=hid (xC s T (w.alloc (.cells #[.nilIface] 30)) hs (hm.below ((Y4 _ w).alloc (Z5 _) _) (Z5 _)) hn);have HE:=hid he;have HTO:=hid hT;have hF:=fun V en at_ rb=>dw rb en at_ V
 unfold aC at hF;have HF:=hid hF;clear hs hm hn hT he hF
 go_enter_defers Tryz.func25,Tryz.ntmps25
 go_wp2_with fail;refine HL.out.mono ?_;rintro e w1 ⟨rb,rfl,hr,hrb,hrlt,hb⟩;have hbox:w1.cell? ⟨w.heap.size,0,none⟩=some .nilIface:=(hb.cell (p:=⟨w.heap.size,0,none⟩) (by simp)).trans (by simp);have hfz:w1.frozen? ⟨w.heap.size,0,none⟩=false:=(hb.frozen (p:=⟨w.heap.size,0,none⟩) (by simp)).trans (by simp);have HS:Hid (PS w (w1.setCell ⟨w.heap.size,0,none⟩ .nilIface) rb T s.length):=hid (PS.mk' HE.out hr hrb hb);have hc0:=HS.out.box.cell0 0 (by simp);simp only[Z0]at hc0;clear hr hrb hrlt hb;obtain⟨w2,hw2⟩:∃w2,w2=w1.setCell ⟨w.heap.size,0,none⟩ .nilIface:=⟨_,rfl⟩;rw[← hw2]at HS hc0;go_wp2_with fail;rw[← hw2];clear hw2 hbox hfz hc0;go_loopw [5] (fun v5 wr=>∃(ls:List Tm.Ty) (a:Option Addr) (cap:Nat) (T0:List Rd.Tok) (vs:List Value),v5= .slice a ls.length cap∧Hid (pE w2 wr rb s.length T T0 ls a cap vs)) (fun _ wr=>Rd.leftOf wr rb)
 case atStart=>exact⟨[],none,0,T,[],rfl,hid (pE.start HS.out.env HS.out.rd)⟩
 case round=>
  obtain⟨ls,a,cap,T0,vs,rfl,HY⟩:=hrel;have HT0:=hid (HTO.out.suf HY.out.suf);have HTX:=hid (bG rb T0 s.length wr HY.out.rd);have HYB:=hid (HS.out.box.of_heap (HY.out.gr.block w.heap.size HS.out.box.lt (fun e=>by injection e with e;have:=HS.out.lt;omega)));cases T0 with
  |nil=>
   have hto:ak ([]:List Rd.Tok)=[]:=rfl;rw[hto]at HTX;have hc3:=HYB.out.cell0 0 (by simp);have hf3:=HYB.out.frozen 0 (by simp);simp only[Z0]at hc3;have HB3:=hid (HS.out.bel.grown HY.out.gr HS.out.bel.size (fun k e=>by injection e with e;have:=HS.out.lt;omega));have hc4:(wr.setCell ⟨w.heap.size,0,none⟩ .nilIface).cell? ⟨w.heap.size,0,none⟩=some .nilIface:=World.cell?_setCell_same' _ _ _ (by rw[hc3];rfl);clear hto;go_wp2_with fail;refine HTX.out.mono ?_;rintro e w4 ⟨rfl,rfl⟩;go_wp2_with fail;refine leaves_cons (f:=49) (args:= #[.pointer (some ⟨w.heap.size,0,none⟩)]) (by simp) (by simp[go_sem]) ?_;refine(xD w.heap.size _).mono ?_;rintro e u' w5 ⟨rfl,rfl,rfl⟩;simp[Leaves,settle,results,Tryz.results25,go_sem,hc4];refine⟨HB3.out.setCell (p:=⟨w.heap.size,0,none⟩) (Z5 _) _,.inl ⟨ls,a,cap,vs,HY.out.done,rfl,?_,?_⟩⟩
   ·refine(HY.out.own.far (fun y hy=> ?_) _).mono (Nat.le_trans (Nat.le_of_lt HS.out.lt) (Nat.le_of_lt HS.out.rd.lt));have ho:=HY.out.own;subst hy;have:=ho.lt.1;have:=HS.out.lt;have:=HS.out.rd.lt;show y.block≠w.heap.size;omega
   ·refine Tm.cF.al ?_ ?_ ls vs (Tm.cF.low (Nat.le_of_lt HS.out.lt) ls vs HY.out.enc)
    ·exact fun g xs hg hrow=>Below.heap_setCell w4 ⟨w.heap.size,0,none⟩ .nilIface g (by show g≠w.heap.size;omega)
    ·exact fun g xs hg hrow=>Below.heap_setCell w4 ⟨w.heap.size,0,none⟩ .nilIface g (by show g≠w.heap.size;omega)
  |cons t T1=>
   have htx:ak (t::T1)=t.1:=rfl;rw[htx]at HTX;have htne:=(HT0.out t (by simp)).1;have q1:(t.1==[])=false:=by rw[Z8];exact htne
   have q1b:(t.1 !=[])=true:=by rw[bne,q1];rfl
   have q1c:t.1.isEmpty=false:=by cases h9:t.1 with|nil=>exact absurd h9 htne|cons a b=>rfl
   have HA:=hid (bS rb (t::T1) s.length wr HY.out.rd);have hat:Ex.dP s.length (t::T1)=t.2:=rfl;rw[hat]at HA;have HM:=hid (dB wr rb s.length (t::T1) Tm.cN (by decide) HY.out.rd);unfold Bad aC at HM;have hfew:=HY.out.few;generalize hnn:ls.length=n at *
   have HN:=hid hnn;have HTNE:=hid htne;clear hnn htx hat htne
   by_cases hst:t.1=Tm.cN
   ·have q2:(t.1==[115,116,114,117,99,116])=true:=by rw[beq_iff_eq];exact hst
    have HST:=hid hst
    by_cases h8:n=8
    ·have q3:((n:Int)==8)=true:=by rw[beq_iff_eq];omega
     have q4:(n==8)=true:=by rw[beq_iff_eq];exact h8
     have H8:=hid h8;clear h8 hfew hst;go_wp2_with fail;refine HTX.out.mono ?_;rintro e w4 ⟨rfl,rfl⟩;go_wp2_with fail;refine HTX.out.mono ?_;rintro e w4 ⟨rfl,rfl⟩;go_wp2_with fail;refine HA.out.mono ?_;rintro e w4 ⟨rfl,rfl⟩;go_wp2_with fail;obtain⟨w8,hw8⟩:∃w8,w8=w4:=⟨_,rfl⟩;refine(HF.out _ _ _ _).mono ?_;rintro e w3 ⟨rfl,hrow,hb9⟩;obtain⟨g,hgq⟩:∃g,g=w8.heap.size:=⟨_,rfl⟩;rw[← hw8,← hgq]at hrow;rw[← hw8]at hb9 HY;rw[← hw8,← hgq];have hgle:w8.heap.size≤g:=by rw[hgq];exact Z5 _
     have hgr9:=ar hb9 (some rb);clear hw8 hb9 hgq;have hg3:=ah HY.out.gr hgr9;have hg:w2.heap.size≤g:=Nat.le_trans (HY.out.gr).size hgle;have hbox3:=HS.out.box.of_heap (hg3.block w.heap.size HS.out.box.lt (fun e=>by injection e with e;have:=HS.out.lt;omega));have hc3:=hbox3.cell0 0 (by simp);have hf3:=hbox3.frozen 0 (by simp);simp only[Z0]at hc3;have hl3:=hbox3.lt;have HB3:=hid (HS.out.bel.grown hg3 HS.out.bel.size (fun k e=>by injection e with e;have:=HS.out.lt;omega));have hgne:w.heap.size < g:=by have:=HS.out.bel.size;have h2:=HS.out.lt;have h3:=HS.out.rd.lt;omega
     have HROW:=hid hrow;have HGN:=hid hgne;have HNEG:=hid (show ∀L,¬Tm.Tys s.length 0 T L from HY.out.stuck (by simp) (fun h=>absurd (HN.out.symm▸h) (by have:=H8.out;omega)));clear hg hg3 hbox3 hgne;go_wp2_with fail;refine leaves_cons (f:=49) (args:= #[.pointer (some ⟨w.heap.size,0,none⟩)]) (by simp) (by simp[go_sem]) ?_;refine(fB w.heap.size .nilIface g [] _ hc3 hf3 hl3).mono ?_;rintro e u' w9 ⟨rfl,rfl,o,rfl⟩;have hc5:(w3.setCell ⟨w.heap.size,0,none⟩ (.iface 120 (.pointer (some ⟨g,0,none⟩)))).cell? ⟨w.heap.size,0,none⟩=some (.iface 120 (.pointer (some ⟨g,0,none⟩))):=World.cell?_setCell_same' _ _ _ (by rw[hc3];rfl);have hb6:=(Y4 (w3.setCell ⟨w.heap.size,0,none⟩ (.iface 120 (.pointer (some ⟨g,0,none⟩)))).heap.size (w3.setCell ⟨w.heap.size,0,none⟩ (.iface 120 (.pointer (some ⟨g,0,none⟩))))).alloc (Z5 _) o;have hc6:((w3.setCell ⟨w.heap.size,0,none⟩ (.iface 120 (.pointer (some ⟨g,0,none⟩)))).alloc o).cell? ⟨w.heap.size,0,none⟩=some (.iface 120 (.pointer (some ⟨g,0,none⟩))):=(hb6.cell (p:=⟨w.heap.size,0,none⟩) (by simpa using hl3)).trans hc5;have hrow6:=((HROW.out.far (p:=⟨w.heap.size,0,none⟩) (Nat.ne_of_gt HGN.out) (.iface 120 (.pointer (some ⟨g,0,none⟩)))).alloc o);have hbel:Below w.heap.size w ((w3.setCell ⟨w.heap.size,0,none⟩ (.iface 120 (.pointer (some ⟨g,0,none⟩)))).alloc o):=(HB3.out.setCell (p:=⟨w.heap.size,0,none⟩) (Z5 _) _).alloc (by simpa using HB3.out.size) o;simp[Leaves,settle,results,Tryz.results25,go_sem,hc6];exact⟨hbel,.inr ⟨HNEG.out,g,_,_,rfl,hrow6⟩⟩
    ·have q3:((n:Int)==8)=false:=by rw[Z8];omega
     have q4:(n==8)=false:=by rw[Z8];exact h8
     obtain⟨hs1,hs2⟩:=BJ (show n≤8 by omega);have H8:=hid (show n < 8 by omega);clear h8 hfew hst;go_wp2_with fail;refine HTX.out.mono ?_;rintro e w4 ⟨rfl,rfl⟩;go_wp2_with fail;refine HTX.out.mono ?_;rintro e w4 ⟨rfl,rfl⟩;go_wp2_with fail;refine HM.out.mono ?_;rintro e w5 (⟨t',R,hcons,_,rfl,hr5,hg5⟩|⟨hno,_⟩)
     rotate_left
     ·exact absurd HST.out hno
     cases hcons;have HEN5:=hid (HY.out.env.grown hg5 HY.out.rd.lt);have HR5:=hid hr5;have HG5:=hid hg5;have HTR:=hid (HT0.out.suf (List.suffix_cons t T1));clear hr5 hg5 HM HTX HA;go_wp2_with fail;refine(bS rb T1 s.length _ HR5.out).mono ?_;rintro e w6 ⟨rfl,rfl⟩;obtain⟨at_,hat⟩:∃a,a=Ex.dP s.length T1:=⟨_,rfl⟩;rw[← hat];have HAT:=hid hat;clear hat;have HB6:=hid (mR.start HEN5.out HR5.out at_);go_wp2_with fail;have HNM:=hid (lC _ rb s.length T1 HB6.out.rd HTR.out);unfold Bad aC at HNM;refine HNM.out.mono ?_;rintro e w7 (⟨u,R,rfl,hu,rfl,hr7,hg7⟩|⟨hno,g,en,p,rfl,g1,g2,g3⟩)
     ·have HB7:=hid (HB6.out.move hr7 hg7);obtain⟨a0,b0⟩:=HB7.out.cell 0 (by simp);have HB8:=hid (HB7.out.set 0 (by simp) (.string (aa u.1)));simp only[Z0]at a0;have HU:=hid hu;have HATU:=hid (show at_=u.2 from HAT.out);have HTR2:=hid (HTR.out.suf (List.suffix_cons u R));clear hr7 hg7 hu HNM;go_wp2_with fail;have HBK:=hid (Bp rb s.length R HTR2.out _ HB8.out.env HB8.out.rd);unfold jk Bad aC at HBK;refine HBK.out.mono ?_;rintro e w9 (⟨l,R2,ga,cb,bs,hbp,rfl,hown,henc,hr9,hg9⟩|⟨hno,g,en,p,rfl,g1,g2,g3⟩)
      ·have HB9:=hid (HB8.out.move hr9 hg9);obtain⟨a2,b2⟩:=HB9.out.cell 2 (by simp);have HBA:=hid (HB9.out.set 2 (by simp) (.slice ga (Tm.Its.len l) cb));obtain⟨k1,k2⟩:=HB9.out.keeps 2 (.slice ga (Tm.Its.len l) cb);have HK1:=hid k1;have HK2:=hid k2;obtain⟨c0,_⟩:=HBA.out.cell 0 (by simp);obtain⟨c1,_⟩:=HBA.out.cell 1 (by simp);obtain⟨c2,_⟩:=HBA.out.cell 2 (by simp);simp only[Z2,Z3,Z0,Z1]at a2 c0 c1 c2;have HBP:=hid hbp;have HOW:=hid (hown.mono (show rb+1≤_ from HB8.out.rd.lt));have HEC:=hid (Tm.bp.of henc);clear hr9 hg9 hbp hown henc HBK k1 k2;have hgt:=ah HG5.out HBA.out.gr;have HGT:=hid hgt;have hownA:=HY.out.own.grown hgt (fun y hy e=>by injection e with e;have ho:=HY.out.own;subst hy;have:=ho.lt.1;have:=HY.out.lt;omega);rw[HN.out]at hownA;have HOA:=hid hownA;have hbs:w2.heap.size≤(w9.setCell ⟨w6.heap.size,2,none⟩ (.slice ga (Tm.Its.len l) cb)).heap.size:=Nat.le_trans HY.out.gr.size hgt.size;clear hgt hownA;have HSZ9:Hid (w9.heap.size=(w9.setCell ⟨w6.heap.size,2,none⟩ (.slice ga (Tm.Its.len l) cb)).heap.size):=hid (by simp);go_wp2_with (with_reducible refine ly (w9.setCell ⟨w6.heap.size,2,none⟩ (.slice ga (Tm.Its.len l) cb)) w9.heap.size HSZ9.out rfl _ _ 23 rfl w2.heap.size 97 (.agg #[.string ByteArray.empty,.int .i64 0,.slice none 0 0]) 3 48 Tryz.underlying23 Dm rfl (by decide) a n cap vs rfl HOA.out [.string (aa u.1),.int .i64 (at_:Nat),.slice ga (Tm.Its.len l) cb] rfl (by simp[Value.oneCell']) rfl hs1 hs2 hbs ?_;intro a' cap' wB hownB hgrowB hlocB hszB hexB);have HSB:=hid (HY.out.push (by rw[HN.out];exact H8.out) HST.out HU.out HBP.out HBA.out.rd HGT.out (HOW.out.al fun y hy=>by have ho:=HOW.out;subst hy;exact HK2.out _ _ (by have:=ho.lt.1;omega) ho.row.2.2.2.2) (Tm.Enc.rM HK1.out HK2.out _ _ HEC.out) (by rw[HN.out,← HATU.out];exact hownB) hgrowB);have hml:Rd.leftOf wB rb < Rd.leftOf w4 rb:=by
        rw[HSB.out.rd.left,HY.out.rd.left];have:=HBP.out.suf.2;simp only[Z6];omega
       have HML:=hid hml;have hl5:(ls++[(⟨u.1,u.2,l⟩:Tm.Ty)]).length=n+1:=by rw[Z7,HN.out];rfl
       clear hownB hgrowB hlocB hszB hexB hml;go_wp2_with fail;go_roundw
       case rel=>exact⟨ls++[⟨u.1,u.2,l⟩],a',cap',R2,_,by rw[hl5],HSB⟩
       case measure=>exact HML.out
      ·skip
       have hg3:=ah (ah HY.out.gr (ah HG5.out HB8.out.gr)) g3;have hg:w2.heap.size≤g:=Nat.le_trans ((ah HY.out.gr (ah HG5.out HB8.out.gr))).size g2;have hbox3:=HS.out.box.of_heap (hg3.block w.heap.size HS.out.box.lt (fun e=>by injection e with e;have:=HS.out.lt;omega));have hc3:=hbox3.cell0 0 (by simp);have hf3:=hbox3.frozen 0 (by simp);simp only[Z0]at hc3;have hl3:=hbox3.lt;have HB3:=hid (HS.out.bel.grown hg3 HS.out.bel.size (fun k e=>by injection e with e;have:=HS.out.lt;omega));have hgne:w.heap.size < g:=by have:=HS.out.bel.size;have h2:=HS.out.lt;have h3:=HS.out.rd.lt;omega
       have HROW:=hid g1;have HGN:=hid hgne;have HNEG:=hid (show ∀L,¬Tm.Tys s.length 0 T L from HY.out.stuck (by simp) (fun _ t2 m U R ty e1 e2 e3 e4=>by cases e1;exact hno _ _ e4));clear hg hg3 hbox3 hgne;go_wp2_with fail;refine leaves_cons (f:=49) (args:= #[.pointer (some ⟨w.heap.size,0,none⟩)]) (by simp) (by simp[go_sem]) ?_;refine(fB w.heap.size .nilIface g [] _ hc3 hf3 hl3).mono ?_;rintro e u' wz ⟨rfl,rfl,o,rfl⟩;have hc5:(w9.setCell ⟨w.heap.size,0,none⟩ (.iface 120 (.pointer (some ⟨g,0,none⟩)))).cell? ⟨w.heap.size,0,none⟩=some (.iface 120 (.pointer (some ⟨g,0,none⟩))):=World.cell?_setCell_same' _ _ _ (by rw[hc3];rfl);have hb6:=(Y4 (w9.setCell ⟨w.heap.size,0,none⟩ (.iface 120 (.pointer (some ⟨g,0,none⟩)))).heap.size (w9.setCell ⟨w.heap.size,0,none⟩ (.iface 120 (.pointer (some ⟨g,0,none⟩))))).alloc (Z5 _) o;have hc6:((w9.setCell ⟨w.heap.size,0,none⟩ (.iface 120 (.pointer (some ⟨g,0,none⟩)))).alloc o).cell? ⟨w.heap.size,0,none⟩=some (.iface 120 (.pointer (some ⟨g,0,none⟩))):=(hb6.cell (p:=⟨w.heap.size,0,none⟩) (by simpa using hl3)).trans hc5;have hrow6:=((HROW.out.far (p:=⟨w.heap.size,0,none⟩) (Nat.ne_of_gt HGN.out) (.iface 120 (.pointer (some ⟨g,0,none⟩)))).alloc o);have hbel:Below w.heap.size w ((w9.setCell ⟨w.heap.size,0,none⟩ (.iface 120 (.pointer (some ⟨g,0,none⟩)))).alloc o):=(HB3.out.setCell (p:=⟨w.heap.size,0,none⟩) (Z5 _) _).alloc (by simpa using HB3.out.size) o;simp[Leaves,settle,results,Tryz.results25,go_sem,hc6];exact⟨hbel,.inr ⟨HNEG.out,g,_,_,rfl,hrow6⟩⟩
     ·skip
      have hg3:=ah (ah HY.out.gr (ah HG5.out HB6.out.gr)) g3;have hg:w2.heap.size≤g:=Nat.le_trans ((ah HY.out.gr (ah HG5.out HB6.out.gr))).size g2;have hbox3:=HS.out.box.of_heap (hg3.block w.heap.size HS.out.box.lt (fun e=>by injection e with e;have:=HS.out.lt;omega));have hc3:=hbox3.cell0 0 (by simp);have hf3:=hbox3.frozen 0 (by simp);simp only[Z0]at hc3;have hl3:=hbox3.lt;have HB3:=hid (HS.out.bel.grown hg3 HS.out.bel.size (fun k e=>by injection e with e;have:=HS.out.lt;omega));have hgne:w.heap.size < g:=by have:=HS.out.bel.size;have h2:=HS.out.lt;have h3:=HS.out.rd.lt;omega
      have HROW:=hid g1;have HGN:=hid hgne;have HNEG:=hid (show ∀L,¬Tm.Tys s.length 0 T L from HY.out.stuck (by simp) (fun _ t2 m U R ty e1 e2 e3 _=>by cases e1;rw[show Tm.ak (m::U)=m.1 from rfl,e3]at hno;cases hno));clear hg hg3 hbox3 hgne;go_wp2_with fail;refine leaves_cons (f:=49) (args:= #[.pointer (some ⟨w.heap.size,0,none⟩)]) (by simp) (by simp[go_sem]) ?_;refine(fB w.heap.size .nilIface g [] _ hc3 hf3 hl3).mono ?_;rintro e u' w9 ⟨rfl,rfl,o,rfl⟩;have hc5:(w7.setCell ⟨w.heap.size,0,none⟩ (.iface 120 (.pointer (some ⟨g,0,none⟩)))).cell? ⟨w.heap.size,0,none⟩=some (.iface 120 (.pointer (some ⟨g,0,none⟩))):=World.cell?_setCell_same' _ _ _ (by rw[hc3];rfl);have hb6:=(Y4 (w7.setCell ⟨w.heap.size,0,none⟩ (.iface 120 (.pointer (some ⟨g,0,none⟩)))).heap.size (w7.setCell ⟨w.heap.size,0,none⟩ (.iface 120 (.pointer (some ⟨g,0,none⟩))))).alloc (Z5 _) o;have hc6:((w7.setCell ⟨w.heap.size,0,none⟩ (.iface 120 (.pointer (some ⟨g,0,none⟩)))).alloc o).cell? ⟨w.heap.size,0,none⟩=some (.iface 120 (.pointer (some ⟨g,0,none⟩))):=(hb6.cell (p:=⟨w.heap.size,0,none⟩) (by simpa using hl3)).trans hc5;have hrow6:=((HROW.out.far (p:=⟨w.heap.size,0,none⟩) (Nat.ne_of_gt HGN.out) (.iface 120 (.pointer (some ⟨g,0,none⟩)))).alloc o);have hbel:Below w.heap.size w ((w7.setCell ⟨w.heap.size,0,none⟩ (.iface 120 (.pointer (some ⟨g,0,none⟩)))).alloc o):=(HB3.out.setCell (p:=⟨w.heap.size,0,none⟩) (Z5 _) _).alloc (by simpa using HB3.out.size) o;simp[Leaves,settle,results,Tryz.results25,go_sem,hc6];exact⟨hbel,.inr ⟨HNEG.out,g,_,_,rfl,hrow6⟩⟩
   ·have q2:(t.1==[115,116,114,117,99,116])=false:=by rw[Z8];exact hst
    have HST:=hid hst;clear hfew hst;go_wp2_with fail;refine HTX.out.mono ?_;rintro e w4 ⟨rfl,rfl⟩;go_wp2_with fail;refine HTX.out.mono ?_;rintro e w4 ⟨rfl,rfl⟩;go_wp2_with fail;refine HM.out.mono ?_;rintro e w3 (⟨t',R,hcons,hx,_⟩|⟨hno,g,en,p,rfl,g1,g2,g3⟩)
    ·cases hcons;exact absurd hx HST.out
    ·skip
     have hg3:=ah HY.out.gr g3;have hg:w2.heap.size≤g:=Nat.le_trans (HY.out.gr).size g2;have hbox3:=HS.out.box.of_heap (hg3.block w.heap.size HS.out.box.lt (fun e=>by injection e with e;have:=HS.out.lt;omega));have hc3:=hbox3.cell0 0 (by simp);have hf3:=hbox3.frozen 0 (by simp);simp only[Z0]at hc3;have hl3:=hbox3.lt;have HB3:=hid (HS.out.bel.grown hg3 HS.out.bel.size (fun k e=>by injection e with e;have:=HS.out.lt;omega));have hgne:w.heap.size < g:=by have:=HS.out.bel.size;have h2:=HS.out.lt;have h3:=HS.out.rd.lt;omega
     have HROW:=hid g1;have HGN:=hid hgne;have HNEG:=hid (show ∀L,¬Tm.Tys s.length 0 T L from HY.out.stuck (by simp) (fun _ t2 m U R ty e1 e2 _ _=>by cases e1;exact HST.out e2));clear hg hg3 hbox3 hgne;go_wp2_with fail;refine leaves_cons (f:=49) (args:= #[.pointer (some ⟨w.heap.size,0,none⟩)]) (by simp) (by simp[go_sem]) ?_;refine(fB w.heap.size .nilIface g [] _ hc3 hf3 hl3).mono ?_;rintro e u' w9 ⟨rfl,rfl,o,rfl⟩;have hc5:(w3.setCell ⟨w.heap.size,0,none⟩ (.iface 120 (.pointer (some ⟨g,0,none⟩)))).cell? ⟨w.heap.size,0,none⟩=some (.iface 120 (.pointer (some ⟨g,0,none⟩))):=World.cell?_setCell_same' _ _ _ (by rw[hc3];rfl);have hb6:=(Y4 (w3.setCell ⟨w.heap.size,0,none⟩ (.iface 120 (.pointer (some ⟨g,0,none⟩)))).heap.size (w3.setCell ⟨w.heap.size,0,none⟩ (.iface 120 (.pointer (some ⟨g,0,none⟩))))).alloc (Z5 _) o;have hc6:((w3.setCell ⟨w.heap.size,0,none⟩ (.iface 120 (.pointer (some ⟨g,0,none⟩)))).alloc o).cell? ⟨w.heap.size,0,none⟩=some (.iface 120 (.pointer (some ⟨g,0,none⟩))):=(hb6.cell (p:=⟨w.heap.size,0,none⟩) (by simpa using hl3)).trans hc5;have hrow6:=((HROW.out.far (p:=⟨w.heap.size,0,none⟩) (Nat.ne_of_gt HGN.out) (.iface 120 (.pointer (some ⟨g,0,none⟩)))).alloc o);have hbel:Below w.heap.size w ((w3.setCell ⟨w.heap.size,0,none⟩ (.iface 120 (.pointer (some ⟨g,0,none⟩)))).alloc o):=(HB3.out.setCell (p:=⟨w.heap.size,0,none⟩) (Z5 _) _).alloc (by simpa using HB3.out.size) o;simp[Leaves,settle,results,Tryz.results25,go_sem,hc6];exact⟨hbel,.inr ⟨HNEG.out,g,_,_,rfl,hrow6⟩⟩
theorem ku(pb:Nat)(x:Value)(g:Nat)(older:List PanicEntry)(w:World)(hc:w.cell? ⟨pb,0,none⟩=some x)(hz:w.frozen? ⟨pb,0,none⟩=false)(hp:pb < w.heap.size):
  CallsD Tryz.prog 56 #[.pointer (some ⟨pb,0,none⟩)] (.panicking ({v:= .iface 101 (.agg #[.iface 120 (.pointer (some ⟨g,0,none⟩))]),recovered:=false}::older)) w fun e u' w'=>
   e= .returned (.tuple #[])∧u'= .panicking ({v:= .iface 101 (.agg #[.iface 120 (.pointer (some ⟨g,0,none⟩))]),recovered:=true}::older)∧∃o,w'=(w.setCell ⟨pb,0,none⟩ (.iface 120 (.pointer (some ⟨g,0,none⟩)))).alloc o:=by
 refine callsD_of_wpS Tryz.func56 rfl fun c₀ cs hu=> ?_
 simp only[Tryz.ntmps56,List.size_toArray,Z6,Y3,Nat.reduceAdd,Nat.reduceSub,Array.replicate_succ,Array.replicate_zero,List.push_toArray,List.append_toArray,List.nil_append,List.cons_append];apply wpS_seq;apply wpS_region;simp[wpOpsS,go_sem,recoverD,hu,Tryz.ntmps56,Exit.thenS];refine wpS_of_wp ?_;have hta:∀V:World,(Instr.typeAssert (.iface 101 (.agg #[.iface 120 (.pointer (some ⟨g,0,none⟩))])) 20 101 true).run Tryz.prog V= .ok (.tuple #[.agg #[.iface 120 (.pointer (some ⟨g,0,none⟩))],.bool true]) V:=fun V=>by kernel_rfl
 go_wp2_with fail;exact⟨rfl,_,rfl,.tuple #[],results_none rfl _ _ _,rfl,rfl,_,rfl⟩
theorem vr(pb:Nat)(w:World):
  CallsD Tryz.prog 56 #[.pointer (some ⟨pb,0,none⟩)] .returning w fun e u' w'=>e= .returned (.tuple #[])∧u'= .returning∧w'=w:=by
 refine callsD_of_wpS Tryz.func56 rfl fun c₀ cs hu=> ?_
 simp only[Tryz.ntmps56,List.size_toArray,Z6,Y3,Nat.reduceAdd,Nat.reduceSub,Array.replicate_succ,Array.replicate_zero,List.push_toArray,List.append_toArray,List.nil_append,List.cons_append];apply wpS_seq;apply wpS_region;simp[wpOpsS,go_sem,recoverD,hu,Tryz.ntmps56,Exit.thenS];refine wpS_of_wp ?_;go_wp2_with fail;cases c₀
 simp_all[bodyPostS,results,Tryz.results56]
namespace Tm
theorem BK{ts:List Wd}{t:Ty}{r:List Ty}{o:Option Nat}(h:o=chk ts (t::r))(h1:ts.contains t.name=true):o=some 9:=by rw[h,chk,if_pos h1]
theorem BL(ts:List Wd)(t:Ty)(r:List Ty)(h1:ts.contains t.name=false):chk ts (t::r)=match dW ts t.items [] []with| .bad e=>some e| .ok _ _=>chk (t.name::ts) r:=by
 rw[chk,h1,if_neg (by decide)];unfold dW;cases bC ts t.items [] []with
 |bad e=>rfl
 |ok n2 s2=>
  simp only[];cases dr t.items.row <;> rfl
end Tm
def jn(w:World)(o:Option Nat)(e:Ending)(w':World):Prop:=Below w.heap.size w w'∧match o with
 |none=>e= .returned .nilIface
 |some n=>∃g p:Nat,e= .returned (.iface 120 (.pointer (some ⟨g,0,none⟩)))∧ad w' g 0 122 [.int .i64 (n:Nat),.int .i64 (p:Nat)]
structure ChS(w wr:World)(ts:List Tm.Wd):Prop where
 bel:Below w.heap.size w wr
 box:ad wr w.heap.size 0 30 [.nilIface]
 tm:NameSet wr (w.heap.size+1) ts
 lt:w.heap.size+1 < wr.heap.size
theorem BM(w:World):ChS w ((w.alloc (.cells #[.nilIface] 30)).alloc (.map #[] 0)) []:=by
 have hb:=((Y4 w.heap.size w).alloc (Z5 _) (.cells #[.nilIface] 30));refine⟨hb.alloc (by simp) _,(ad.new w 30 #[.nilIface]).alloc _,?_,by simp⟩;have:=gL.made (P:=Tryz.prog) (k:=9) (e:=3) (w.alloc (.cells #[.nilIface] 30));rw[World.size_alloc]at this;exact this
theorem BN{w wr:World}{ts:List Tm.Wd}(h:ChS w wr ts)(bx:Obj):
  ItS (wr.alloc bx) (((wr.alloc bx).alloc (.map #[] 0)).alloc (.cells #[.map (some (w.heap.size+1)),.map (some (wr.heap.size+1)),.slice none 0 0] 107)) (wr.heap.size+2) (w.heap.size+1) (wr.heap.size+1) ts [] [] none 0:=by
 have h1:Below wr.heap.size wr (wr.alloc bx):=(Y4 _ _).alloc (Z5 _) _;have h2:Below (wr.alloc bx).heap.size (wr.alloc bx) ((wr.alloc bx).alloc (.map #[] 0)):=(Y4 _ _).alloc (Z5 _) _;have h3:Below ((wr.alloc bx).alloc (.map #[] 0)).heap.size ((wr.alloc bx).alloc (.map #[] 0)) (((wr.alloc bx).alloc (.map #[] 0)).alloc (.cells #[.map (some (w.heap.size+1)),.map (some (wr.heap.size+1)),.slice none 0 0] 107)):=(Y4 _ _).alloc (Z5 _) _;have hlt:=h.lt;have t1:=h.tm.al (h1.block _ h.tm.lt);have t2:=t1.al (h2.block _ t1.lt);have t3:=t2.al (h3.block _ t2.lt);have m2:=gL.made (P:=Tryz.prog) (k:=9) (e:=3) (wr.alloc bx);rw[World.size_alloc]at m2;have m3:=m2.al (h3.block _ m2.lt);refine⟨h2.trans (h3.mono h2.size),?_,by simp,t3,m3,by simp,an.nil _ _ _ _,by omega⟩;have:=ad.new ((wr.alloc bx).alloc (.map #[] 0)) 107 #[.map (some (w.heap.size+1)),.map (some (wr.heap.size+1)),.slice none 0 0];rw[World.size_alloc,World.size_alloc]at this;exact this
theorem ChS.done{w wr w4 w5:World}{ts ns' seen:List Tm.Wd}{bx:Obj}{cb mb sc:Nat}{sa:Option Addr}{s:Tm.Wd}(h:ChS w wr ts)(hi:ItS (wr.alloc bx) w4 cb (w.heap.size+1) mb ts ns' seen sa sc)(hm:gL Tryz.prog 9 3 w5 (w.heap.size+1) (ts.length+1) (s::ts))(hg:w4.grownBy w5 (some (w.heap.size+1))):ChS w w5 (s::ts):=by
 have h1:Below wr.heap.size wr (wr.alloc bx):=(Y4 _ _).alloc (Z5 _) _;have h4:Below wr.heap.size wr w4:=h1.trans (hi.bel.mono (by simp));have hb:=h.bel.trans (h4.mono h.bel.size);have hbx:=h.box.below h4 h.box.lt;refine⟨hb.grown hg hb.size (fun k e=>by injection e with e;omega),hbx.of_heap (hg.block _ hbx.lt (fun e=>by injection e with e;omega)),hm,?_⟩;have:=h.lt;have h5:=h4.size;have h6:=hg.size;omega
theorem BO(tys:List Tm.Ty)(w:World)(rb cap B:Nat)(a:Option Addr)(vs:List Value)(ho:an w B 97 3 a tys.length cap vs)(he:Tm.cF w rb tys vs)(hF:∀t∈tys,Tm.aZ t∧Tm.oj t.items∧Tm.Its.sz t.items≤100000)(hn:tys.length≤100):
  Calls Tryz.prog 26 #[.slice a tys.length cap] w (jn w (Tm.chk [] tys)):=by
 have hcap:tys.length≤cap:=aT ho;obtain⟨n,hn'⟩:∃n,n=tys.length:=⟨_,rfl⟩;rw[← hn']at hcap hn⊢;have HO:=hid ho;have HE:=hid he;have HF:=hid hF;have HN:=hid hn';have hmk:∀V,(Instr.makeMap 103 none).run Tryz.prog V= .ok (.map (some V.heap.size)) (V.alloc (.map #[] 0)):=fun V=>by kernel_rfl
 have S0:=hid (BM w);clear ho he hF hn'
 go_enter_defers Tryz.func26,Tryz.ntmps26
 go_wp2_with fail;go_loopw [11] (fun v11 wr=>∃(i:Nat) (ts:List Tm.Wd),v11= .int .i64 (i:Nat)∧i≤n∧Hid (Tm.chk [] tys=Tm.chk ts (tys.drop i))∧Hid (ChS w wr ts)∧Hid (ts.length=i)) (fun v11 _=>n - (intOf v11).toNat)
 case atStart=>exact⟨0,[],rfl,Nat.zero_le _,hid rfl,S0,hid rfl⟩
 case round=>
  obtain⟨i,ts,rfl,hi,HQ,HS,HTL⟩:=hrel;clear S0
  by_cases hin:i < n
  ·have q1:decide ((i:Int) < (n:Int))=true:=Z9 (by omega);have q2:decide (i < n)=true:=Z9 hin;have hii:(i:Int) < (n:Int):=by omega
   have HLT:=hid hin;obtain⟨x,rfl⟩:∃x,a=some x:=by
    cases a with
    |none=>have:=HO.out.aO.1;rw[← HN.out]at this;omega
    |some x=>exact⟨x,rfl⟩
   obtain⟨gb,rfl⟩:∃gb,x=⟨gb,0,none⟩:=⟨x.block,HO.out.row.1⟩;obtain⟨t,r,hdr⟩:=Tm.ie tys i (by rw[← HN.out];exact hin);have hmem:t∈tys:=by
    have:t∈tys.drop i:=by rw[hdr];simp
    exact List.mem_of_mem_drop this
   obtain⟨hft,hfx,hfs⟩:=HF.out t hmem;obtain⟨ga,capb,bs,g1,g2,g3,g4⟩:=Tm.cF.ty HO.out HE.out hdr;rw[hdr]at HQ;have HNX:=hid g4;have HFT:=hid hft;have HFX:=hid hfx;have HFS:=hid hfs;have hbel1:Below w.heap.size w (wr.alloc (.cells #[.string (aa t.name),.int .i64 (t.at_:Nat),.slice ga (Tm.Its.len t.items) capb] 97)):=HS.out.bel.alloc HS.out.bel.size _;have HOB:=hid (g1.below hbel1 (Z5 _));have HEB:=hid (show Tm.bp _ rb t.items bs from Tm.Enc.grown (ar hbel1 (some rb)) t.items bs g2);have hrow:=g3.below HS.out.bel g3.lt;have c0:=hrow.cell 0 (by simp);have c1:=hrow.cell 1 (by simp);have c2:=hrow.cell 2 (by simp);simp only[Z0,Z1,Y2]at c0 c1 c2;have HBX:=hid (ad.new wr 97 #[.string (aa t.name),.int .i64 (t.at_:Nat),.slice ga (Tm.Its.len t.items) capb]);have hnl:t.name.length≤100000:=by have:=Tm.cd hft.1.2;omega
   have htm1:=HS.out.tm.al (((Y4 wr.heap.size wr).alloc (Z5 _) (.cells #[.string (aa t.name),.int .i64 (t.at_:Nat),.slice ga (Tm.Its.len t.items) capb] 97)).block _ HS.out.tm.lt);have hk9:=htm1.look Tryz.underlying9 Tryz.underlying103 Tryz.underlying3 (tk _) t.name hnl;have HI0:=hid (BN HS.out (.cells #[.string (aa t.name),.int .i64 (t.at_:Nat),.slice ga (Tm.Its.len t.items) capb] 97));have HBEL1:=hid hbel1;have HNL:=hid hnl;have hb31:=HI0.out.bel;have c23:=(HBX.out.below hb31 HBX.out.lt).cell0 2 (by simp);simp only[Z0,Z1]at c23;clear g1 g2 g3 g4 hrow hdr hmem hft hfx hfs hbel1 hnl htm1 hb31;cases hin9:ts.contains t.name with
   |true=>
    simp only[hin9,if_true]at hk9;have HIN:=hid hin9;clear hin9 c23;go_wp2_with fail;refine(cA 9 t.at_ _).mono ?_;rintro e w9 ⟨rfl,g1,g2⟩;obtain⟨V1,hV1⟩:∃V1,V1=wr.alloc (.cells #[.string (aa t.name),.int .i64 (t.at_:Nat),.slice ga (Tm.Its.len t.items) capb] 97):=⟨_,rfl⟩;rw[← hV1]at g1 g2⊢HBEL1;have hbx1:ad V1 w.heap.size 0 30 [.nilIface]:=by rw[hV1];exact HS.out.box.alloc _
    obtain⟨g,hg⟩:∃g,g=V1.heap.size:=⟨_,rfl⟩;rw[← hg]at g1⊢;clear hV1 hg;have hbox3:=hbx1.below g2 hbx1.lt;have hc3:=hbox3.cell0 0 (by simp);have hf3:=hbox3.frozen 0 (by simp);simp only[Z0]at hc3;have hl3:=hbox3.lt;have HROW:=hid g1;have HBX3:=hid hbox3;have HB3:=hid (HBEL1.out.trans (g2.mono HBEL1.out.size));have HEQ:=hid (Tm.BK HQ.out HIN.out:Tm.chk [] tys=some 9);clear hbox3;go_wp2_with fail;refine leaves_cons (f:=56) (args:= #[.pointer (some ⟨w.heap.size,0,none⟩)]) (by simp) (by simp[go_sem]) ?_;refine(ku w.heap.size .nilIface g [] _ hc3 hf3 hl3).mono ?_;rintro e u' wz ⟨rfl,rfl,o,rfl⟩;have hc5:(w9.setCell ⟨w.heap.size,0,none⟩ (.iface 120 (.pointer (some ⟨g,0,none⟩)))).cell? ⟨w.heap.size,0,none⟩=some (.iface 120 (.pointer (some ⟨g,0,none⟩))):=World.cell?_setCell_same' _ _ _ (by rw[hc3];rfl);have hb6:=(Y4 (w9.setCell ⟨w.heap.size,0,none⟩ (.iface 120 (.pointer (some ⟨g,0,none⟩)))).heap.size (w9.setCell ⟨w.heap.size,0,none⟩ (.iface 120 (.pointer (some ⟨g,0,none⟩))))).alloc (Z5 _) o;have hc6:((w9.setCell ⟨w.heap.size,0,none⟩ (.iface 120 (.pointer (some ⟨g,0,none⟩)))).alloc o).cell? ⟨w.heap.size,0,none⟩=some (.iface 120 (.pointer (some ⟨g,0,none⟩))):=(hb6.cell (p:=⟨w.heap.size,0,none⟩) (by simpa using hl3)).trans hc5;have hgne:g≠w.heap.size:=by
     intro e;have:=(e▸HROW.out:ad w9 w.heap.size 0 122 _).ty HBX3.out;exact absurd this (by decide)
    have hrow6:=((HROW.out.far (p:=⟨w.heap.size,0,none⟩) hgne (.iface 120 (.pointer (some ⟨g,0,none⟩)))).alloc o);have hbel:Below w.heap.size w ((w9.setCell ⟨w.heap.size,0,none⟩ (.iface 120 (.pointer (some ⟨g,0,none⟩)))).alloc o):=(HB3.out.setCell (p:=⟨w.heap.size,0,none⟩) (Z5 _) _).alloc (by simpa using HB3.out.size) o;simp[Leaves,settle,results,Tryz.results26,go_sem,hc6];refine⟨hbel,?_⟩;rw[HEQ.out];exact⟨g,_,rfl,hrow6⟩
   |false=>
    simp only[hin9,Bool.false_eq_true,if_false]at hk9;have HIN:=hid hin9;clear hin9;have HIT:=hid (BI t.items _ _ rb capb _ _ _ 0 ga none bs ts [] [] ⟨HOB.out,HEB.out,HI0.out.bel⟩ HI0.out (by have:=HFS.out;simp;omega) (by have:=HFS.out;simp;omega) (Nat.le_trans (Tm.kS t.items) HFS.out) HFT.out.2 HFX.out);unfold pO iJ at HIT;go_wp2_with fail;refine HIT.out.mono ?_;intro e w4 hp4;have HCI:=hid (HQ.out.trans (Tm.BL ts t r HIN.out));cases hit:Tm.dW ts t.items [] []with
    |bad en=>
     rw[hit]at hp4;obtain⟨hb4,g,p,rfl,g1⟩:=hp4;have HH:=hid hit;clear hit HIT hk9 c0 c1 c2 c23;have hbox3:=((HS.out.box.alloc _).below hb4 (HS.out.box.alloc _).lt);have hc3:=hbox3.cell0 0 (by simp);have hf3:=hbox3.frozen 0 (by simp);simp only[Z0]at hc3;have hl3:=hbox3.lt;have HROW:=hid g1;have HBX3:=hid hbox3;have HB3:=hid (HBEL1.out.trans (hb4.mono HBEL1.out.size));have HEQ:=hid (HCI.out.trans (by rw[HH.out]):Tm.chk [] tys=some en);clear hbox3;go_wp2_with fail;refine leaves_cons (f:=56) (args:= #[.pointer (some ⟨w.heap.size,0,none⟩)]) (by simp) (by simp[go_sem]) ?_;refine(ku w.heap.size .nilIface g [] _ hc3 hf3 hl3).mono ?_;rintro e u' wz ⟨rfl,rfl,o,rfl⟩;have hc5:(w4.setCell ⟨w.heap.size,0,none⟩ (.iface 120 (.pointer (some ⟨g,0,none⟩)))).cell? ⟨w.heap.size,0,none⟩=some (.iface 120 (.pointer (some ⟨g,0,none⟩))):=World.cell?_setCell_same' _ _ _ (by rw[hc3];rfl);have hb6:=(Y4 (w4.setCell ⟨w.heap.size,0,none⟩ (.iface 120 (.pointer (some ⟨g,0,none⟩)))).heap.size (w4.setCell ⟨w.heap.size,0,none⟩ (.iface 120 (.pointer (some ⟨g,0,none⟩))))).alloc (Z5 _) o;have hc6:((w4.setCell ⟨w.heap.size,0,none⟩ (.iface 120 (.pointer (some ⟨g,0,none⟩)))).alloc o).cell? ⟨w.heap.size,0,none⟩=some (.iface 120 (.pointer (some ⟨g,0,none⟩))):=(hb6.cell (p:=⟨w.heap.size,0,none⟩) (by simpa using hl3)).trans hc5;have hgne:g≠w.heap.size:=by
      intro e;have:=(e▸HROW.out:ad w4 w.heap.size 0 122 _).ty HBX3.out;exact absurd this (by decide)
     have hrow6:=((HROW.out.far (p:=⟨w.heap.size,0,none⟩) hgne (.iface 120 (.pointer (some ⟨g,0,none⟩)))).alloc o);have hbel:Below w.heap.size w ((w4.setCell ⟨w.heap.size,0,none⟩ (.iface 120 (.pointer (some ⟨g,0,none⟩)))).alloc o):=(HB3.out.setCell (p:=⟨w.heap.size,0,none⟩) (Z5 _) _).alloc (by simpa using HB3.out.size) o;simp[Leaves,settle,results,Tryz.results26,go_sem,hc6];refine⟨hbel,?_⟩;rw[HEQ.out];exact⟨g,_,rfl,hrow6⟩
    |ok ns4 s4=>
     rw[hit]at hp4;obtain⟨rfl,sa4,sc4,hs4⟩:=hp4;have HH:=hid hit;have S4:=hid hs4;have d0:=(HBX.out.below hs4.bel HBX.out.lt).cell0 0 (by simp);simp only[Z0]at d0;clear hit HIT hk9 c0 c1 c2 c23 hs4;go_wp2_with (refine kr w4 rfl _ _ _ 103 rfl 9 3 Tryz.underlying103 Tryz.underlying9 Tryz.underlying3 (w.heap.size+1) ts.length ts rfl S4.out.tm (by have:=HTL.out;show ts.length < 9223372036854775807;omega) t.name HNL.out rfl rfl ?_;intro w5 hm5 hg5);have S5:=hid (HS.out.done S4.out hm5 hg5);have HQ5:=hid (show Tm.chk [] tys=Tm.chk (t.name::ts) (tys.drop (i+1)) by rw[HCI.out,HH.out,HNX.out]);clear hm5 hg5 d0;go_wp2_with fail;go_roundw
     case rel=>exact⟨i+1,t.name::ts,by go_num,by have:=HLT.out;omega,HQ5,S5,hid (by rw[Z6,HTL.out])⟩
     case measure=>simp[intOf];have:=HLT.out;omega
  ·obtain rfl:i=n:=by omega
   have q1:decide ((i:Int) < (i:Int))=false:=by simp
   have q2:decide (i < i)=false:=by simp
   have HEQ:=hid (show Tm.chk [] tys=none by rw[HQ.out,HN.out,List.drop_length];rfl);have hc3:=HS.out.box.cell0 0 (by simp);have hf3:=HS.out.box.frozen 0 (by simp);simp only[Z0]at hc3;have hc4:(wr.setCell ⟨w.heap.size,0,none⟩ .nilIface).cell? ⟨w.heap.size,0,none⟩=some .nilIface:=World.cell?_setCell_same' _ _ _ (by rw[hc3];rfl);go_wp2_with fail;refine leaves_cons (f:=56) (args:= #[.pointer (some ⟨w.heap.size,0,none⟩)]) (by simp) (by simp[go_sem]) ?_;refine(vr w.heap.size _).mono ?_;rintro e u' w5 ⟨rfl,rfl,rfl⟩;simp[Leaves,settle,results,Tryz.results26,go_sem,hc4];refine⟨HS.out.bel.setCell (p:=⟨w.heap.size,0,none⟩) (Z5 _) _,?_⟩;rw[HEQ.out]
namespace Tm
theorem jo:∀x:Ex.X,(ca x).length≤nodes x
 | .num _ _=>by simp[ca,nodes]
 | .name _ _=>by simp[ca,nodes]
 | .bin _ _ l r=>by
  have h1:=jo l;have h2:=jo r;simp only[ca,nodes,Z7];omega
variable{E d:Nat}
theorem vt{T R:List Rd.Tok}{x:Ex.X}(h:eI E T x R)(hw:cU T):(prX x).length+30 * R.length≤30 * T.length∧(ca x).length+R.length≤T.length:=by
 have h1:=xF h x R rfl;simp only[Y2]at h1;have h2:=mD x (h.ew hw).1;have h3:=jo x;exact⟨by show(Ex.pr Num.dec x).length+_≤_;omega,by omega⟩
theorem vu{r:Rl}(h:zB r):(bn none r).length≤34:=by
 cases r with
 |none=>simp[bn]
 |size f=>have:=cd h.2;simp[bn,dA];omega
 |count f=>have:=cd h.2;simp[bn,cu];omega
 |check f l=>
  have h1:=cd h.1.2;have h2:=cd h.2.2
  by_cases hlf:l=f
  ·subst hlf;simp[bn,bL];omega
  ·simp[bn,hlf,bL];omega
theorem DB{k:Knd}(h:zA k):(kf k).length≤12:=by
 cases k with
 |scalar w=>have:=vp h;simp only[kf];omega
 |bytes=>decide
 |struct t=>exact cd h.2
theorem GF{T R:List Rd.Tok}{a:Hd}(h:HdP E T a R)(hw:cU T)(hd:d≤8):(prH d a).length+64 * R.length≤64 * T.length∧(dV a.cnt).length+R.length≤T.length∧R.length+1≤T.length:=by
 have hf:=h.ew hw;have hk:=DB hf.1;have hn:=cd hf.2.1.2;have hlen:(prH d a).length=2 * d+(kf a.k).length+1+a.name.length+(bn a.cnt a.ax).length+2:=by
  unfold prH pad;simp only[Z7,Z6,Y3,List.length_replicate];omega
 rw[hlen];cases h with
 |@mk t n s T R k c r h1 h2 h3 h4=>
  simp only[]at hk hn hf⊢;cases h3 with
  |cnt hc hb=>
   cases hc with
   |no h5=>
    have:=vu (r:= .none) trivial;simp only[Z6,dV,Y3]at *
    omega
   |@yes o u T' _ x h5 h6 h7=>
    have hw':cU T':=hw.suf ((List.suffix_cons _ _).trans ((List.suffix_cons _ _).trans (List.suffix_cons _ _)));obtain⟨g1,g2⟩:=vt h6 hw';have g3:(bn (some x) .none).length=(prX x).length+2:=by simp[bn]
    rw[g3];simp only[Z6,dV]at *
    omega
  |@ax w o T' _ _ h5 h6=>
   have h8:=h6.suf.length_le;have h7:=vu hf.2.2.2.1;simp only[Z6,dV,Y3]at *
   omega
theorem Fb{n:Nat}{T R:List Rd.Tok}{l:Its}(h:Blk E d n T l R):cU T→d≤8→T.length≤100000→(prI d l).length+64 * R.length≤64 * T.length∧l.sz+R.length≤T.length∧oj l:=by
 induction h with
 |fin h1=>
  intro _ _ _;simp only[prI,Its.sz,oj,Y3,Z6];exact⟨by omega,by omega,trivial⟩
 |@item d n T R1 R a l h1 h2 h3 ih=>
  intro hw hd hT;obtain⟨g1,g2,g3⟩:=GF h2 hw hd;obtain⟨i1,i2,i3⟩:=ih (hw.suf h2.suf.1) hd (by omega);simp only[prI,Its.sz,oj,Z7];exact⟨by omega,by omega,by omega,i3⟩
 |@when d n t b T T2 R1 R c body l h1 h2 h3 h4 h5 h6 h7 ih1 ih2=>
  intro hw hd hT;have hw1:=hw.suf (List.suffix_cons t T);obtain⟨g1,g2⟩:=vt h3 hw1;have hw2:cU T2:=(hw1.suf h3.suf.1).suf (List.suffix_cons _ _);simp only[Z6]at hT g1 g2⊢;obtain⟨i1,i2,i3⟩:=ih1 hw2 h5 (by omega);have hs:=h6.suf;obtain⟨j1,j2,j3⟩:=ih2 (hw2.suf hs.1) hd (by omega);have hww:dz.length=4:=rfl;refine⟨?_,?_,by omega,i3,j3⟩
  ·unfold prI pad;simp only[Z7,Z6,Y3,List.length_replicate];omega
  ·simp only[Its.sz];omega
theorem Fc{n:Nat}{T:List Rd.Tok}{l:List Ty}(h:Tys E n T l):cU T→T.length≤100000→(cS l).length≤64 * T.length∧∀t∈l,oj t.items∧t.items.sz≤100000:=by
 induction h with
 |fin=>intro _ _;exact⟨by simp[cS],fun t ht=>by cases ht⟩
 |@one n t m b T R l r h1 h2 h3 h4 h5 h6 ih=>
  intro hw hT;have hw3:cU T:=hw.suf ((List.suffix_cons _ _).trans ((List.suffix_cons _ _).trans (List.suffix_cons _ _)));simp only[Z6]at hT⊢;obtain⟨g1,g2,g3⟩:=Fb h5 hw3 (by omega) (by omega);have hs:=h5.suf;obtain⟨i1,i2⟩:=ih (hw3.suf hs.1) (by omega);have hm:=cd h3;have hww:cN.length=6:=rfl;refine⟨?_,fun t' ht'=> ?_⟩
  ·have hpl:(cS (⟨m.1,m.2,l⟩::r)).length=(prT ⟨m.1,m.2,l⟩).length+(cS r).length:=by unfold cS;rw[List.flatMap_cons,Z7]
   rw[hpl];unfold prT;simp only[Z7,Z6,Y3];omega
  ·rcases List.mem_cons.1 ht' with rfl|ht'
   ·exact⟨g3,by simp only[];omega⟩
   ·exact i2 t' ht'
end Tm
theorem qW(s:List UInt8)(w:World)(hs:s.length≤3000)(hm:ec w)(hn:Lex.cZ s 0=none):
  Calls Tryz.prog 25 #[.string (aa s)] w fun e w'=>(∃g,e= .returned (.tuple #[.slice none 0 0,.iface 120 (.pointer (some ⟨g,0,none⟩))]))∧Below w.heap.size w w':=by
 have HL:=hid (uy s (w.alloc (.cells #[.nilIface] 30)) hs (hm.below ((Y4 _ w).alloc (Z5 _) _) (Z5 _)) hn);clear hs hm hn
 go_enter_defers Tryz.func25,Tryz.ntmps25
 go_wp2_with fail;refine HL.out.mono ?_;rintro e w1 ⟨⟨g,rfl⟩,hb⟩;have hbox:w1.cell? ⟨w.heap.size,0,none⟩=some .nilIface:=(hb.cell (p:=⟨w.heap.size,0,none⟩) (by simp)).trans (by simp);have hfz:w1.frozen? ⟨w.heap.size,0,none⟩=false:=(hb.frozen (p:=⟨w.heap.size,0,none⟩) (by simp)).trans (by simp);have hbb:Below w.heap.size w w1:=((Y4 _ w).alloc (Z5 _) _).trans (hb.mono (by simp));have HB:=hid hbb;have hc1:(w1.setCell ⟨w.heap.size,0,none⟩ (.iface 120 (.pointer (some ⟨g,0,none⟩)))).cell? ⟨w.heap.size,0,none⟩=some (.iface 120 (.pointer (some ⟨g,0,none⟩))):=World.cell?_setCell_same' _ _ _ (by rw[hbox];rfl);have hc2:((w1.setCell ⟨w.heap.size,0,none⟩ (.iface 120 (.pointer (some ⟨g,0,none⟩)))).setCell ⟨w.heap.size,0,none⟩ (.iface 120 (.pointer (some ⟨g,0,none⟩)))).cell? ⟨w.heap.size,0,none⟩=some (.iface 120 (.pointer (some ⟨g,0,none⟩))):=World.cell?_setCell_same' _ _ _ (by rw[hc1];rfl);clear hb hbb;go_wp2_with fail
 go_region
 all_goals
  go_wp2_with fail;simp[bodyPostD,Leaves,settle,results,Tryz.results25,go_sem,hc2];exact((HB.out.setCell (p:=⟨w.heap.size,0,none⟩) (Z5 _) _).setCell (p:=⟨w.heap.size,0,none⟩) (Z5 _) _).drew
theorem vw{s:List UInt8}{T:List Rd.Tok}(hs:s.length≤3000)(h:Lex.cZ s 0=some T):fD T∧Tm.cU T∧T.length≤s.length:=by
 have hw:=Ex.words s.length s 0 T (Z5 _) h;exact⟨fun t ht=>⟨(hw t ht).1,C1 hs h t ht⟩,fun t ht=>hw t ht,(zz s.length s 0 T (Z5 _) h).1⟩
def nQ(s:List UInt8)(tys:List Tm.Ty):Prop:=∃T,Lex.cZ s 0=some T∧Tm.Tys s.length 0 T tys
def Hc(w:World)(s:List UInt8)(e:Ending)(w':World):Prop:=
 Below w.heap.size w w'∧((∃tys a cap vs,nQ s tys∧e= .returned (.tuple #[.slice a (List.length tys) cap,.nilIface])∧an w' w.heap.size 97 3 a (List.length tys) cap vs∧Tm.cF w' w.heap.size tys vs)∨((∀tys,¬nQ s tys)∧∃g:Nat,e= .returned (.tuple #[.slice none 0 0,.iface 120 (.pointer (some ⟨g,0,none⟩))])))
theorem GG(s:List UInt8)(w:World)(hs:s.length≤3000)(hB:ke w):Calls Tryz.prog 25 #[.string (aa s)] w (Hc w s):=by
 cases h:Lex.cZ s 0 with
 |none=>
  refine(qW s w hs hB.mks h).mono ?_;rintro e w' ⟨⟨g,h1⟩,h2⟩;exact⟨h2,.inr ⟨fun tys ⟨T,h3,_⟩=>(by rw[h]at h3;cases h3),g,h1⟩⟩
 |some T=>
  refine(yE s T w hs hB.mks hB.env h (vw hs h).1).mono ?_;rintro e w' ⟨h1,⟨tys,a,cap,vs,h2,h3,h4,h5⟩|⟨h2,g,n,p,h3,h4⟩⟩
  ·exact⟨h1,.inl ⟨tys,a,cap,vs,⟨T,h,h2⟩,h3,h4,h5⟩⟩
  ·exact⟨h1,.inr ⟨fun tys ⟨T',h5,h6⟩=>by rw[h]at h5;cases h5;exact h2 tys h6,g,h3⟩⟩
theorem nQ.det{s:List UInt8}{l m:List Tm.Ty}(h:nQ s l)(h':nQ s m):l=m:=by
 obtain⟨T,h1,h2⟩:=h;obtain⟨T',h3,h4⟩:=h';rw[h1]at h3;cases h3;exact h2.det m h4
end
end Go.Proofs.YtlomecfhobehnaaGreatDoor
