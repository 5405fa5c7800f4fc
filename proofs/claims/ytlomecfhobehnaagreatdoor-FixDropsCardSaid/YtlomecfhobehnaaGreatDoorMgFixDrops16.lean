import Derived.Test.YtlomecfhobehnaaGreatDoorMgFixDrops15
set_option linter.all false
set_option maxRecDepth 100000
set_option maxHeartbeats 8000000
namespace Go.Proofs.YtlomecfhobehnaaGreatDoor
open Lib (hid)
section
open Go.RowKit
open Rd
def iS(g:Nat):Ending:= .panicked [{v:= .iface 101 (.agg #[.iface 120 (.pointer (some ⟨g,0,none⟩))]),recovered:=false}]
theorem cB(e p:Nat)(w:World):
  Calls Tryz.prog 57 #[.int .i64 (e:Nat),.int .i64 (p:Nat)] w fun en w'=>en= .panicked [{v:= .iface 101 (.agg #[.iface 120 (.pointer (some ⟨w.heap.size,0,none⟩))]),recovered:=false}]∧ae w' w.heap.size 0 122 [.int .i64 (e:Nat),.int .i64 (p:Nat)]∧Below w.heap.size w w':=by
 have hrow:=ae.new w 122 #[.int .i64 (e:Nat),.int .i64 (p:Nat)];have hb:=(Y4 w.heap.size w).alloc (Z5 _) (.cells #[.int .i64 (e:Nat),.int .i64 (p:Nat)] 122);go_enter Tryz.func57,Tryz.ntmps57;go_wp2_with fail;exact⟨rfl,rfl,hrow,hb⟩
def Ko(B:Nat)(o:Option Nat)(e:Ending)(w':World):Prop:=match o with
 |none=>e= .returned (.tuple #[])
 |some n=>∃g p:Nat,e=iS g∧ae w' g 0 122 [.int .i64 (n:Nat),.int .i64 (p:Nat)]∧B≤g
namespace Tm
theorem iT{R rest:List Sk}{k:Nat}{s:Sk}{o:Option Nat}(h:o=dU R k (s::rest))(h1:bB R k s=none):o=dU R (k+1) rest:=by
 rw[h,dU,h1]
theorem gz{R rest:List Sk}{k e:Nat}{s:Sk}{o:Option Nat}(h:o=dU R k (s::rest))(h1:bB R k s=some e):o=some e:=by
 rw[h,dU,h1]
theorem Be{R rest:List Sk}{k:Nat}{s:Sk}{o:Option Nat}(h:o=cyc R k (s::rest))(h1:(aK s.ay&&eO R R.length k k)=false):o=cyc R (k+1) rest:=by
 rw[h,cyc,h1];rfl
theorem JI{R rest:List Sk}{k:Nat}{s:Sk}{o:Option Nat}(h:o=cyc R k (s::rest))(h1:(aK s.ay&&eO R R.length k k)=true):o=some 11:=by
 rw[h,cyc,h1];rfl
theorem dV{R:List Sk}{e:Nat}(h:dU R 0 R=some e):dw R=some e:=by unfold dw;rw[h]
theorem Fp{R:List Sk}(h:dU R 0 R=none):dw R=cyc R 0 R:=by unfold dw;rw[h]
theorem wV{R:List Sk}{k:Nat}{s:Sk}(h:R[k]? =some s):R.drop k=s::R.drop (k+1):=by
 have hk:k < R.length:=by
  rcases Nat.lt_or_ge k R.length with g|g
  ·exact g
  ·rw[List.getElem?_eq_none g]at h;cases h
 rw[List.drop_eq_getElem_cons hk];rw[Y1 hk]at h;injection h with h
 rw[h]
end Tm
theorem CV(V:World)(rb cap n cb:Nat)(l:Tm.Its)(ga:Option Addr)(bs:List Value)(w:World)(hn:n=Tm.Its.len l)(hn2:n≤100000)(h:ItV V w rb l ga cap bs):
  Calls Tryz.prog 91 #[.pointer (some ⟨cb,0,none⟩),.slice ga n cap] w fun e w'=>Below w.heap.size w w'∧Ko w.heap.size (Tm.dw l.row) e w':=by
 have hcap:n≤cap:=by rw[hn];exact aW h.own
 have HF:=hid (fun W hW nm=>qy V rb cap n l ga bs nm W hn hn2 hW);have HRD:=hid (fun W hW k hk=>te V rb cap n l ga bs hn hn2 n hn2 W k k hW hk hk);have HV:=hid h;have HN:=hid hn;clear h hn;go_enter Tryz.func91,Tryz.ntmps91;go_wp2_with fail;go_loopw [11] (fun v11 wr=>∃k:Nat,v11= .int .i64 k∧k≤n∧Hid (Tm.dU l.row 0 l.row=Tm.dU l.row k (l.row.drop k))∧Hid (Below w.heap.size w wr)) (fun v11 _=>n - (intOf v11).toNat)
 case atStart=>exact⟨0,rfl,Nat.zero_le _,hid (by rw[List.drop_zero]),hid (Y4 _ _)⟩
 case round=>
  obtain⟨k,rfl,hk,HQ0,HBW⟩:=hrel
  by_cases hlt:k < n
  ·have hki:(k:Int) < (n:Int):=by omega
   have q1:decide ((k:Int) < (n:Int))=true:=Z9 hki;have q2:decide (k < n)=true:=Z9 hlt;have HLT:=hid hlt;obtain⟨x,rfl⟩:∃x,ga=some x:=by
    cases ga with
    |none=>have:=HV.out.own.aS.1;rw[← HN.out]at this;omega
    |some x=>exact⟨x,rfl⟩
   obtain⟨gb,rfl⟩:∃gb,x=⟨gb,0,none⟩:=⟨x.block,HV.out.own.row.1⟩;obtain⟨s,k0,k1,k4,k5,s3,b6,p8,a12,n12,c12,hs,hrow,hk0,hk4,hw4⟩:=(HV.out.up HBW.out).cells k (by rw[← HN.out];exact hlt);have HQ:=hid (HQ0.out.trans (by rw[Tm.wV hs]));have HROW:=hid hrow;have HW4:=hid hw4;have HVR:=hid (HV.out.up HBW.out);have c9:=hrow.cell 9 (by simp);have c10:=hrow.cell 10 (by simp);simp only[aQ,Z0,Z1]at c9 c10;clear hrow hs hk0 hk4 hw4 HQ0 hlt;cases hr:s.ay with
   |none=>
    rw[hr]at c9 c10;simp only[av,Tm.bk]at c9 c10;have HR:=hid hr;clear hr;have HQ2:=hid (Tm.iT HQ.out (show Tm.bB l.row k s=none from by unfold Tm.bB;rw[HR.out];rfl));go_wp2_with fail;go_roundw
    case rel=>exact⟨k+1,by go_num,by have:=HLT.out;omega,HQ2,HBW⟩
    case measure=>simp[intOf];have:=HLT.out;omega
   |size f=>
    rw[hr]at c9 c10;simp only[av,Tm.bk]at c9 c10;have HR:=hid hr;clear hr;obtain⟨fa,hfa⟩:∃fa,fa=Tm.aV l.row f:=⟨_,rfl⟩;have hbd:=Tm.jA l.row f;rw[← hfa]at hbd;have HBD:=hid hbd;have HA:=hid hfa.symm;clear hfa hbd;have HB:=HA;go_wp2_with fail;refine(HF.out wr HVR.out f).mono ?_;rintro e w2 ⟨rfl,hb2⟩;rw[HA.out];have HB2:=hid hb2;clear hb2;have c9:=(HROW.out.below HB2.out HROW.out.lt).cell 9 (by simp);simp only[aQ,Z0,Z1]at c9;rw[HR.out]at c9;simp only[av]at c9
    by_cases h1:fa < 0
    ·skip
     have d1:decide (fa < 0)=true:=Z9 h1;have HE:=hid (Tm.dV (Tm.gz HQ.out (show Tm.bB l.row k s=some 7 from by unfold Tm.bB;simp only[HR.out,Tm.isNone,Tm.bY,Tm.aK,Tm.bk,Tm.cX,Tm.db,if_true,if_false,Bool.false_eq_true];simp only[HA.out,HB.out];simp[h1])));have c1:=(HROW.out.below HB2.out HROW.out.lt).cell 1 (by simp);simp only[aQ,Z0,Z1]at c1;go_wp2_with fail;refine(cB 7 k1 w2).mono ?_;rintro e wF ⟨rfl,g1,g2⟩;have HB9:=hid ((HBW.out.trans (HB2.out.mono HBW.out.size)).trans (g2.mono ((HBW.out.trans (HB2.out.mono HBW.out.size))).size));have G1:=hid g1;have G2:=hid (Nat.le_trans HBW.out.size (HB2.out).size);clear g1 g2;go_wp2_with fail;refine⟨rfl,HB9.out,?_⟩;rw[HE.out];exact⟨_,_,rfl,G1.out,G2.out⟩
    ·skip
     have d1:decide (fa < 0)=false:=Y9 h1
     by_cases h6:fa≤(k:Int)
     ·skip
      have d6:decide (fa≤(k:Int))=true:=Z9 h6
      by_cases h7:(k:Int)≤fa
      ·skip
       have d7:decide ((k:Int)≤fa)=true:=Z9 h7;have HE:=hid (Tm.dV (Tm.gz HQ.out (show Tm.bB l.row k s=some 6 from by unfold Tm.bB;simp only[HR.out,Tm.isNone,Tm.bY,Tm.aK,Tm.bk,Tm.cX,Tm.db,if_true,if_false,Bool.false_eq_true];simp only[HA.out,HB.out];simp[h1,h6,h7])));have c1:=(HROW.out.below HB2.out HROW.out.lt).cell 1 (by simp);simp only[aQ,Z0,Z1]at c1;go_wp2_with fail;refine(cB 6 k1 w2).mono ?_;rintro e wF ⟨rfl,g1,g2⟩;have HB9:=hid ((HBW.out.trans (HB2.out.mono HBW.out.size)).trans (g2.mono ((HBW.out.trans (HB2.out.mono HBW.out.size))).size));have G1:=hid g1;have G2:=hid (Nat.le_trans HBW.out.size (HB2.out).size);clear g1 g2;go_wp2_with fail;refine⟨rfl,HB9.out,?_⟩;rw[HE.out];exact⟨_,_,rfl,G1.out,G2.out⟩
      ·skip
       have d7:decide ((k:Int)≤fa)=false:=Y9 h7;have HQ2:=hid (Tm.iT HQ.out (show Tm.bB l.row k s=none from by unfold Tm.bB;simp only[HR.out,Tm.isNone,Tm.bY,Tm.aK,Tm.bk,Tm.cX,Tm.db,if_true,if_false,Bool.false_eq_true];simp only[HA.out,HB.out];simp[h1,h6,h7]));have HB9:=hid (HBW.out.trans (HB2.out.mono HBW.out.size));go_wp2_with fail;go_roundw
       case rel=>exact⟨k+1,by go_num,by have:=HLT.out;omega,HQ2,HB9⟩
       case measure=>simp[intOf];have:=HLT.out;omega
     ·skip
      have d6:decide (fa≤(k:Int))=false:=Y9 h6;have HQ2:=hid (Tm.iT HQ.out (show Tm.bB l.row k s=none from by unfold Tm.bB;simp only[HR.out,Tm.isNone,Tm.bY,Tm.aK,Tm.bk,Tm.cX,Tm.db,if_true,if_false,Bool.false_eq_true];simp only[HA.out,HB.out];simp[h1,h6]));have HB9:=hid (HBW.out.trans (HB2.out.mono HBW.out.size));go_wp2_with fail;go_roundw
      case rel=>exact⟨k+1,by go_num,by have:=HLT.out;omega,HQ2,HB9⟩
      case measure=>simp[intOf];have:=HLT.out;omega
   |count f=>
    rw[hr]at c9 c10;simp only[av,Tm.bk]at c9 c10;have HR:=hid hr;clear hr;obtain⟨fa,hfa⟩:∃fa,fa=Tm.aV l.row f:=⟨_,rfl⟩;have hbd:=Tm.jA l.row f;rw[← hfa]at hbd;have HBD:=hid hbd;have HA:=hid hfa.symm;clear hfa hbd;have HB:=HA;go_wp2_with fail;refine(HF.out wr HVR.out f).mono ?_;rintro e w2 ⟨rfl,hb2⟩;rw[HA.out];have HB2:=hid hb2;clear hb2;have c9:=(HROW.out.below HB2.out HROW.out.lt).cell 9 (by simp);simp only[aQ,Z0,Z1]at c9;rw[HR.out]at c9;simp only[av]at c9
    by_cases h1:fa < 0
    ·skip
     have d1:decide (fa < 0)=true:=Z9 h1;have HE:=hid (Tm.dV (Tm.gz HQ.out (show Tm.bB l.row k s=some 7 from by unfold Tm.bB;simp only[HR.out,Tm.isNone,Tm.bY,Tm.aK,Tm.bk,Tm.cX,Tm.db,if_true,if_false,Bool.false_eq_true];simp only[HA.out,HB.out];simp[h1])));have c1:=(HROW.out.below HB2.out HROW.out.lt).cell 1 (by simp);simp only[aQ,Z0,Z1]at c1;go_wp2_with fail;refine(cB 7 k1 w2).mono ?_;rintro e wF ⟨rfl,g1,g2⟩;have HB9:=hid ((HBW.out.trans (HB2.out.mono HBW.out.size)).trans (g2.mono ((HBW.out.trans (HB2.out.mono HBW.out.size))).size));have G1:=hid g1;have G2:=hid (Nat.le_trans HBW.out.size (HB2.out).size);clear g1 g2;go_wp2_with fail;refine⟨rfl,HB9.out,?_⟩;rw[HE.out];exact⟨_,_,rfl,G1.out,G2.out⟩
    ·skip
     have d1:decide (fa < 0)=false:=Y9 h1;obtain⟨m,hm⟩:∃m:Nat,fa=(m:Int):=⟨fa.toNat,by omega⟩;have hml:m < n:=by have h8:=HBD.out;rw[Tm.cT,← HN.out]at h8;omega
     obtain⟨s',j0,j1,j4,j5,j3,e6,q8,f12,m12,d12,hs',hrow',_,_,_⟩:=(HVR.out.up HB2.out).cells m (by rw[← HN.out];exact hml);have c7:=hrow'.cell 7 (by simp);simp only[aQ,Z0,Z1]at c7;have HMA:=hid (show Tm.nI l.row (m:Int)=s'.many by unfold Tm.nI;rw[Int.toNat_natCast,hs']);clear hrow' hs';subst hm;have hmi:(m:Int) < (n:Int):=by omega
     cases hmy:s'.many with
     |false=>
      rw[hmy]at c7 HMA;have HE:=hid (Tm.dV (Tm.gz HQ.out (show Tm.bB l.row k s=some 13 from by unfold Tm.bB;simp only[HR.out,Tm.isNone,Tm.bY,Tm.aK,Tm.bk,Tm.cX,Tm.db,if_true,if_false,Bool.false_eq_true];simp only[HA.out,HB.out];simp[h1,HMA.out])));have c1:=(HROW.out.below HB2.out HROW.out.lt).cell 1 (by simp);simp only[aQ,Z0,Z1]at c1;go_wp2_with fail;refine(cB 13 k1 w2).mono ?_;rintro e wF ⟨rfl,g1,g2⟩;have HB9:=hid ((HBW.out.trans (HB2.out.mono HBW.out.size)).trans (g2.mono ((HBW.out.trans (HB2.out.mono HBW.out.size))).size));have G1:=hid g1;have G2:=hid (Nat.le_trans HBW.out.size (HB2.out).size);clear g1 g2;go_wp2_with fail;refine⟨rfl,HB9.out,?_⟩;rw[HE.out];exact⟨_,_,rfl,G1.out,G2.out⟩
     |true=>
      rw[hmy]at c7 HMA
      by_cases h6:(m:Int)≤(k:Int)
      ·skip
       have d6:decide ((m:Int)≤(k:Int))=true:=Z9 h6;have d6n:decide (m≤k)=true:=Z9 (by omega)
       by_cases h7:(k:Int)≤(m:Int)
       ·skip
        have d7:decide ((k:Int)≤(m:Int))=true:=Z9 h7;have d7n:decide (k≤m)=true:=Z9 (by omega);have HE:=hid (Tm.dV (Tm.gz HQ.out (show Tm.bB l.row k s=some 6 from by unfold Tm.bB;simp only[HR.out,Tm.isNone,Tm.bY,Tm.aK,Tm.bk,Tm.cX,Tm.db,if_true,if_false,Bool.false_eq_true];simp only[HA.out,HB.out];simp[h1,HMA.out,h6,h7,(show m≤k by omega),(show k≤m by omega)])));have c1:=(HROW.out.below HB2.out HROW.out.lt).cell 1 (by simp);simp only[aQ,Z0,Z1]at c1;go_wp2_with fail;refine(cB 6 k1 w2).mono ?_;rintro e wF ⟨rfl,g1,g2⟩;have HB9:=hid ((HBW.out.trans (HB2.out.mono HBW.out.size)).trans (g2.mono ((HBW.out.trans (HB2.out.mono HBW.out.size))).size));have G1:=hid g1;have G2:=hid (Nat.le_trans HBW.out.size (HB2.out).size);clear g1 g2;go_wp2_with fail;refine⟨rfl,HB9.out,?_⟩;rw[HE.out];exact⟨_,_,rfl,G1.out,G2.out⟩
       ·skip
        have d7:decide ((k:Int)≤(m:Int))=false:=Y9 h7;have d7n:decide (k≤m)=false:=Y9 (by omega);have HQ2:=hid (Tm.iT HQ.out (show Tm.bB l.row k s=none from by unfold Tm.bB;simp only[HR.out,Tm.isNone,Tm.bY,Tm.aK,Tm.bk,Tm.cX,Tm.db,if_true,if_false,Bool.false_eq_true];simp only[HA.out,HB.out];simp[h1,HMA.out,h6,h7,(show m≤k by omega),(show ¬k≤m by omega)]));have HB9:=hid (HBW.out.trans (HB2.out.mono HBW.out.size));go_wp2_with fail;go_roundw
        case rel=>exact⟨k+1,by go_num,by have:=HLT.out;omega,HQ2,HB9⟩
        case measure=>simp[intOf];have:=HLT.out;omega
      ·skip
       have d6:decide ((m:Int)≤(k:Int))=false:=Y9 h6;have d6n:decide (m≤k)=false:=Y9 (by omega);have HQ2:=hid (Tm.iT HQ.out (show Tm.bB l.row k s=none from by unfold Tm.bB;simp only[HR.out,Tm.isNone,Tm.bY,Tm.aK,Tm.bk,Tm.cX,Tm.db,if_true,if_false,Bool.false_eq_true];simp only[HA.out,HB.out];simp[h1,HMA.out,h6,(show ¬m≤k by omega)]));have HB9:=hid (HBW.out.trans (HB2.out.mono HBW.out.size));go_wp2_with fail;go_roundw
       case rel=>exact⟨k+1,by go_num,by have:=HLT.out;omega,HQ2,HB9⟩
       case measure=>simp[intOf];have:=HLT.out;omega
   |check f f2=>
    rw[hr]at c9 c10;simp only[av,Tm.bk]at c9 c10;have HR:=hid hr;clear hr;obtain⟨fa,hfa⟩:∃fa,fa=Tm.aV l.row f:=⟨_,rfl⟩;have hbd:=Tm.jA l.row f;rw[← hfa]at hbd;have HBD:=hid hbd;have HA:=hid hfa.symm;clear hfa hbd;obtain⟨fb,hfb⟩:∃fb,fb=Tm.aV l.row f2:=⟨_,rfl⟩;have HB:=hid hfb.symm;clear hfb;go_wp2_with fail;refine(HF.out wr HVR.out f).mono ?_;rintro e w2 ⟨rfl,hb2⟩;rw[HA.out];have HB2:=hid hb2;clear hb2;have c9':=(HROW.out.below HB2.out HROW.out.lt).cell 9 (by simp);have c11:=(HROW.out.below HB2.out HROW.out.lt).cell 11 (by simp);simp only[aQ,Z0,Z1]at c9' c11;rw[HR.out]at c9' c11;simp only[av,Tm.cX]at c9' c11;go_wp2_with fail;refine(HF.out w2 (HVR.out.up HB2.out) f2).mono ?_;rintro e w3 ⟨rfl,hb3⟩;rw[HB.out];have HB3:=hid (HB2.out.trans (hb3.mono HB2.out.size));clear hb3 c9' c11;have c9:=(HROW.out.below HB3.out HROW.out.lt).cell 9 (by simp);simp only[aQ,Z0,Z1]at c9;rw[HR.out]at c9;simp only[av]at c9
    by_cases h1:fa < 0
    ·skip
     have d1:decide (fa < 0)=true:=Z9 h1;have HE:=hid (Tm.dV (Tm.gz HQ.out (show Tm.bB l.row k s=some 7 from by unfold Tm.bB;simp only[HR.out,Tm.isNone,Tm.bY,Tm.aK,Tm.bk,Tm.cX,Tm.db,if_true,if_false,Bool.false_eq_true];simp only[HA.out,HB.out];simp[h1])));have c1:=(HROW.out.below HB3.out HROW.out.lt).cell 1 (by simp);simp only[aQ,Z0,Z1]at c1;go_wp2_with fail;refine(cB 7 k1 w3).mono ?_;rintro e wF ⟨rfl,g1,g2⟩;have HB9:=hid ((HBW.out.trans (HB3.out.mono HBW.out.size)).trans (g2.mono ((HBW.out.trans (HB3.out.mono HBW.out.size))).size));have G1:=hid g1;have G2:=hid (Nat.le_trans HBW.out.size (HB3.out).size);clear g1 g2;go_wp2_with fail;refine⟨rfl,HB9.out,?_⟩;rw[HE.out];exact⟨_,_,rfl,G1.out,G2.out⟩
    ·skip
     have d1:decide (fa < 0)=false:=Y9 h1
     by_cases h2:fb < 0
     ·skip
      have d2:decide (fb < 0)=true:=Z9 h2;have HE:=hid (Tm.dV (Tm.gz HQ.out (show Tm.bB l.row k s=some 7 from by unfold Tm.bB;simp only[HR.out,Tm.isNone,Tm.bY,Tm.aK,Tm.bk,Tm.cX,Tm.db,if_true,if_false,Bool.false_eq_true];simp only[HA.out,HB.out];simp[h1,h2])));have c1:=(HROW.out.below HB3.out HROW.out.lt).cell 1 (by simp);simp only[aQ,Z0,Z1]at c1;go_wp2_with fail;refine(cB 7 k1 w3).mono ?_;rintro e wF ⟨rfl,g1,g2⟩;have HB9:=hid ((HBW.out.trans (HB3.out.mono HBW.out.size)).trans (g2.mono ((HBW.out.trans (HB3.out.mono HBW.out.size))).size));have G1:=hid g1;have G2:=hid (Nat.le_trans HBW.out.size (HB3.out).size);clear g1 g2;go_wp2_with fail;refine⟨rfl,HB9.out,?_⟩;rw[HE.out];exact⟨_,_,rfl,G1.out,G2.out⟩
     ·skip
      have d2:decide (fb < 0)=false:=Y9 h2;have c4:=(HROW.out.below HB3.out HROW.out.lt).cell 4 (by simp);have c6:=(HROW.out.below HB3.out HROW.out.lt).cell 6 (by simp);simp only[aQ,Z0,Z1]at c4 c6
      by_cases h4:k4=4
      ·skip
       have t1:((k4:Int)==4)=true:=by rw[beq_iff_eq];omega
       have t2:((k4:Int)!=4)=false:=by rw[bne,t1];rfl
       have t3:(k4==4)=true:=by rw[beq_iff_eq];exact h4
       have t4:(k4 !=4)=false:=by rw[bne,t3];rfl
       cases hb6:b6 with
       |true=>
        have HW6:=hid (show s.w4=false by rw[HW4.out,hb6];simp);rw[hb6]at c6;clear h4;have HE:=hid (Tm.dV (Tm.gz HQ.out (show Tm.bB l.row k s=some 13 from by unfold Tm.bB;simp only[HR.out,Tm.isNone,Tm.bY,Tm.aK,Tm.bk,Tm.cX,Tm.db,if_true,if_false,Bool.false_eq_true];simp only[HA.out,HB.out];simp[h1,h2,HW6.out])));have c1:=(HROW.out.below HB3.out HROW.out.lt).cell 1 (by simp);simp only[aQ,Z0,Z1]at c1;go_wp2_with fail;refine(cB 13 k1 w3).mono ?_;rintro e wF ⟨rfl,g1,g2⟩;have HB9:=hid ((HBW.out.trans (HB3.out.mono HBW.out.size)).trans (g2.mono ((HBW.out.trans (HB3.out.mono HBW.out.size))).size));have G1:=hid g1;have G2:=hid (Nat.le_trans HBW.out.size (HB3.out).size);clear g1 g2;go_wp2_with fail;refine⟨rfl,HB9.out,?_⟩;rw[HE.out];exact⟨_,_,rfl,G1.out,G2.out⟩
       |false=>
        have HW6:=hid (show s.w4=true by rw[HW4.out,hb6];simp[h4]);rw[hb6]at c6;clear h4
        by_cases h5:fb < fa
        ·skip
         have d5:decide (fb < fa)=true:=Z9 h5;have HE:=hid (Tm.dV (Tm.gz HQ.out (show Tm.bB l.row k s=some 10 from by unfold Tm.bB;simp only[HR.out,Tm.isNone,Tm.bY,Tm.aK,Tm.bk,Tm.cX,Tm.db,if_true,if_false,Bool.false_eq_true];simp only[HA.out,HB.out];simp[h1,h2,HW6.out,h5])));have c1:=(HROW.out.below HB3.out HROW.out.lt).cell 1 (by simp);simp only[aQ,Z0,Z1]at c1;go_wp2_with fail;refine(cB 10 k1 w3).mono ?_;rintro e wF ⟨rfl,g1,g2⟩;have HB9:=hid ((HBW.out.trans (HB3.out.mono HBW.out.size)).trans (g2.mono ((HBW.out.trans (HB3.out.mono HBW.out.size))).size));have G1:=hid g1;have G2:=hid (Nat.le_trans HBW.out.size (HB3.out).size);clear g1 g2;go_wp2_with fail;refine⟨rfl,HB9.out,?_⟩;rw[HE.out];exact⟨_,_,rfl,G1.out,G2.out⟩
        have d5:decide (fb < fa)=false:=Y9 h5
        by_cases h6:fa≤(k:Int)
        ·skip
         have d6:decide (fa≤(k:Int))=true:=Z9 h6
         by_cases h7:(k:Int)≤fb
         ·skip
          have d7:decide ((k:Int)≤fb)=true:=Z9 h7;have HE:=hid (Tm.dV (Tm.gz HQ.out (show Tm.bB l.row k s=some 6 from by unfold Tm.bB;simp only[HR.out,Tm.isNone,Tm.bY,Tm.aK,Tm.bk,Tm.cX,Tm.db,if_true,if_false,Bool.false_eq_true];simp only[HA.out,HB.out];simp[h1,h2,HW6.out,h5,h6,h7])));have c1:=(HROW.out.below HB3.out HROW.out.lt).cell 1 (by simp);simp only[aQ,Z0,Z1]at c1;go_wp2_with fail;refine(cB 6 k1 w3).mono ?_;rintro e wF ⟨rfl,g1,g2⟩;have HB9:=hid ((HBW.out.trans (HB3.out.mono HBW.out.size)).trans (g2.mono ((HBW.out.trans (HB3.out.mono HBW.out.size))).size));have G1:=hid g1;have G2:=hid (Nat.le_trans HBW.out.size (HB3.out).size);clear g1 g2;go_wp2_with fail;refine⟨rfl,HB9.out,?_⟩;rw[HE.out];exact⟨_,_,rfl,G1.out,G2.out⟩
         ·skip
          have d7:decide ((k:Int)≤fb)=false:=Y9 h7;have HQ2:=hid (Tm.iT HQ.out (show Tm.bB l.row k s=none from by unfold Tm.bB;simp only[HR.out,Tm.isNone,Tm.bY,Tm.aK,Tm.bk,Tm.cX,Tm.db,if_true,if_false,Bool.false_eq_true];simp only[HA.out,HB.out];simp[h1,h2,HW6.out,h5,h6,h7]));have HB9:=hid (HBW.out.trans (HB3.out.mono HBW.out.size));go_wp2_with fail;go_roundw
          case rel=>exact⟨k+1,by go_num,by have:=HLT.out;omega,HQ2,HB9⟩
          case measure=>simp[intOf];have:=HLT.out;omega
        ·skip
         have d6:decide (fa≤(k:Int))=false:=Y9 h6;have HQ2:=hid (Tm.iT HQ.out (show Tm.bB l.row k s=none from by unfold Tm.bB;simp only[HR.out,Tm.isNone,Tm.bY,Tm.aK,Tm.bk,Tm.cX,Tm.db,if_true,if_false,Bool.false_eq_true];simp only[HA.out,HB.out];simp[h1,h2,HW6.out,h5,h6]));have HB9:=hid (HBW.out.trans (HB3.out.mono HBW.out.size));go_wp2_with fail;go_roundw
         case rel=>exact⟨k+1,by go_num,by have:=HLT.out;omega,HQ2,HB9⟩
         case measure=>simp[intOf];have:=HLT.out;omega
      ·skip
       have t1:((k4:Int)==4)=false:=by rw[Z8];omega
       have t2:((k4:Int)!=4)=true:=by rw[bne,t1];rfl
       have t3:(k4==4)=false:=by rw[Z8];exact h4
       have t4:(k4 !=4)=true:=by rw[bne,t3];rfl
       have HW6:=hid (show s.w4=false by rw[HW4.out];simp[h4]);clear h4;have HE:=hid (Tm.dV (Tm.gz HQ.out (show Tm.bB l.row k s=some 13 from by unfold Tm.bB;simp only[HR.out,Tm.isNone,Tm.bY,Tm.aK,Tm.bk,Tm.cX,Tm.db,if_true,if_false,Bool.false_eq_true];simp only[HA.out,HB.out];simp[h1,h2,HW6.out])));have c1:=(HROW.out.below HB3.out HROW.out.lt).cell 1 (by simp);simp only[aQ,Z0,Z1]at c1;go_wp2_with fail;refine(cB 13 k1 w3).mono ?_;rintro e wF ⟨rfl,g1,g2⟩;have HB9:=hid ((HBW.out.trans (HB3.out.mono HBW.out.size)).trans (g2.mono ((HBW.out.trans (HB3.out.mono HBW.out.size))).size));have G1:=hid g1;have G2:=hid (Nat.le_trans HBW.out.size (HB3.out).size);clear g1 g2;go_wp2_with fail;refine⟨rfl,HB9.out,?_⟩;rw[HE.out];exact⟨_,_,rfl,G1.out,G2.out⟩
  ·obtain rfl:k=n:=by omega
   have hd:decide ((k:Int) < (k:Int))=false:=by simp
   have hd2:decide (k < k)=false:=by simp
   have HE:=hid (show Tm.dw l.row=Tm.cyc l.row 0 l.row from Tm.Fp (by rw[HQ0.out,HN.out,← Tm.cT,List.drop_length];rfl));have HE0:=HE;clear HQ0 HE;go_wp2_with fail;go_loopw [115] (fun v wr=>∃j:Nat,v= .int .i64 j∧j≤k∧Hid (Tm.cyc l.row 0 l.row=Tm.cyc l.row j (l.row.drop j))∧Hid (Below w.heap.size w wr)) (fun v _=>k - (intOf v).toNat)
   case atStart=>exact⟨0,rfl,Nat.zero_le _,hid (by rw[List.drop_zero]),HBW⟩
   case round=>
    clear HBW;obtain⟨j,rfl,hj,HQ0,HBW⟩:=hrel
    by_cases hlt:j < k
    ·have hki:(j:Int) < (k:Int):=by omega
     have q1:decide ((j:Int) < (k:Int))=true:=Z9 hki;have q2:decide (j < k)=true:=Z9 hlt;have HLT:=hid hlt;obtain⟨x,rfl⟩:∃x,ga=some x:=by
      cases ga with
      |none=>have:=HV.out.own.aS.1;rw[← HN.out]at this;omega
      |some x=>exact⟨x,rfl⟩
     obtain⟨gb,rfl⟩:∃gb,x=⟨gb,0,none⟩:=⟨x.block,HV.out.own.row.1⟩;obtain⟨s,k0,k1,k4,k5,s3,b6,p8,a12,n12,c12,hs,hrow,hk0,hk4,hw4⟩:=(HV.out.up HBW.out).cells j (by rw[← HN.out];exact hlt);have HQ:=hid (HQ0.out.trans (by rw[Tm.wV hs]));have HROW:=hid hrow;have HVR:=hid (HV.out.up HBW.out);have c9:=hrow.cell 9 (by simp);simp only[aQ,Z0,Z1]at c9;obtain⟨r1,r2,_⟩:=fq s.ay;have HCH:=hid (rfl:Tm.aK s.ay=Tm.aK s.ay);have HRL:=hid (show l.row.length=k by rw[Tm.cT,HN.out]);clear hrow hs hk0 hk4 hw4 HQ0;obtain⟨ch,hch⟩:∃ch,ch=Tm.aK s.ay:=⟨_,rfl⟩;rw[← hch]at r1 r2;have HC:=hid hch;clear hch;cases ch with
     |false=>
      have HQ2:=hid (Tm.Be HQ.out (by rw[← HC.out];rfl));go_wp2_with fail;go_roundw
      case rel=>exact⟨j+1,by go_num,by have:=HLT.out;omega,HQ2,HBW⟩
      case measure=>simp[intOf];have:=HLT.out;omega
     |true=>
      go_wp2_with fail;refine(HRD.out wr HVR.out j hlt).mono ?_;rintro e w2 ⟨rfl,hb2⟩;have HB2:=hid (HBW.out.trans (hb2.mono HBW.out.size));have c1:=(HROW.out.below hb2 HROW.out.lt).cell 1 (by simp);simp only[aQ,Z0,Z1]at c1;clear hb2;cases hr:Tm.eO l.row k j j with
      |false=>
       have HQ2:=hid (Tm.Be HQ.out (by rw[← HC.out,HRL.out,hr];rfl));clear hr;go_wp2_with fail;go_roundw
       case rel=>exact⟨j+1,by go_num,by have:=HLT.out;omega,HQ2,HB2⟩
       case measure=>simp[intOf];have:=HLT.out;omega
      |true=>
       have HE:=hid (Tm.JI HQ.out (by rw[← HC.out,HRL.out,hr];rfl));clear hr;go_wp2_with fail;refine(cB 11 k1 w2).mono ?_;rintro e wF ⟨rfl,g1,g2⟩;have HB9:=hid (HB2.out.trans (g2.mono HB2.out.size));have G1:=hid g1;clear g1 g2;go_wp2_with fail;refine⟨rfl,HB9.out,?_⟩;rw[HE0.out,HE.out];exact⟨_,_,rfl,G1.out,HB2.out.size⟩
    ·obtain rfl:j=k:=by omega
     have hd:decide ((j:Int) < (j:Int))=false:=by simp
     have hd2:decide (j < j)=false:=by simp
     have HE:=hid (show Tm.cyc l.row 0 l.row=none by rw[HQ0.out,HN.out,← Tm.cT,List.drop_length];rfl);go_wp2_with fail
     go_end0
     refine⟨HBW.out,?_⟩;rw[HE0.out,HE.out];rfl
end
end Go.Proofs.YtlomecfhobehnaaGreatDoor
