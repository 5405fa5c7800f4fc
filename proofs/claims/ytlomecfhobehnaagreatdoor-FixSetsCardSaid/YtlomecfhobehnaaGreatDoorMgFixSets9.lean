import Derived.Test.YtlomecfhobehnaaGreatDoorMgFixSets8
set_option linter.unusedVariables false
set_option linter.unusedSimpArgs false
set_option maxRecDepth 100000
set_option maxHeartbeats 1000000
namespace Go.Proofs.YtlomecfhobehnaaGreatDoor
open Lib (hid)
section
open Go Go.RowKit
open Rd
namespace Ly
open Tm
def bA(t:TypeId)(v:Value):Ending:= .panicked [{v:= .iface 110 (.agg #[.iface t v]),recovered:=false}]
def od(e:Ending):Prop:=∃t v,e=bA t v
end Ly
open Ly
theorem jO(b en:Nat)(F:Value)(s:Tm.Wd)(st:St)(w:World)(h:LR w b F s st):
  Calls Tryz.prog 31 #[.pointer (some ⟨b,0,none⟩),.int .i64 (en:Nat)] w fun e w'=>od e∧Below w.heap.size w w':=by
 have c2:=h.row.cell0 2 (by simp);simp only[Z0,Z1]at c2;have hb:=(Y4 w.heap.size w).alloc (Z5 _) (.cells #[.int .i64 (en:Nat),.int .i64 (st.at_:Nat)] 122);clear h;go_enter Tryz.func31,Tryz.ntmps31;go_wp2_with fail;exact⟨rfl,⟨_,_,rfl⟩,hb⟩
def xV(w:World)(b:Nat)(F:Value)(s:Tm.Wd)(o:Option (Tm.Wd×St))(e:Ending)(w':World):Prop:=w.grownBy w' (some b)∧match o with
 |some p=>e= .returned (.string (aa p.1))∧LR w' b F s p.2
 |none=>od e
theorem rG(b:Nat)(F:Value)(s:Tm.Wd)(st:St)(k:Int)(w:World)(h:LR w b F s st)(hs:s.length≤1000000)(hk1:-9223372036854775808≤k)(hk2:k≤9223372036854775807):
  Calls Tryz.prog 61 #[.pointer (some ⟨b,0,none⟩),.int .i64 k] w (xV w b F s (tak s k st)):=by
 have c1:=h.row.cell0 1 (by simp);have c2:=h.row.cell0 2 (by simp);simp only[Z0,Z1]at c1 c2;have hf2:=h.row.frozen 2 (by simp);have hlen:=h.len;have HL:=hid h;have HF:=hid (fun W (hW:LR W b F s st)=>show Calls Tryz.prog 31 #[.pointer (some ⟨b,0,none⟩),.int .i64 3] W fun e w'=>od e∧Below W.heap.size W w' from jO b 3 F s st W hW);clear h;have w1:wrap64 ((s.length:Int) - (st.at_:Int))=(s.length:Int) - (st.at_:Int):=IntWalk.wrap64_in _ ⟨by omega,by omega⟩;obtain⟨a,ha⟩:∃a,a=st.at_:=⟨_,rfl⟩;rw[← ha]at c2 hlen w1;have HA:=hid ha;clear ha
 by_cases hn:k < 0
 ·have d0:decide (k < 0)=true:=Z9 hn;have ht:tak s k st=none:=by unfold tak;rw[if_pos (.inl hn)]
  rw[ht];clear hn ht;go_enter Tryz.func61,Tryz.ntmps61;go_wp2_with fail;go_quiet (fail);go_wp2_with fail;refine Calls.mono (HF.out (w.drewN nq) (HL.out.al rfl)) ?_;rintro e w2 ⟨⟨t,v,he⟩,hb⟩;unfold bA at he;subst he;have HB:=hid hb;clear hb;go_wp2_with fail;exact⟨rfl,Rd.ar ((ey (Y4 w.heap.size w) _).trans HB.out) _,t,v,rfl⟩
 ·obtain⟨kn,rfl⟩:∃kn:Nat,k=(kn:Int):=⟨k.toNat,by omega⟩;have d0:decide ((kn:Int) < 0)=false:=Y9 hn
  by_cases hm:(s.length:Int) - (a:Int) < (kn:Int)
  ·have d1:decide ((s.length:Int) - (a:Int) < (kn:Int))=true:=Z9 hm;have ht:tak s (kn:Int) st=none:=by unfold tak;rw[← HA.out,if_pos (.inr hm)]
   rw[ht];clear hn hm ht;go_enter Tryz.func61,Tryz.ntmps61;go_wp2_with fail;go_quiet (fail);go_wp2_with fail;refine Calls.mono (HF.out (w.drewN nq) (HL.out.al rfl)) ?_;rintro e w2 ⟨⟨t,v,he⟩,hb⟩;unfold bA at he;subst he;have HB:=hid hb;clear hb;go_wp2_with fail;exact⟨rfl,Rd.ar ((ey (Y4 w.heap.size w) _).trans HB.out) _,t,v,rfl⟩
  ·have d1:decide ((s.length:Int) - (a:Int) < (kn:Int))=false:=Y9 hm;have ht:tak s (kn:Int) st=some ((s.drop a).take kn,⟨a+kn,st.n⟩):=by
    unfold tak;rw[← HA.out,if_neg (by omega)];simp
   rw[ht];have f5:wrap64 ((a:Int)+(kn:Int))=((a+kn:Nat):Int):=(IntWalk.wrap64_in _ ⟨by omega,by omega⟩).trans (by omega);have f6:(0:Int)≤(a:Int):=by omega
   have f7:(a:Int)≤((a+kn:Nat):Int):=by omega
   have f8:((a+kn:Nat):Int)≤(s.length:Int):=by omega
   have hx:(aa s).extract a (a+kn)=aa ((s.drop a).take kn):=by rw[jG,Nat.add_sub_cancel_left]
   have HX:=hid hx;have H8:=hid (show a+kn≤s.length by omega);clear hn hm ht;go_enter Tryz.func61,Tryz.ntmps61;go_wp2_with fail;go_quiet (fail);go_wp2_with fail;go_quiet (fail);go_wp2_with fail;go_ret;refine⟨⟨rfl,rfl,rfl,by simp[World.setCell],fun k _ h=>Below.heap_setCell _ _ _ _ (fun e=>h (congrArg some e))⟩,?_,?_⟩
   ·show Ending.returned (.string ((aa s).extract a (a+kn)))=_;rw[HX.out]
   ·exact⟨ad.aw (ad.of_heap HL.out.row rfl) 2 (by simp) _,H8.out,HL.out.few⟩
end
section
open Go Go.RowKit
open Rd
open Ly
abbrev st7(w:World)(b:Nat)(v0 v1 v2 v3 v4 v5 v6:Value):World:=
 (((((((w.setCell ⟨b,0,none⟩ v0).setCell ⟨b,1,none⟩ v1).setCell ⟨b,2,none⟩ v2).setCell ⟨b,3,none⟩ v3).setCell ⟨b,4,none⟩ v4).setCell ⟨b,5,none⟩ v5).setCell ⟨b,6,none⟩ v6)
theorem lH{w:World}{b:Nat}{T:TypeId}{ys:List Value}(h:ad w b 0 T ys)(hy:ys.length=7)(v0 v1 v2 v3 v4 v5 v6:Value):ad (st7 w b v0 v1 v2 v3 v4 v5 v6) b 0 T [v0,v1,v2,v3,v4,v5,v6]:=by
 match ys,hy with
 |[a0,a1,a2,a3,a4,a5,a6],_=>
  exact((((((h.aw 0 (by simp) v0).aw 1 (by simp) v1).aw 2 (by simp) v2).aw 3 (by simp) v3).aw 4 (by simp) v4).aw 5 (by simp) v5).aw 6 (by simp) v6
theorem cY{w:World}{b:Nat}(v0 v1 v2 v3 v4 v5 v6:Value)(g:Nat)(hg:g≠b):(st7 w b v0 v1 v2 v3 v4 v5 v6).heap[g]? =w.heap[g]? :=by
 have k:∀(W:World) (i:Nat) (v:Value),(W.setCell ⟨b,i,none⟩ v).heap[g]? =W.heap[g]? :=fun W i v=>Below.heap_setCell W ⟨b,i,none⟩ v g hg
 unfold st7
 iterate 7 rw[k]
theorem pz{w:World}{b:Nat}(v0 v1 v2 v3 v4 v5 v6:Value):(st7 w b v0 v1 v2 v3 v4 v5 v6).heap.size=w.heap.size:=by
 unfold st7;simp only[World.size_setCell]
theorem fc{w0 w:World}{r:Nat}{m:Option Nat}(h:But w0 w r m){b:Nat}(hb:w0.heap.size≤b)(i:Nat)(v:Value):But w0 (w.setCell ⟨b,i,none⟩ v) r m:=by
 have hz:(w.setCell ⟨b,i,none⟩ v).heap.size=w.heap.size:=World.size_setCell ..
 refine⟨h.os,h.tape,h.output,by rw[hz];exact h.size,fun k hk h1 h2=> ?_⟩;exact(Below.heap_setCell w ⟨b,i,none⟩ v k (show k≠b by omega)).trans (h.block k hk h1 h2)
theorem zL{w0 w:World}{b:Nat}(v0 v1 v2 v3 v4 v5 v6:Value){r:Nat}{m:Option Nat}(h:But w0 w r m)(hb:w0.heap.size≤b):But w0 (st7 w b v0 v1 v2 v3 v4 v5 v6) r m:=
 fc (fc (fc (fc (fc (fc (fc h hb 0 v0) hb 1 v1) hb 2 v2) hb 3 v3) hb 4 v4) hb 5 v5) hb 6 v6
def fr(w:World)(b:Nat)(F:Value)(s nm:Tm.Wd)(kd:Nat)(st:St)(e:Ending)(w':World):Prop:=But w w' b none∧match nod st with
 |some st1=>e= .returned (.agg (ae nm kd st.at_ 0 0 [] (.slice none 0 0)).toArray)∧LR w' b F s st1
 |none=>od e
theorem ji(b:Nat)(F:Value)(s nm:Tm.Wd)(kd g o:Nat)(st:St)(w:World)(h:LR w b F s st)(hg:g≠b)(hc:w.cell? ⟨g,o+2,none⟩=some (.string (aa nm))):
  Calls Tryz.prog 60 #[.pointer (some ⟨b,0,none⟩),.pointer (some ⟨g,o,none⟩),.int .i64 (kd:Nat)] w (fr w b F s nm kd st):=by
 have hglt:g < w.heap.size:=World.block_lt_of_cell? w _ hc;have hblt:=h.row.lt;unfold fr
 by_cases hn:st.n=400
 ·have ho:nod st=none:=by unfold nod;rw[if_pos hn]
  have c3:=(h.row.alloc (.cells #[.string {data:= #[]},.int .i64 0,.int .i64 0,.int .i64 0,.int .i64 0,.string {data:= #[]},.slice none 0 0] 28)).cell0 3 (by simp);simp only[Z0,Z1]at c3;rw[hn]at c3;rw[ho];have HL:=hid (h.al (w':=w.alloc (.cells #[.string {data:= #[]},.int .i64 0,.int .i64 0,.int .i64 0,.int .i64 0,.string {data:= #[]},.slice none 0 0] 28)) (Below.heap_alloc _ _ _ hblt));have HF:=hid (fun W (hW:LR W b F s st)=>show Calls Tryz.prog 31 #[.pointer (some ⟨b,0,none⟩),.int .i64 4] W fun e w'=>od e∧Below W.heap.size W w' from jO b 4 F s st W hW);have HB1:=hid ((Y4 w.heap.size w).alloc (Z5 _) (.cells #[.string {data:= #[]},.int .i64 0,.int .i64 0,.int .i64 0,.int .i64 0,.string {data:= #[]},.slice none 0 0] 28));clear h ho hc hn;go_enter Tryz.func60,Tryz.ntmps60;go_wp2_with fail;refine(HF.out _ HL.out).mono ?_;rintro e w2 ⟨⟨t,v,he⟩,hb⟩;unfold bA at he;subst he;have HB:=hid (HB1.out.trans (hb.mono HB1.out.size));clear hb;go_wp2_with fail;exact⟨rfl,But.az HB.out,t,v,rfl⟩
 ·obtain⟨a,ha⟩:∃a,a=st.at_:=⟨_,rfl⟩;obtain⟨n,hN⟩:∃n,n=st.n:=⟨_,rfl⟩;have ho:nod st=some ⟨a,n+1⟩:=by unfold nod;rw[if_neg hn,ha,hN]
  have hn4:n < 400:=by have:=h.few;omega
  have hr1:=h.row.alloc (.cells #[.string {data:= #[]},.int .i64 0,.int .i64 0,.int .i64 0,.int .i64 0,.string {data:= #[]},.slice none 0 0] 28);have hr2:=(h.row.aw 3 (by simp) (.int .i64 ((n:Int)+1))).alloc (.cells #[.string {data:= #[]},.int .i64 0,.int .i64 0,.int .i64 0,.int .i64 0,.string {data:= #[]},.slice none 0 0] 28);rw[← ha,← hN]at hr1 hr2;simp only[Z2,Z3]at hr2;have c3:=hr1.cell0 3 (by simp);have f3:=hr1.frozen 3 (by simp);have c2:=hr2.cell0 2 (by simp);simp only[Z0,Z1]at c3 c2;have d4:decide ((n:Int)=400)=false:=Y9 (by omega);have d5:((n:Int)==400)=false:=Z8.2 (by omega);have d6:wrap64 ((n:Int)+1)=(n:Int)+1:=IntWalk.wrap64_in _ ⟨by omega,by omega⟩;rw[ho,← ha];have HR2:=hid hr2;have HLN:=hid (show a≤s.length by rw[ha];exact h.len);clear h ho hn hr1 hr2 ha hN;have hsz:(w.setCell ⟨b,3,none⟩ (.int .i64 ((n:Int)+1))).heap.size=w.heap.size:=World.size_setCell ..
  have cg2:((w.setCell ⟨b,3,none⟩ (.int .i64 ((n:Int)+1))).alloc (.cells #[.string {data:= #[]},.int .i64 0,.int .i64 0,.int .i64 0,.int .i64 0,.string {data:= #[]},.slice none 0 0] 28)).cell? ⟨g,o+2,none⟩=some (.string (aa nm)):=(World.cell?_of_block (Below.heap_alloc _ _ _ (by rw[hsz];exact hglt))).trans ((World.cell?_of_block (Below.heap_setCell _ _ _ _ hg)).trans hc);have hbx:ad ((w.setCell ⟨b,3,none⟩ (.int .i64 ((n:Int)+1))).alloc (.cells #[.string {data:= #[]},.int .i64 0,.int .i64 0,.int .i64 0,.int .i64 0,.string {data:= #[]},.slice none 0 0] 28)) w.heap.size 0 28 [.string {data:= #[]},.int .i64 0,.int .i64 0,.int .i64 0,.int .i64 0,.string {data:= #[]},.slice none 0 0]:=by
   have:=ad.new (w.setCell ⟨b,3,none⟩ (.int .i64 ((n:Int)+1))) 28 #[.string {data:= #[]},.int .i64 0,.int .i64 0,.int .i64 0,.int .i64 0,.string {data:= #[]},.slice none 0 0];rw[hsz]at this;exact this
  have hbut:But w ((w.setCell ⟨b,3,none⟩ (.int .i64 ((n:Int)+1))).alloc (.cells #[.string {data:= #[]},.int .i64 0,.int .i64 0,.int .i64 0,.int .i64 0,.string {data:= #[]},.slice none 0 0] 28)) b none:=(But.setCell 3 _).trans (But.az ((Y4 _ _).alloc (Z5 _) _));have HBX:=hid hbx;have HBUT:=hid hbut;clear hc hbx hbut;go_enter Tryz.func60,Tryz.ntmps60;go_wp2_with fail;obtain⟨W,hW⟩:∃W,W=(w.setCell ⟨b,3,none⟩ (.int .i64 ((n:Int)+1))).alloc (.cells #[.string {data:= #[]},.int .i64 0,.int .i64 0,.int .i64 0,.int .i64 0,.string {data:= #[]},.slice none 0 0] 28):=⟨_,rfl⟩;rw[← hW]at cg2 c2 HBX HBUT HR2⊢;clear hW c3 f3;have y0:=HBX.out.cell0 0 (by simp);have z0:=HBX.out.frozen0 0 (by simp);have y1:=HBX.out.cell0 1 (by simp);have z1:=HBX.out.frozen0 1 (by simp);have y2:=HBX.out.cell0 2 (by simp);have z2:=HBX.out.frozen0 2 (by simp);have y3:=HBX.out.cell0 3 (by simp);have z3:=HBX.out.frozen0 3 (by simp);have y4:=HBX.out.cell0 4 (by simp);have z4:=HBX.out.frozen0 4 (by simp);have y5:=HBX.out.cell0 5 (by simp);have z5:=HBX.out.frozen0 5 (by simp);have y6:=HBX.out.cell0 6 (by simp);have z6:=HBX.out.frozen0 6 (by simp);simp only[Z0,Z1]at y0 y1 y2 y3 y4 y5 y6;have p0:=HBX.out.aw 0 (by simp) (.string (aa nm));have r0:=p0.cell0 0 (by simp);have p1:=p0.aw 1 (by simp) (.int .i64 (kd:Nat));have r1:=p1.cell0 1 (by simp);have p2:=p1.aw 2 (by simp) (.int .i64 (a:Nat));have r2:=p2.cell0 2 (by simp);have p3:=p2.aw 3 (by simp) (.int .i64 0);have r3:=p3.cell0 3 (by simp);have p4:=p3.aw 4 (by simp) (.int .i64 0);have r4:=p4.cell0 4 (by simp);have p5:=p4.aw 5 (by simp) (.string {data:= #[]});have r5:=p5.cell0 5 (by simp);have p6:=p5.aw 6 (by simp) (.slice none 0 0);have r6:=p6.cell0 6 (by simp);simp only[Z2,Z3,Z0,Z1]at r0 r1 r2 r3 r4 r5 r6;clear p0 p1 p2 p3 p4 p5 p6;have hbw:b≠w.heap.size:=by omega
  have hrow:ad W b 0 62 [F,.string (aa s),.int .i64 (a:Nat),.int .i64 ((n+1:Nat):Int)]:=HR2.out;have hfar:=cY (w:=W) (b:=w.heap.size) (.string (aa nm)) (.int .i64 (kd:Nat)) (.int .i64 (a:Nat)) (.int .i64 0) (.int .i64 0) (.string {data:= #[]}) (.slice none 0 0) b hbw;have hl0:LR W b F s ⟨a,n+1⟩:=⟨hrow,HLN.out,(show n+1≤400 by omega)⟩;generalize hS:st7 W w.heap.size (.string (aa nm)) (.int .i64 (kd:Nat)) (.int .i64 (a:Nat)) (.int .i64 0) (.int .i64 0) (.string {data:= #[]}) (.slice none 0 0)=S at hfar;have hlr:LR S.drew b F s ⟨a,n+1⟩:=hl0.al (w':=S.drew) hfar;rw[← hS]at hlr;clear hfar hl0 hS;have HLR:=hid hlr;clear hrow hlr;go_still_tail 10,(by kernel_rfl);change wpList _ _ _ _ _ W.drew;go_wp2_with fail;refine bodyPost_ret (v:= .agg (ae nm kd a 0 0 [] (.slice none 0 0)).toArray) (by simp[results,Tryz.results60,go_sem,r0,r1,r2,r3,r4,r5,r6];first|done|rfl) rfl ?_;refine⟨(zL _ _ _ _ _ _ _ HBUT.out (Z5 _)).drew,rfl,?_⟩;exact HLR.out
def pA(w:World)(o:Option Int)(e:Ending)(w':World):Prop:=Below w.heap.size w w'∧match o with
 |some v=>e= .returned (.int .i64 v)
 |none=>od e
theorem kQ(w:World)(rb bx n:Nat)(x:Ex.X)(mv:Value)(N:Ex.Names)(hN:lD w mv N n)(hx:IsX w rb bx x)(hf:Ex.kc Num.numOf Num.dec x):
  Calls Tryz.prog 64 #[.pointer (some ⟨bx,0,none⟩),mv] w (pA w (Ex.ev N x)):=by
 have he:=xN w mv N n hN x hf w rb bx (Y4 _ _) hx;unfold pA;unfold iC at he;generalize Ex.ev N x=o at *
 have HE:=hid he;clear he hN hx hf;cases o with
 |some v=>
  go_enter Tryz.func64,Tryz.ntmps64;go_wp2_with fail;refine HE.out.mono ?_;rintro e w1 ⟨hb,rfl⟩;have HB:=hid hb;clear hb;go_wp2_with fail;go_ret;exact⟨HB.out,rfl⟩
 |none=>
  go_enter Tryz.func64,Tryz.ntmps64;go_wp2_with fail;refine HE.out.mono ?_;rintro e w1 ⟨hb,g,p,rfl,hr⟩;have HB:=hid hb;clear hb hr;go_wp2_with fail;exact⟨rfl,HB.out,_,_,rfl⟩
end
section
open Ly
theorem lI{w:Tm.Wd}(h:(Tm.kindOf w).isSome=true):(cV w).1=bj w∧(cV w).2.1=fR w∧(cV w).2.2=eF w:=by
 unfold bj fR eF cV;refine⟨rfl,rfl,rfl⟩
end
section
open Go.RowKit
theorem rH(k n o:Nat)(w:World)(h1:k < n)(h2:n≤8):
  Calls Tryz.prog 93 #[.int .i64 k,.int .i64 n,.int .i64 o] w fun e w'=>e= .returned (.int .i64 (plc k n o:Nat))∧w=w':=by
 by_cases ho:o=1
 ·subst ho;have hp:((plc k n 1:Nat):Int)=(n:Int) - 1 - k:=by unfold plc;simp;omega
  have HP:=hid hp;clear hp;go_enter Tryz.func93,Tryz.ntmps93;go_wp2_with fail;go_ret;exact⟨jF HP.out.symm,rfl⟩
 ·have hp:((plc k n o:Nat):Int)=(k:Int):=by unfold plc;rw[if_neg ho]
  have HP:=hid hp;clear hp;have ho':((o:Int)==1)=false:=by simp;omega
  go_enter Tryz.func93,Tryz.ntmps93;go_wp2_with fail;go_ret;exact⟨jF HP.out.symm,rfl⟩
theorem rI(n o:Nat)(w:World)(hn:n=1∨n=2∨n=4∨n=8)(ho:o=0∨o=1):
  Calls Tryz.prog 92 #[.int .i64 n,.int .i64 o] w fun e w'=>e= .returned (.bool true)∧w=w':=by
 rcases hn with rfl|rfl|rfl|rfl <;> rcases ho with rfl|rfl
 all_goals
  go_enter Tryz.func92,Tryz.ntmps92;go_wp2_with fail;go_ret;exact⟨rfl,rfl⟩
theorem E3(n wd o:Nat)(w:World)(hn:wd=1∨wd=2∨wd=4∨wd=8)(ho:o=0∨o=1):
  Calls Tryz.prog 67 #[.int .u64 n,.int .i64 wd,.int .i64 o] w fun e w'=>e= .returned (.tuple #[.string (aa (lG n wd o)),.nilIface])∧Below w.heap.size w w':=by
 obtain⟨i0,hi0,hz0,hz1,hz2⟩:=info_parts sN;have hw8:wd≤8:=by omega
 have hw1:1≤wd:=by omega
 go_enter Tryz.func67,Tryz.ntmps67;go_wp2_with (first
  |(go_at_call 92;refine(rI wd o _ hn ho).mono ?_;rintro e w' ⟨rfl,rfl⟩)
  |(at_make;refine wpList_make_full _ rfl _ _ _ rfl w.heap.size 5 i0 (.int .u8 0) 1 Tryz.underlying147 hi0 hz0 hz1 .i64 .i64 wd wd wd rfl rfl rfl rfl (by rw[hz2];omega) (by unfold maxLen;omega) (Z5 _) ?_;intro w1 hown1 hgrow1))
 have hmc:(madeCells (Value.int IntKind.u8 0).cells (wd * 1)).toList=putRow n wd o 0:=by
  rw[uS,Nat.mul_one];exact toList_madeCells_one _ _
 rw[hmc]at hown1;clear hmc;have hb1:Below w.heap.size w w1:=(Y4 _ _).grown hgrow1 (Z5 _) (by simp);clear hgrow1;generalize hB:w.heap.size=B at *
 have HB:=hid hB;clear hB;go_loopw [18] (fun i wr=>∃k:Nat,k≤wd∧i= .int .i64 k∧wr.ownsRow B 5 1 (.slice (some ⟨B,0,none⟩) wd wd) wd (putRow n wd o k)∧Below B w wr) (fun i _=>wd - (intOf i).toNat)
 case atStart=>exact⟨0,by omega,rfl,hown1,hb1⟩
 case round=>
  obtain⟨k,hk,rfl,hown,hb⟩:=hrel;clear hown1 hb1
  by_cases hlt:k < wd
  ·have hp:=mM (o:=o) hlt;obtain⟨v0,hcell⟩:∃v,wr.cell? ⟨B,plc k wd o,none⟩=some v:=
    ⟨_,(hown.cellAt (plc k wd o) (by omega)).trans (Y1 (by rw[qR];exact hp))⟩
   have hfr:=hown.frozenAt (plc k wd o);have hb5:=xS n k;rw[← IntKind.wrap_u8']at hb5;have hs1:IntKind.i64.wrap (8 * (k:Int))=8 * (k:Int):=IntWalk.i64_in _ ⟨by omega,by omega⟩;have hs2:(0:Int)≤8 * (k:Int):=by omega
   have hs3:8 * (k:Int)≤64:=by omega
   have hs4:(8 * (k:Int)).toNat=8 * k:=by omega
   have hs5:((plc k wd o:Nat):Int) < (wd:Int):=by omega
   have hstep:=uT n wd o k hlt;have hset:=hown.stored (plc k wd o) (.int .u8 ((byteOf n k:Nat):Int));rw[hstep]at hset;have HSET:=hid hset;clear hstep hset;go_wp2_with fail;go_still_tail 11,(by kernel_rfl)
   still_call ((rH k wd o _ hlt hw8).mono fun _ _ h=>⟨h.1,h.2.symm⟩)
   repeat still_step
   refine wpStill_nil ?_;change wpList _ _ _ _ _ wr.drew;go_wp2_with fail;go_roundw
   case rel=>exact⟨k+1,by omega,by go_num,HSET.out.1,(hb.setCell (p:=⟨B,plc k wd o,none⟩) (Z5 _) _).drew⟩
   case measure=>simp[intOf];omega
  ·obtain rfl:k=wd:=by omega
   have hconv:=run_convert_bytes_arg (P:=Tryz.prog) wr 147 5 Tryz.underlying147 Tryz.underlying5 B 0 k k ((List.range k).map fun j=>((fF n k o k j:Nat):Int)) (by simp)
    (fun i hi=>by rw[Nat.zero_add,hown.cellAt i (by omega)];simp[putRow,hi]) 9 Tryz.underlying9
   clear hown;generalize hS:strOfNums ((List.range k).map fun j=>((fF n k o k j:Nat):Int))=S at hconv;have HS:=hid hS;clear hS;go_wp2_with fail;go_ret2;refine⟨?_,by rw[HB.out];exact hb⟩;rw[← HS.out,uV];rfl
theorem E4(s:ByteArray)(a wd o:Nat)(w:World)(hn:wd=1∨wd=2∨wd=4∨wd=8)(ho:o=0∨o=1)(ha:a+wd≤s.size)(hs:s.size≤maxLen):
  Calls Tryz.prog 62 #[.string s,.int .i64 a,.int .i64 wd,.int .i64 o] w fun e w'=>e= .returned (.tuple #[.int .u64 (fG s.data.toList a wd o wd:Nat),.nilIface])∧w=w':=by
 unfold maxLen at hs;have hw8:wd≤8:=by omega
 have hw1:1≤wd:=by omega
 go_enter Tryz.func62,Tryz.ntmps62;go_wp2_with (go_at_call 92;refine(rI wd o _ hn ho).mono ?_;rintro e w' ⟨rfl,rfl⟩);go_loop [10,29] (fun n i=>∃k:Nat,k≤wd∧i= .int .i64 k∧n= .int .u64 (fG s.data.toList a wd o k:Nat)) (fun n i=>wd - (intOf i).toNat)
 case atStart=>exact⟨0,by omega,rfl,rfl⟩
 case round=>
  obtain⟨k,hk,rfl,rfl⟩:=hrel;have hg:=iG s.data.toList a wd o k;have hg8:=jN (show k≤8 by omega);generalize hG:fG s.data.toList a wd o k=G at *
  have HG:=hid hG;clear hG
  by_cases hlt:k < wd
  ·have hp:=mM (o:=o) hlt;go_wp2_with (go_at_call 93;refine(rH k wd o _ hlt hw8).mono ?_;rintro e w' ⟨rfl,rfl⟩);go_round
   case rel=>exact⟨k+1,by omega,by go_num,oq (Dh s a wd o k G HG.out hg (by omega) (by omega))⟩
   case measure=>simp[intOf];omega
  ·obtain rfl:k=wd:=by omega
   go_wp2_with fail;go_ret2;exact⟨by rw[HG.out];rfl,rfl⟩
theorem tf(n wd:Nat)(w:World)(hn:n < 18446744073709551616)(h1:1≤wd)(h8:wd≤8):
  Calls Tryz.prog 73 #[.int .u64 n,.int .i64 wd] w fun e w'=>e= .returned (.int .u64 (i' n wd:Nat))∧w=w':=by
 obtain rfl|rfl|rfl|rfl|rfl|rfl|rfl|rfl:wd=1∨wd=2∨wd=3∨wd=4∨wd=5∨wd=6∨wd=7∨wd=8:=by omega
 all_goals
  go_enter Tryz.func73,Tryz.ntmps73;go_wp2_with fail;go_ret;refine⟨jF ?_,rfl⟩;unfold i'
  first|(rw[IntKind.wrap_u64];omega)|omega
theorem pB(n wd:Nat)(w:World)(hn:n < 18446744073709551616)(h1:1≤wd)(h8:wd≤8):
  Calls Tryz.prog 63 #[.int .u64 n,.int .i64 wd] w fun e w'=>e= .returned (.int .i64 (gZ n wd))∧w=w':=by
 obtain rfl|rfl|rfl|rfl|rfl|rfl|rfl|rfl:wd=1∨wd=2∨wd=3∨wd=4∨wd=5∨wd=6∨wd=7∨wd=8:=by omega
 all_goals
  go_enter Tryz.func63,Tryz.ntmps63;go_wp2_with fail;go_ret;refine⟨jF ?_,rfl⟩;unfold gZ i' wrap64;split <;> first|(rw[IntKind.wrap_u64];omega)|omega
theorem rJ(n:Int)(wd:Nat)(w:World)(lo:-9223372036854775808≤n)(hi:n≤9223372036854775807)(h1:1≤wd)(h8:wd≤8):
  Calls Tryz.prog 39 #[.int .i64 n,.int .i64 wd,.bool true] w fun e w'=>e= .returned (.bool (gZ (eZ n) wd==n))∧w=w':=by
 have hu:=mN n;have hul:=zJ n;generalize eZ n=u at *
 go_enter Tryz.func39,Tryz.ntmps39;go_wp2_with (go_at_call 63;refine(pB u wd _ hul h1 h8).mono ?_;rintro e w' ⟨rfl,rfl⟩);go_ret;exact⟨rfl,rfl⟩
theorem pC(n:Int)(wd:Nat)(w:World)(lo:-9223372036854775808≤n)(hi:n≤9223372036854775807)(h1:1≤wd)(h8:wd≤8):
  Calls Tryz.prog 39 #[.int .i64 n,.int .i64 wd,.bool false] w fun e w'=>e= .returned (.bool (decide (0≤n)&&(((i' (eZ n) wd:Nat):Int)==((eZ n:Nat):Int))))∧w=w':=by
 have hu:=mN n;have hul:=zJ n;generalize eZ n=u at *
 by_cases h0:0≤n
 ·have hd:decide (0≤n)=true:=by simpa using h0
  go_enter Tryz.func39,Tryz.ntmps39;go_wp2_with (go_at_call 73;refine(tf u wd _ hul h1 h8).mono ?_;rintro e w' ⟨rfl,rfl⟩);go_ret
  first|exact⟨rfl,rfl⟩|exact⟨by rw[hd];rfl,rfl⟩
 ·have hd:decide (0≤n)=false:=by simpa using h0
  go_enter Tryz.func39,Tryz.ntmps39;go_wp2_with fail;go_ret
  first|exact⟨rfl,rfl⟩|exact⟨by rw[hd];rfl,rfl⟩
end
section
open Go Go.RowKit
open Rd
open Ly
def fS(w:World)(b:Nat)(m:Option Nat)(F:Value)(s:Tm.Wd)(st:St)(o:Option (Nd×St))(e:Ending)(w':World):Prop:=But w w' b m∧match o with
 |some p=>(∃v bl,e= .returned v∧NdV w' w.heap.size bl p.1 v∧bl.Nodup)∧LR w' b F s p.2∧st.at_≤p.2.at_∧st.n < p.2.n
 |none=>od e
theorem nN{st st1:St}(h:nod st=some st1):st1.n=st.n+1:=by
 unfold nod at h;split at h
 ·cases h
 ·cases h;rfl
theorem F6{s:Tm.Wd}{k:Int}{st st2:St}{u:Tm.Wd}(h:tak s k st=some (u,st2)):st2.n=st.n:=by
 unfold tak at h;split at h
 ·cases h
 ·cases h;rfl
abbrev cJ:List Value:=[.string {data:= #[]},.int .i64 0,.int .i64 0,.int .i64 0,.int .i64 0,.string {data:= #[]},.slice none 0 0]
structure BxS(w0 w:World)(b nb:Nat)(m:Option Nat)(F:Value)(s:Tm.Wd)(st:St)(cs:List Value):Prop where
 but:But w0 w b m
 res:ad w w0.heap.size 0 28 cJ
 row:ad w nb 0 28 cs
 lt:w0.heap.size < nb
 lr:LR w b F s st
 blt:b < w0.heap.size
 mlt:∀x,m=some x→x < w0.heap.size
section
variable{w0 w w':World}{b nb:Nat}{m:Option Nat}{F:Value}{s:Tm.Wd}{st st':St}{cs:List Value}
theorem BxS.move(h:BxS w0 w b nb m F s st cs)(hb:But w w' b m)(hl:LR w' b F s st'):BxS w0 w' b nb m F s st' cs:=by
 have h1:=h.but.size;have h2:=h.blt;have h3:=h.lt;have k:∀g,g < w.heap.size→w0.heap.size≤g→w'.heap[g]? =w.heap[g]? :=fun g hg h4=>hb.block g hg (by omega) (fun e=>by have:=h.mlt g e.symm;omega)
 exact⟨h.but.trans hb,h.res.of_heap (k _ h.res.lt (Z5 _)),h.row.of_heap (k _ h.row.lt (by omega)),h3,hl,h2,h.mlt⟩
theorem BxS.up(h:BxS w0 w b nb m F s st cs)(hb:Below w.heap.size w w'):BxS w0 w' b nb m F s st cs:=h.move (But.az hb) (h.lr.al (hb.block _ h.lr.row.lt))
theorem BxS.drewN(h:BxS w0 w b nb m F s st cs)(k:Nat):BxS w0 (w.drewN k) b nb m F s st cs:=h.up ⟨rfl,rfl,rfl,Z5 _,fun _ _=>rfl⟩
theorem BxS.set(h:BxS w0 w b nb m F s st cs)(k:Nat)(hk:k < cs.length)(v:Value):BxS w0 (w.setCell ⟨nb,k,none⟩ v) b nb m F s st (cs.set k v):=by
 have h1:=h.but.size;have h2:=h.blt;have h3:=h.lt;refine⟨fc h.but (by omega) k v,h.res.far (show w0.heap.size≠nb by omega) v,h.row.aw k hk v,h3,?_,h2,h.mlt⟩;exact h.lr.al (Below.heap_setCell _ _ _ _ (show b≠nb by omega))
theorem BxS.cell(h:BxS w0 w b nb m F s st cs)(k:Nat)(hk:k < cs.length):w.cell? ⟨nb,k,none⟩=some cs[k]∧w.frozen? ⟨nb,k,none⟩=false:=⟨h.row.cell0 k hk,h.row.frozen0 k hk⟩
theorem BxS.start{st1:St}{nm:Tm.Wd}{kd:Nat}(hL:LR w0 b F s st){W0:World}(hW:W0=w0.alloc (.cells cJ.toArray 28)){w1:World}(hb:But W0 w1 b none)(hl:LR w1 b F s st1)(hm:∀x,m=some x→x < w0.heap.size):
  BxS w0 (w1.alloc (.cells (ae nm kd st.at_ 0 0 [] (.slice none 0 0)).toArray 28)) b w1.heap.size m F s st1 (ae nm kd st.at_ 0 0 [] (.slice none 0 0)):=by
 have hlt:=hL.row.lt;have hW0:ad W0 w0.heap.size 0 28 cJ:=by rw[hW];exact ad.new w0 _ _
 have hs0:W0.heap.size=w0.heap.size+1:=by rw[hW];simp
 have hs1:=hb.size;have h1:ad w1 w0.heap.size 0 28 cJ:=hW0.of_heap (hb.block _ hW0.lt (by omega) (fun e=>by cases e));refine⟨?_,h1.alloc _,ad.new w1 _ _,by omega,hl.al (Below.heap_alloc _ _ _ hl.row.lt),hlt,hm⟩;have k1:But w0 W0 b m:=by rw[hW];exact But.az ((Y4 _ _).alloc (Z5 _) _)
 exact(k1.trans hb.wide).trans (But.az ((Y4 _ _).alloc (Z5 _) _))
end
theorem BxS.result{w0 w:World}{b nb:Nat}{m:Option Nat}{F:Value}{s:Tm.Wd}{st:St}{cs:List Value}(h:BxS w0 w b nb m F s st cs)(v0 v1 v2 v3 v4 v5 v6:Value):
  But w0 (st7 w w0.heap.size v0 v1 v2 v3 v4 v5 v6) b m∧LR (st7 w w0.heap.size v0 v1 v2 v3 v4 v5 v6) b F s st∧ad (st7 w w0.heap.size v0 v1 v2 v3 v4 v5 v6) w0.heap.size 0 28 [v0,v1,v2,v3,v4,v5,v6]:=by
 have h2:=h.blt;exact⟨zL _ _ _ _ _ _ _ h.but (Z5 _),h.lr.al (cY _ _ _ _ _ _ _ _ (by omega)),lH h.res (by rfl) _ _ _ _ _ _ _⟩
theorem lJ{w0 W0 w1:World}{b:Nat}{m:Option Nat}{o:Obj}(hW:W0=w0.alloc o)(hb:But W0 w1 b none)(hlt:b < w0.heap.size):But w0 w1 b m:=by
 have k1:But w0 W0 b m:=by rw[hW];exact But.az ((Y4 _ _).alloc (Z5 _) _)
 exact k1.trans hb.wide
theorem E5{gv k:Nat}(h:gv < 256 ^ k)(hk:k≤8):gv < 18446744073709551616:=by
 have h1:256 ^ k≤256 ^ 8:=Nat.pow_le_pow_right (by omega) hk;have h2:(256:Nat) ^ 8=18446744073709551616:=by decide
 omega
theorem wrap_small{gv:Nat}(h:gv < 4294967296):wrap64 (gv:Int)=(gv:Int):=IntWalk.wrap64_in _ ⟨by omega,by omega⟩
theorem zM{gv k:Nat}(h:gv < 256 ^ k)(hk:k≤4):gv < 4294967296:=by
 have h1:256 ^ k≤256 ^ 4:=Nat.pow_le_pow_right (by omega) hk;have h2:(256:Nat) ^ 4=4294967296:=by decide
 omega
theorem xW{w:Tm.Wd}{k:Nat×Nat×Bool}(h:Tm.kindOf w=some k):∃p∈Tm.bk,p.2=k:=by
 unfold Tm.kindOf at h;cases hf:Tm.bk.find? (fun p=>p.1==w)with
 |none=>rw[hf]at h;cases h
 |some p=>
  rw[hf]at h;exact⟨p,List.mem_of_find?_eq_some hf,by simpa using h⟩
theorem uX:∀p∈Tm.bk,(p.2.1=1∨p.2.1=2∨p.2.1=4∨p.2.1=8)∧(p.2.2.1=0∨p.2.2.1=1)∧(p.2.2.2=false→p.2.1≤4):=by decide
theorem lK{w:Tm.Wd}(h:(Tm.kindOf w).isSome=true):(bj w=1∨bj w=2∨bj w=4∨bj w=8)∧(fR w=0∨fR w=1)∧(eF w=false→bj w≤4):=by
 cases hk:Tm.kindOf w with
 |none=>rw[hk]at h;cases h
 |some k=>
  obtain⟨p,hp,rfl⟩:=xW hk;have:=uX p hp;unfold bj fR eF;rw[hk];exact this
end
section
open Go.RowKit
open Rd
structure fH(w0 w:World)(rb yb xb E:Nat)(R:List Rd.Tok)(ys cs:List Value):Prop where
 gr:w0.grownBy w (some rb)
 env:Env w rb
 ylo:w0.heap.size≤yb
 xlo:w0.heap.size≤xb
 ne:xb≠yb
 lt:rb < w0.heap.size
 rd:Rdr w rb R E
 og:ad w yb 0 70 ys
 row:ad w xb 0 70 cs
 gy:∃wy:World,wy.heap.size≤xb∧ad wy yb 0 70 ys∧w0.grownBy wy (some rb)∧wy.grownBy w (some rb)
section
variable{w0 w w':World}{rb yb xb E:Nat}{R R':List Rd.Tok}{ys cs:List Value}
theorem fH.move(h:fH w0 w rb yb xb E R ys cs)(hr:Rdr w' rb R' E)(hg:w.grownBy w' (some rb)):fH w0 w' rb yb xb E R' ys cs:=
 ⟨ah h.gr hg,h.env.grown hg h.rd.lt,h.ylo,h.xlo,h.ne,h.lt,hr,
  h.og.of_heap (hg.block yb h.og.lt (fun e=>by injection e with e;have:=h.lt;have:=h.ylo;omega)),
  h.row.of_heap (hg.block xb h.row.lt (fun e=>by injection e with e;have:=h.lt;have:=h.xlo;omega)),
  by obtain⟨wy,h1,h2,h3,h4⟩:=h.gy;exact⟨wy,h1,h2,h3,ah h4 hg⟩⟩
theorem zN{w:World}{rb xb k:Nat}(h:Env w rb)(hx:rb≤xb)(v:Value):Env (w.setCell ⟨xb,k,none⟩ v) rb:=by
 have key:∀(p:Addr),p.block < rb→(w.setCell ⟨xb,k,none⟩ v).cell? p=w.cell? p:=fun p hlt=>World.cell?_of_block (Below.heap_setCell w ⟨xb,k,none⟩ v p.block (by show p.block≠xb;omega))
 refine⟨⟨h.lv.1,fun k hk=> ?_⟩,(key ⟨_,0,none⟩ h.eb).trans h.er,h.eb⟩;obtain⟨gk,ck,h1,h2,h3⟩:=h.lv.2 k hk;exact⟨gk,ck,(key ⟨_,k,none⟩ h.lv.1).trans h1,h2,fun j hj=>(key (gk.add j) (by rw[Addr.cM];exact h2)).trans (h3 j hj)⟩
theorem fH.set(h:fH w0 w rb yb xb E R ys cs)(k:Nat)(hk:k < cs.length)(v:Value):fH w0 (w.setCell ⟨xb,k,none⟩ v) rb yb xb E R ys (cs.set k v):=
 ⟨cD h.gr h.xlo _,zN h.env (by have:=h.lt;have:=h.xlo;omega) v,h.ylo,h.xlo,h.ne,h.lt,h.rd.fQ (by have:=h.lt;have:=h.xlo;omega) _,
  h.og.of_heap (Below.heap_setCell w ⟨xb,k,none⟩ v yb (fun e=>h.ne e.symm)),h.row.aw k hk v,
  by obtain⟨wy,h1,h2,h3,h4⟩:=h.gy;exact⟨wy,h1,h2,h3,cD h4 h1 _⟩⟩
theorem fH.cell(h:fH w0 w rb yb xb E R ys cs)(k:Nat)(hk:k < cs.length):w.cell? ⟨xb,k,none⟩=some cs[k]∧w.frozen? ⟨xb,k,none⟩=false:=⟨h.row.cell0 k hk,h.row.frozen0 k hk⟩
def ab(a:Nat):List Value:=[.int .i64 0,.int .i64 (a:Nat),.string {data:= #[]},.string {data:= #[]},.int .i64 0,.int .i64 0,.bool false,.bool false,.pointer none,.int .i64 0,.string {data:= #[]},.string {data:= #[]},.slice none 0 0]
theorem fH.start(he:Env w rb)(hr:Rdr w rb R E)(a:Nat):fH w ((w.alloc (.cells #[.int .i64 0,.int .i64 0,.string {data:= #[]},.string {data:= #[]},.int .i64 0,.int .i64 0,.bool false,.bool false,.pointer none,.int .i64 0,.string {data:= #[]},.string {data:= #[]},.slice none 0 0] 70)).alloc (.cells #[.int .i64 0,.int .i64 (a:Nat),.string {data:= #[]},.string {data:= #[]},.int .i64 0,.int .i64 0,.bool false,.bool false,.pointer none,.int .i64 0,.string {data:= #[]},.string {data:= #[]},.slice none 0 0] 70)) rb w.heap.size (w.heap.size+1) E R (ab 0) (ab a):=by
 have h1:=(Y4 w.heap.size w).alloc (Z5 _) (.cells #[.int .i64 0,.int .i64 0,.string {data:= #[]},.string {data:= #[]},.int .i64 0,.int .i64 0,.bool false,.bool false,.pointer none,.int .i64 0,.string {data:= #[]},.string {data:= #[]},.slice none 0 0] 70);have h2:=h1.alloc (by simp) (.cells #[.int .i64 0,.int .i64 (a:Nat),.string {data:= #[]},.string {data:= #[]},.int .i64 0,.int .i64 0,.bool false,.bool false,.pointer none,.int .i64 0,.string {data:= #[]},.string {data:= #[]},.slice none 0 0] 70);have hg:=ar h2 (some rb);refine⟨hg,he.grown hg hr.lt,Z5 _,Nat.le_succ _,by omega,hr.lt,hr.below h2,?_,?_,?_⟩
 ·exact(ad.new w 70 (ab 0).toArray).alloc _
 ·have:=ad.new (w.alloc (.cells (ab 0).toArray 70)) 70 (ab a).toArray;rw[World.size_alloc]at this;exact this
 ·refine⟨w.alloc (.cells (ab 0).toArray 70),by rw[World.size_alloc];exact Z5 _,ad.new w 70 (ab 0).toArray,ar h1 _,World.grownBy_alloc _ _ _⟩
theorem fH.ax(h:fH w0 w rb yb xb E R ys cs){c:C10}(hc:cs=c.row 0 [] []):∃wy:World,fq wy w rb xb E R c 0 [] []∧w0.grownBy wy (some rb)∧
  ∀w' R' r f l,fq wy w' rb xb E R' c r f l→fH w0 w' rb yb xb E R' ys (c.row r f l):=by
 obtain⟨wy,h1,h2,h3,h4⟩:=h.gy;have hlt:rb < xb:=by have:=h.lt;have:=h.xlo;omega
 refine⟨wy,⟨h4,h1,hlt,h.rd,by rw[← hc];exact h.row⟩,h3,?_⟩;intro w' R' r f l hs;have hrlt:rb < wy.heap.size:=Nat.lt_of_lt_of_le h.lt h3.size;have hyb:some yb≠some rb:=fun e=>by injection e with e;have:=h.lt;have:=h.ylo;omega
 refine⟨ah h3 hs.gr,?_,h.ylo,h.xlo,h.ne,h.lt,hs.rd,h2.of_heap (hs.gr.block yb h2.lt hyb),hs.row,wy,h1,h2,h3,hs.gr⟩;have key:∀(p:Addr),p.block < rb→w'.cell? p=w.cell? p:=fun p hlt=>
  World.cell?_of_block ((hs.gr.block p.block (Nat.lt_trans hlt hrlt) (fun e=>by injection e with e;omega)).trans (h4.block p.block (Nat.lt_trans hlt hrlt) (fun e=>by injection e with e;omega)).symm)
 have he:=h.env;refine⟨⟨he.lv.1,fun k hk=> ?_⟩,(key ⟨_,0,none⟩ he.eb).trans he.er,he.eb⟩;obtain⟨gk,ck,e1,e2,e3⟩:=he.lv.2 k hk;exact⟨gk,ck,(key ⟨_,k,none⟩ he.lv.1).trans e1,e2,fun j hj=>(key (gk.add j) (by rw[Addr.cM];exact e2)).trans (e3 j hj)⟩
end
theorem ad.ty{w:World}{g o o':Nat}{e e':TypeId}{xs ys:List Value}(h:ad w g o e xs)(h':ad w g o' e' ys):e=e':=by
 obtain⟨c,z,h1,_⟩:=h;obtain⟨c',z',h1',_⟩:=h';rw[h1]at h1';cases h1';rfl
def jj(w w':World)(rb:Nat):Prop:=∀g xs,rb < g→ad w g 0 202 xs→w'.heap[g]? =w.heap[g]?
theorem IsX.al{w w':World}{rb:Nat}(hk:jj w w' rb):∀(x:Ex.X) (b:Nat),IsX w rb b x→IsX w' rb b x
 | .num a n,b,h=>⟨h.1,h.2.of_heap (hk b _ h.1 h.2)⟩
 | .name a s,b,h=>⟨h.1,h.2.of_heap (hk b _ h.1 h.2)⟩
 | .bin a op l r,b,h=>by
  obtain⟨bl,br,h1,h2,h3,h4⟩:=h;exact⟨bl,br,h1,h2.of_heap (hk b _ h1 h2),IsX.al hk l bl h3,IsX.al hk r br h4⟩
namespace Tm
theorem pj.al{w w':World}{rb:Nat}(hk:jj w w' rb){c:Option Ex.X}{v:Value}(h:pj w rb c v):pj w' rb c v:=by
 cases c with
 |none=>exact h
 |some x=>
  obtain⟨b,h1,h2⟩:=h;exact⟨b,h1,IsX.al hk x b h2⟩
theorem Enc.al{w w':World}{rb:Nat}{ok:Nat→Prop}(hk:jj w w' rb)(ho:∀b,ok b→w'.heap[b]? =w.heap[b]?):∀(l:Its) (vs:List Value),Enc w rb ok l vs→Enc w' rb ok l vs
 | .nil,vs,e=>e
 | .cons a l,vs,e=>by
  obtain⟨cv,us,h1,h2,h3⟩:=e;exact⟨cv,us,h1.al hk,h2,Enc.al hk ho l us h3⟩
 | .when a c b l,vs,e=>by
  obtain⟨cb,ga,cap,bs,us,h1,h2,h3,h4,h5,h6⟩:=e;exact⟨cb,ga,cap,bs,us,IsX.al hk c cb h1,h2.al fun x hx=>ho _ (h3 x hx),h3,Enc.al hk ho b bs h4,h5,Enc.al hk ho l us h6⟩
theorem Enc.lt{w:World}{rb:Nat}{ok:Nat→Prop}:∀(l:Its) (vs:List Value),Enc w rb ok l vs→Enc w rb (fun b=>ok b∧b < w.heap.size) l vs
 | .nil,vs,e=>e
 | .cons a l,vs,e=>by
  obtain⟨cv,us,h1,h2,h3⟩:=e;exact⟨cv,us,h1,h2,Enc.lt l us h3⟩
 | .when a c b l,vs,e=>by
  obtain⟨cb,ga,cap,bs,us,h1,h2,h3,h4,h5,h6⟩:=e;exact⟨cb,ga,cap,bs,us,h1,h2,fun x hx=>⟨h3 x hx,h2.gI x hx⟩,Enc.lt b bs h4,h5,Enc.lt l us h6⟩
theorem Enc.app{w:World}{rb:Nat}{ok:Nat→Prop}{m:Its}{us:List Value}(hm:Enc w rb ok m us):∀(l:Its) (vs:List Value),Enc w rb ok l vs→Enc w rb ok (l.app m) (vs++us)
 | .nil,vs,e=>by rw[show vs=[]from e];exact hm
 | .cons a l,vs,e=>by
  obtain⟨cv,ys,h1,rfl,h3⟩:=e;exact⟨cv,ys++us,h1,by rw[List.append_assoc],Enc.app hm l ys h3⟩
 | .when a c b l,vs,e=>by
  obtain⟨cb,ga,cap,bs,ys,h1,h2,h3,h4,rfl,h6⟩:=e;exact⟨cb,ga,cap,bs,ys++us,h1,h2,h3,h4,by rw[List.append_assoc],Enc.app hm l ys h6⟩
theorem Enc.cells{w:World}{rb:Nat}{ok:Nat→Prop}{I:Its}{vs:List Value}(hI:I.len=1)(h:Enc w rb ok I vs):∃(k0 k1 k4 k5 k9:Nat) (s2 s3 s10 s11:ByteArray) (b6 b7:Bool) (p8 a12:Option Addr) (n12 c12:Nat),
  vs=[.int .i64 (k0:Nat),.int .i64 (k1:Nat),.string s2,.string s3,.int .i64 (k4:Nat),.int .i64 (k5:Nat),.bool b6,.bool b7,.pointer p8,.int .i64 (k9:Nat),.string s10,.string s11,.slice a12 n12 c12]:=by
 have z:∀(l:Its) (us:List Value),l.len=0→Enc w rb ok l us→us=[]:=by
  intro l us h1 h2;cases l with
  |nil=>exact h2
  |cons=>simp[Its.len]at h1
  |when=>simp[Its.len]at h1
 cases I with
 |nil=>simp[Its.len]at hI
 |cons a l=>
  obtain⟨cv,us,h1,rfl,h3⟩:=h;rw[z l us (by simpa[Its.len]using hI) h3,List.append_nil];cases hc:a.cnt with
  |none=>rw[hc]at h1;rw[show cv= .pointer none from h1];exact⟨_,_,_,_,_,_,_,_,_,_,_,_,_,_,_,rfl⟩
  |some x=>
   rw[hc]at h1;obtain⟨b,rfl,_⟩:=h1;exact⟨_,_,_,_,_,_,_,_,_,_,_,_,_,_,_,rfl⟩
 |when a c b l=>
  obtain⟨cb,ga,cap,bs,us,h1,h2,h3,h4,rfl,h6⟩:=h;rw[z l us (by simpa[Its.len]using hI) h6,List.append_nil];exact⟨_,_,0,0,0,_,_,_,_,_,_,_,_,_,_,rfl⟩
end Tm
abbrev kg(w:World)(b:Nat)(v0 v1 v2 v3 v4 v5 v6 v7 v8 v9 v10 v11 v12:Value):World:=
 (((((((((((((w.setCell ⟨b,0,none⟩ v0).setCell ⟨b,1,none⟩ v1).setCell ⟨b,2,none⟩ v2).setCell ⟨b,3,none⟩ v3).setCell ⟨b,4,none⟩ v4).setCell ⟨b,5,none⟩ v5).setCell ⟨b,6,none⟩ v6).setCell ⟨b,7,none⟩ v7).setCell ⟨b,8,none⟩ v8).setCell ⟨b,9,none⟩ v9).setCell ⟨b,10,none⟩ v10).setCell ⟨b,11,none⟩ v11).setCell ⟨b,12,none⟩ v12)
theorem fT{w:World}{b:Nat}{T:TypeId}{ys:List Value}(h:ad w b 0 T ys)(hy:ys.length=13)(v0 v1 v2 v3 v4 v5 v6 v7 v8 v9 v10 v11 v12:Value):ad (kg w b v0 v1 v2 v3 v4 v5 v6 v7 v8 v9 v10 v11 v12) b 0 T [v0,v1,v2,v3,v4,v5,v6,v7,v8,v9,v10,v11,v12]:=by
 match ys,hy with
 |[a0,a1,a2,a3,a4,a5,a6,a7,a8,a9,a10,a11,a12],_=>
  exact((((((((((((h.aw 0 (by simp) v0).aw 1 (by simp) v1).aw 2 (by simp) v2).aw 3 (by simp) v3).aw 4 (by simp) v4).aw 5 (by simp) v5).aw 6 (by simp) v6).aw 7 (by simp) v7).aw 8 (by simp) v8).aw 9 (by simp) v9).aw 10 (by simp) v10).aw 11 (by simp) v11).aw 12 (by simp) v12
theorem uY{w:World}{b:Nat}(v0 v1 v2 v3 v4 v5 v6 v7 v8 v9 v10 v11 v12:Value)(g:Nat)(hg:g≠b):(kg w b v0 v1 v2 v3 v4 v5 v6 v7 v8 v9 v10 v11 v12).heap[g]? =w.heap[g]? :=by
 have k:∀(W:World) (i:Nat) (v:Value),(W.setCell ⟨b,i,none⟩ v).heap[g]? =W.heap[g]? :=fun W i v=>Below.heap_setCell W ⟨b,i,none⟩ v g hg
 unfold kg
 iterate 13 rw[k]
theorem fH.fQ{w0 w:World}{rb yb xb E:Nat}{R:List Rd.Tok}{ys cs:List Value}(h:fH w0 w rb yb xb E R ys cs)(k:Nat)(v:Value){x:Ex.X}{b:Nat}(hx:IsX w rb b x):IsX (w.setCell ⟨xb,k,none⟩ v) rb b x:=by
 refine IsX.al (fun g xs _ hg=>Below.heap_setCell w ⟨xb,k,none⟩ v g ?_) x b hx;rintro rfl;exact absurd (h.row.ty hg) (by decide)
theorem fH.fin{w0 w:World}{rb yb xb E:Nat}{R:List Rd.Tok}{ys cs:List Value}(h:fH w0 w rb yb xb E R ys cs)(hy:ys.length=13)(v0 v1 v2 v3 v4 v5 v6 v7 v8 v9 v10 v11 v12:Value):
  Rdr (kg w yb v0 v1 v2 v3 v4 v5 v6 v7 v8 v9 v10 v11 v12) rb R E∧w0.grownBy (kg w yb v0 v1 v2 v3 v4 v5 v6 v7 v8 v9 v10 v11 v12) (some rb)∧jj w (kg w yb v0 v1 v2 v3 v4 v5 v6 v7 v8 v9 v10 v11 v12) rb:=by
 have hne:rb < yb:=by have:=h.lt;have:=h.ylo;omega
 refine⟨?_,?_,?_⟩
 ·exact(((((((((((((h.rd.fQ hne v0).fQ hne v1).fQ hne v2).fQ hne v3).fQ hne v4).fQ hne v5).fQ hne v6).fQ hne v7).fQ hne v8).fQ hne v9).fQ hne v10).fQ hne v11).fQ hne v12)
 ·exact cD (cD (cD (cD (cD (cD (cD (cD (cD (cD (cD (cD (cD h.gr h.ylo v0) h.ylo v1) h.ylo v2) h.ylo v3) h.ylo v4) h.ylo v5) h.ylo v6) h.ylo v7) h.ylo v8) h.ylo v9) h.ylo v10) h.ylo v11) h.ylo v12
 ·intro g xs _ hg;refine uY _ _ _ _ _ _ _ _ _ _ _ _ _ g ?_;rintro rfl;have:=h.og.ty hg;exact absurd this (by decide)
theorem fH.Ho{w0 w:World}{rb yb xb E:Nat}{R:List Rd.Tok}{ys cs:List Value}(h:fH w0 w rb yb xb E R ys cs)(k:Nat)(v v0 v1 v2 v3 v4 v5 v6 v7 v8 v9 v10 v11 v12:Value):
  jj w (kg (w.setCell ⟨xb,k,none⟩ v) yb v0 v1 v2 v3 v4 v5 v6 v7 v8 v9 v10 v11 v12) rb∧∀b,b≠xb→b≠yb→(kg (w.setCell ⟨xb,k,none⟩ v) yb v0 v1 v2 v3 v4 v5 v6 v7 v8 v9 v10 v11 v12).heap[b]? =w.heap[b]? :=by
 have hk:∀b,b≠xb→b≠yb→(kg (w.setCell ⟨xb,k,none⟩ v) yb v0 v1 v2 v3 v4 v5 v6 v7 v8 v9 v10 v11 v12).heap[b]? =w.heap[b]? :=fun b h1 h2=>(uY _ _ _ _ _ _ _ _ _ _ _ _ _ b h2).trans (Below.heap_setCell w ⟨xb,k,none⟩ v b h1)
 refine⟨fun g xs _ hg=>hk g ?_ ?_,hk⟩
 ·rintro rfl;exact absurd (h.row.ty hg) (by decide)
 ·rintro rfl;exact absurd (h.og.ty hg) (by decide)
end
end Go.Proofs.YtlomecfhobehnaaGreatDoor
