import Derived.Stop.Asserts
import Derived.RowKitTokens
import Derived.Test.YtlomecfhobehnaaGreatDoorMgFixDrops1
set_option linter.all false
set_option maxRecDepth 100000
set_option maxHeartbeats 4000000
namespace Go.Proofs.YtlomecfhobehnaaGreatDoor
open Lib (hid)
section
open Go.RowKit
open Num
namespace Num
def pQ(r:Nat ⊕ Nat):Array Value:=match r with
 | .inl n=> #[.int .i64 (n:Nat),.nilIface]
 | .inr e=> #[.int .i64 0,.iface 48 (.int .i64 (e:Nat))]
theorem Et(s:List UInt8):numOf s=match dZ (cu s) (cQ s)with
 | .inr e=> .inr e
 | .inl n=>if n < 9223372036854775808 then .inl n else .inr 2:=rfl
theorem KA(s:List UInt8):(aa s).extract 2 s.length=aa (s.drop 2):=by
 apply ByteArray.ext;apply Array.ext';rw[ByteArray.data_extract,Array.toList_extract];show List.extract s 2 s.length=s.drop 2;rw[List.extract_eq_take_drop];exact List.take_of_length_le (by rw[List.length_drop];exact Z5 _)
theorem dr(s:List UInt8)(h:s.length≤1∨(s.getD 0 0).toNat≠48∨((s.getD 1 0).toNat≠120∧(s.getD 1 0).toNat≠98)):cu s=10∧cQ s=s:=by
 unfold cu cQ;split
 ·rcases h with h|h|h
  ·simp at h
  ·exact absurd rfl h
  ·exact absurd rfl h.1
 ·rcases h with h|h|h
  ·simp at h
  ·exact absurd rfl h
  ·exact absurd rfl h.2
 ·exact⟨rfl,rfl⟩
theorem yO(s:List UInt8)(h:1 < s.length)(h0:(s.getD 0 0).toNat=48)(h1:(s.getD 1 0).toNat=120):cu s=16∧cQ s=s.drop 2:=by
 obtain⟨a,b,r,rfl⟩:∃a b r,s=a::b::r:=by
  match s,h with
  |a::b::r,_=>exact⟨a,b,r,rfl⟩
 have e0:a=48:=UInt8.toNat_inj.1 h0;have e1:b=120:=UInt8.toNat_inj.1 h1;subst e0 e1;exact⟨rfl,rfl⟩
theorem yP(s:List UInt8)(h:1 < s.length)(h0:(s.getD 0 0).toNat=48)(h1:(s.getD 1 0).toNat=98):cu s=2∧cQ s=s.drop 2:=by
 obtain⟨a,b,r,rfl⟩:∃a b r,s=a::b::r:=by
  match s,h with
  |a::b::r,_=>exact⟨a,b,r,rfl⟩
 have e0:a=48:=UInt8.toNat_inj.1 h0;have e1:b=98:=UInt8.toNat_inj.1 h1;subst e0 e1;exact⟨rfl,rfl⟩
end Num
theorem pR(s:List UInt8)(w:World)(hl:s.length≤100000)(h0:s≠[])(hd:(s.getD 0 0).toNat≠45):
  Calls Tryz.prog 156 #[.string (aa s)] w fun e w'=>e= .returned (.tuple (pQ (numOf s)))∧Below w.heap.size w w':=by
 have hne:(s==[])=false:=by rw[Z8];exact h0
 have hne2:s.isEmpty=false:=by cases s with|nil=>exact absurd rfl h0|cons a b=>rfl
 have hpos:0 < s.length:=List.length_pos_iff.2 h0;have s0:∀h:0 < (aa s).size,((aa s)[0]'h).toNat=(s.getD 0 0).toNat:=fun h=>by rw[pP]
 have s1:∀h:1 < (aa s).size,((aa s)[1]'h).toNat=(s.getD 1 0).toNat:=fun h=>by rw[pP]
 have hx:=KA s;have d45:(((s.getD 0 0).toNat:Int)==45)=false:=by rw[Z8];omega
 obtain⟨R,hR⟩:∃R,R=dZ (cu s) (cQ s):=⟨_,rfl⟩;have hN:=Et s;rw[← hR]at hN;have HN:=hid hN;have fin:∀R:Nat ⊕ Nat,(∃n,R= .inl n∧n < 9223372036854775808)∨(∃n,R= .inl n∧9223372036854775808≤n∧n < 18446744073709551616)∨(∃e,R= .inr e)∨(∃n,R= .inl n∧18446744073709551616≤n):=by
  intro R;cases R with
  |inl n=>rcases Nat.lt_or_ge n 9223372036854775808 with h|h;exact .inl ⟨n,rfl,h⟩;rcases Nat.lt_or_ge n 18446744073709551616 with h2|h2;exact .inr (.inl ⟨n,rfl,h,h2⟩);exact .inr (.inr (.inr ⟨n,rfl,h2⟩))
  |inr e=>exact .inr (.inr (.inl ⟨e,rfl⟩))
 have hR64:∀n,R= .inl n→n < 18446744073709551616:=by
  intro n e;rw[hR]at e;unfold dZ at e;split at e
  ·cases e
  ·split at e
   ·split at e
    ·cases e;assumption
    ·cases e
   ·cases e
 have hcase:=fin R;rcases hcase with⟨n,hr,hn⟩|⟨n,hr,hn,hn2⟩|⟨en,hr⟩|⟨n,hr,hn⟩
 case inl=>
  have f1:decide ((9223372036854775808:Int)≤(n:Int))=false:=Y9 (by omega);have f2:IntKind.i64.wrap (n:Int)=(n:Int):=by rw[IntKind.wrap_i64];omega
  rw[hr]at hR HN;have HP:Hid (∀w,Calls Tryz.prog 157 #[.string (aa (cQ s)),.int .i64 (cu s:Nat)] w fun e w'=>e= .returned (.tuple (lj (dZ (cu s) (cQ s))))∧w=w'):=hid fun w=>lk (cQ s) (cu s) w (by unfold cu;split <;> omega) (by unfold cu;split <;> omega) (by
   unfold cQ;split
   ·simp only[Z6]at hl;omega
   ·simp only[Z6]at hl;omega
   ·exact hl)
  rw[← hR]at HP;clear hR64 fin hR;simp only[lj]at HP;have HNN:=HN.out;simp only at HNN;have HN2:=hid HNN;clear HNN HN h0 hN hr
  by_cases g1:1 < s.length
  ·have e1:decide ((1:Int) < (s.length:Int))=true:=Z9 (by omega);have e1n:decide (1 < s.length)=true:=Z9 g1;have e1i:(1:Int) < (s.length:Int):=by omega
   have e2i:(2:Int)≤(s.length:Int):=by omega
   by_cases g2:(s.getD 0 0).toNat=48
   ·have e2:(((s.getD 0 0).toNat:Int)==48)=true:=by rw[beq_iff_eq];omega
    by_cases g3:(s.getD 1 0).toNat=120
    ·have e3:(((s.getD 1 0).toNat:Int)==120)=true:=by rw[beq_iff_eq];omega
     obtain⟨b1,b2⟩:=yO s g1 g2 g3;rw[b1,b2]at HP;clear b1 b2 g2 g3;generalize(s.getD 0 0).toNat=x at *
     generalize(s.getD 1 0).toNat=y at *
     go_enter Tryz.func156,Tryz.ntmps156;go_wp2_with fail
     go_region
     all_goals
      go_wp2_with fail;refine(HP.out _).mono ?_;rintro e w1 ⟨rfl,rfl⟩;go_wp2_with fail;go_ret2;rw[HN2.out]
      first|exact⟨rfl,(Y4 _ _).drew⟩|(refine⟨?_,(Y4 _ _).drew⟩;(first|(rw[if_pos hn];done)|(rw[if_pos hn];rfl)|(rw[if_neg (by omega)];rfl)))
    ·have e3:(((s.getD 1 0).toNat:Int)==120)=false:=by rw[Z8];omega
     by_cases g4:(s.getD 1 0).toNat=98
     ·have e4:(((s.getD 1 0).toNat:Int)==98)=true:=by rw[beq_iff_eq];omega
      obtain⟨b1,b2⟩:=yP s g1 g2 g4;rw[b1,b2]at HP;clear b1 b2 g2 g3 g4;generalize(s.getD 0 0).toNat=x at *
      generalize(s.getD 1 0).toNat=y at *
      go_enter Tryz.func156,Tryz.ntmps156;go_wp2_with fail
      go_region
      all_goals
       go_wp2_with fail;refine(HP.out _).mono ?_;rintro e w1 ⟨rfl,rfl⟩;go_wp2_with fail;go_ret2;rw[HN2.out]
       first|exact⟨rfl,(Y4 _ _).drew⟩|(refine⟨?_,(Y4 _ _).drew⟩;(first|(rw[if_pos hn];done)|(rw[if_pos hn];rfl)|(rw[if_neg (by omega)];rfl)))
     ·have e4:(((s.getD 1 0).toNat:Int)==98)=false:=by rw[Z8];omega
      obtain⟨b1,b2⟩:=dr s (.inr (.inr ⟨g3,g4⟩));rw[b1,b2]at HP;clear b1 b2 g2 g3 g4;generalize(s.getD 0 0).toNat=x at *
      generalize(s.getD 1 0).toNat=y at *
      go_enter Tryz.func156,Tryz.ntmps156;go_wp2_with fail;refine(HP.out _).mono ?_;rintro e w1 ⟨rfl,rfl⟩;go_wp2_with fail;go_ret2;rw[HN2.out]
      first|exact⟨rfl,(Y4 _ _)⟩|(refine⟨?_,(Y4 _ _)⟩;(first|(rw[if_pos hn];done)|(rw[if_pos hn];rfl)|(rw[if_neg (by omega)];rfl)))
   ·have e2:(((s.getD 0 0).toNat:Int)==48)=false:=by rw[Z8];omega
    obtain⟨b1,b2⟩:=dr s (.inr (.inl g2));rw[b1,b2]at HP;clear b1 b2 g2;generalize(s.getD 0 0).toNat=x at *
    generalize(s.getD 1 0).toNat=y at *
    go_enter Tryz.func156,Tryz.ntmps156;go_wp2_with fail;refine(HP.out _).mono ?_;rintro e w1 ⟨rfl,rfl⟩;go_wp2_with fail;go_ret2;rw[HN2.out]
    first|exact⟨rfl,(Y4 _ _)⟩|(refine⟨?_,(Y4 _ _)⟩;(first|(rw[if_pos hn];done)|(rw[if_pos hn];rfl)|(rw[if_neg (by omega)];rfl)))
  ·have e1:decide ((1:Int) < (s.length:Int))=false:=Y9 (by omega);have e1n:decide (1 < s.length)=false:=Y9 g1;obtain⟨b1,b2⟩:=dr s (.inl (by omega));rw[b1,b2]at HP;clear b1 b2;generalize(s.getD 0 0).toNat=x at *
   generalize(s.getD 1 0).toNat=y at *
   go_enter Tryz.func156,Tryz.ntmps156;go_wp2_with fail;refine(HP.out _).mono ?_;rintro e w1 ⟨rfl,rfl⟩;go_wp2_with fail;go_ret2;rw[HN2.out]
   first|exact⟨rfl,(Y4 _ _)⟩|(refine⟨?_,(Y4 _ _)⟩;(first|(rw[if_pos hn];done)|(rw[if_pos hn];rfl)|(rw[if_neg (by omega)];rfl)))
 case inr.inl=>
  have f1:decide ((9223372036854775808:Int)≤(n:Int))=true:=Z9 (by omega);rw[hr]at hR HN;have HP:Hid (∀w,Calls Tryz.prog 157 #[.string (aa (cQ s)),.int .i64 (cu s:Nat)] w fun e w'=>e= .returned (.tuple (lj (dZ (cu s) (cQ s))))∧w=w'):=hid fun w=>lk (cQ s) (cu s) w (by unfold cu;split <;> omega) (by unfold cu;split <;> omega) (by
   unfold cQ;split
   ·simp only[Z6]at hl;omega
   ·simp only[Z6]at hl;omega
   ·exact hl)
  rw[← hR]at HP;clear hR64 fin hR;simp only[lj]at HP;have HNN:=HN.out;simp only at HNN;have HN2:=hid HNN;clear HNN HN h0 hN hr
  by_cases g1:1 < s.length
  ·have e1:decide ((1:Int) < (s.length:Int))=true:=Z9 (by omega);have e1n:decide (1 < s.length)=true:=Z9 g1;have e1i:(1:Int) < (s.length:Int):=by omega
   have e2i:(2:Int)≤(s.length:Int):=by omega
   by_cases g2:(s.getD 0 0).toNat=48
   ·have e2:(((s.getD 0 0).toNat:Int)==48)=true:=by rw[beq_iff_eq];omega
    by_cases g3:(s.getD 1 0).toNat=120
    ·have e3:(((s.getD 1 0).toNat:Int)==120)=true:=by rw[beq_iff_eq];omega
     obtain⟨b1,b2⟩:=yO s g1 g2 g3;rw[b1,b2]at HP;clear b1 b2 g2 g3;generalize(s.getD 0 0).toNat=x at *
     generalize(s.getD 1 0).toNat=y at *
     go_enter Tryz.func156,Tryz.ntmps156;go_wp2_with fail
     go_region
     all_goals
      go_wp2_with fail;refine(HP.out _).mono ?_;rintro e w1 ⟨rfl,rfl⟩;go_wp2_with fail;go_ret2;rw[HN2.out]
      first|exact⟨rfl,(Y4 _ _).drew⟩|(refine⟨?_,(Y4 _ _).drew⟩;(first|(rw[if_pos hn];done)|(rw[if_pos hn];rfl)|(rw[if_neg (by omega)];rfl)))
    ·have e3:(((s.getD 1 0).toNat:Int)==120)=false:=by rw[Z8];omega
     by_cases g4:(s.getD 1 0).toNat=98
     ·have e4:(((s.getD 1 0).toNat:Int)==98)=true:=by rw[beq_iff_eq];omega
      obtain⟨b1,b2⟩:=yP s g1 g2 g4;rw[b1,b2]at HP;clear b1 b2 g2 g3 g4;generalize(s.getD 0 0).toNat=x at *
      generalize(s.getD 1 0).toNat=y at *
      go_enter Tryz.func156,Tryz.ntmps156;go_wp2_with fail
      go_region
      all_goals
       go_wp2_with fail;refine(HP.out _).mono ?_;rintro e w1 ⟨rfl,rfl⟩;go_wp2_with fail;go_ret2;rw[HN2.out]
       first|exact⟨rfl,(Y4 _ _).drew⟩|(refine⟨?_,(Y4 _ _).drew⟩;(first|(rw[if_pos hn];done)|(rw[if_pos hn];rfl)|(rw[if_neg (by omega)];rfl)))
     ·have e4:(((s.getD 1 0).toNat:Int)==98)=false:=by rw[Z8];omega
      obtain⟨b1,b2⟩:=dr s (.inr (.inr ⟨g3,g4⟩));rw[b1,b2]at HP;clear b1 b2 g2 g3 g4;generalize(s.getD 0 0).toNat=x at *
      generalize(s.getD 1 0).toNat=y at *
      go_enter Tryz.func156,Tryz.ntmps156;go_wp2_with fail;refine(HP.out _).mono ?_;rintro e w1 ⟨rfl,rfl⟩;go_wp2_with fail;go_ret2;rw[HN2.out]
      first|exact⟨rfl,(Y4 _ _)⟩|(refine⟨?_,(Y4 _ _)⟩;(first|(rw[if_pos hn];done)|(rw[if_pos hn];rfl)|(rw[if_neg (by omega)];rfl)))
   ·have e2:(((s.getD 0 0).toNat:Int)==48)=false:=by rw[Z8];omega
    obtain⟨b1,b2⟩:=dr s (.inr (.inl g2));rw[b1,b2]at HP;clear b1 b2 g2;generalize(s.getD 0 0).toNat=x at *
    generalize(s.getD 1 0).toNat=y at *
    go_enter Tryz.func156,Tryz.ntmps156;go_wp2_with fail;refine(HP.out _).mono ?_;rintro e w1 ⟨rfl,rfl⟩;go_wp2_with fail;go_ret2;rw[HN2.out]
    first|exact⟨rfl,(Y4 _ _)⟩|(refine⟨?_,(Y4 _ _)⟩;(first|(rw[if_pos hn];done)|(rw[if_pos hn];rfl)|(rw[if_neg (by omega)];rfl)))
  ·have e1:decide ((1:Int) < (s.length:Int))=false:=Y9 (by omega);have e1n:decide (1 < s.length)=false:=Y9 g1;obtain⟨b1,b2⟩:=dr s (.inl (by omega));rw[b1,b2]at HP;clear b1 b2;generalize(s.getD 0 0).toNat=x at *
   generalize(s.getD 1 0).toNat=y at *
   go_enter Tryz.func156,Tryz.ntmps156;go_wp2_with fail;refine(HP.out _).mono ?_;rintro e w1 ⟨rfl,rfl⟩;go_wp2_with fail;go_ret2;rw[HN2.out]
   first|exact⟨rfl,(Y4 _ _)⟩|(refine⟨?_,(Y4 _ _)⟩;(first|(rw[if_pos hn];done)|(rw[if_pos hn];rfl)|(rw[if_neg (by omega)];rfl)))
 case inr.inr.inl=>
  rw[hr]at hR HN;have HP:Hid (∀w,Calls Tryz.prog 157 #[.string (aa (cQ s)),.int .i64 (cu s:Nat)] w fun e w'=>e= .returned (.tuple (lj (dZ (cu s) (cQ s))))∧w=w'):=hid fun w=>lk (cQ s) (cu s) w (by unfold cu;split <;> omega) (by unfold cu;split <;> omega) (by
   unfold cQ;split
   ·simp only[Z6]at hl;omega
   ·simp only[Z6]at hl;omega
   ·exact hl)
  rw[← hR]at HP;clear hR64 fin hR;simp only[lj]at HP;have HNN:=HN.out;simp only at HNN;have HN2:=hid HNN;clear HNN HN h0 hN hr
  by_cases g1:1 < s.length
  ·have e1:decide ((1:Int) < (s.length:Int))=true:=Z9 (by omega);have e1n:decide (1 < s.length)=true:=Z9 g1;have e1i:(1:Int) < (s.length:Int):=by omega
   have e2i:(2:Int)≤(s.length:Int):=by omega
   by_cases g2:(s.getD 0 0).toNat=48
   ·have e2:(((s.getD 0 0).toNat:Int)==48)=true:=by rw[beq_iff_eq];omega
    by_cases g3:(s.getD 1 0).toNat=120
    ·have e3:(((s.getD 1 0).toNat:Int)==120)=true:=by rw[beq_iff_eq];omega
     obtain⟨b1,b2⟩:=yO s g1 g2 g3;rw[b1,b2]at HP;clear b1 b2 g2 g3;generalize(s.getD 0 0).toNat=x at *
     generalize(s.getD 1 0).toNat=y at *
     go_enter Tryz.func156,Tryz.ntmps156;go_wp2_with fail
     go_region
     all_goals
      go_wp2_with fail;refine(HP.out _).mono ?_;rintro e w1 ⟨rfl,rfl⟩;go_wp2_with fail;go_ret2;rw[HN2.out]
      first|exact⟨rfl,(Y4 _ _).drew⟩|(refine⟨?_,(Y4 _ _).drew⟩;(first|(rw[if_pos hn];done)|(rw[if_pos hn];rfl)|(rw[if_neg (by omega)];rfl)))
    ·have e3:(((s.getD 1 0).toNat:Int)==120)=false:=by rw[Z8];omega
     by_cases g4:(s.getD 1 0).toNat=98
     ·have e4:(((s.getD 1 0).toNat:Int)==98)=true:=by rw[beq_iff_eq];omega
      obtain⟨b1,b2⟩:=yP s g1 g2 g4;rw[b1,b2]at HP;clear b1 b2 g2 g3 g4;generalize(s.getD 0 0).toNat=x at *
      generalize(s.getD 1 0).toNat=y at *
      go_enter Tryz.func156,Tryz.ntmps156;go_wp2_with fail
      go_region
      all_goals
       go_wp2_with fail;refine(HP.out _).mono ?_;rintro e w1 ⟨rfl,rfl⟩;go_wp2_with fail;go_ret2;rw[HN2.out]
       first|exact⟨rfl,(Y4 _ _).drew⟩|(refine⟨?_,(Y4 _ _).drew⟩;(first|(rw[if_pos hn];done)|(rw[if_pos hn];rfl)|(rw[if_neg (by omega)];rfl)))
     ·have e4:(((s.getD 1 0).toNat:Int)==98)=false:=by rw[Z8];omega
      obtain⟨b1,b2⟩:=dr s (.inr (.inr ⟨g3,g4⟩));rw[b1,b2]at HP;clear b1 b2 g2 g3 g4;generalize(s.getD 0 0).toNat=x at *
      generalize(s.getD 1 0).toNat=y at *
      go_enter Tryz.func156,Tryz.ntmps156;go_wp2_with fail;refine(HP.out _).mono ?_;rintro e w1 ⟨rfl,rfl⟩;go_wp2_with fail;go_ret2;rw[HN2.out]
      first|exact⟨rfl,(Y4 _ _)⟩|(refine⟨?_,(Y4 _ _)⟩;(first|(rw[if_pos hn];done)|(rw[if_pos hn];rfl)|(rw[if_neg (by omega)];rfl)))
   ·have e2:(((s.getD 0 0).toNat:Int)==48)=false:=by rw[Z8];omega
    obtain⟨b1,b2⟩:=dr s (.inr (.inl g2));rw[b1,b2]at HP;clear b1 b2 g2;generalize(s.getD 0 0).toNat=x at *
    generalize(s.getD 1 0).toNat=y at *
    go_enter Tryz.func156,Tryz.ntmps156;go_wp2_with fail;refine(HP.out _).mono ?_;rintro e w1 ⟨rfl,rfl⟩;go_wp2_with fail;go_ret2;rw[HN2.out]
    first|exact⟨rfl,(Y4 _ _)⟩|(refine⟨?_,(Y4 _ _)⟩;(first|(rw[if_pos hn];done)|(rw[if_pos hn];rfl)|(rw[if_neg (by omega)];rfl)))
  ·have e1:decide ((1:Int) < (s.length:Int))=false:=Y9 (by omega);have e1n:decide (1 < s.length)=false:=Y9 g1;obtain⟨b1,b2⟩:=dr s (.inl (by omega));rw[b1,b2]at HP;clear b1 b2;generalize(s.getD 0 0).toNat=x at *
   generalize(s.getD 1 0).toNat=y at *
   go_enter Tryz.func156,Tryz.ntmps156;go_wp2_with fail;refine(HP.out _).mono ?_;rintro e w1 ⟨rfl,rfl⟩;go_wp2_with fail;go_ret2;rw[HN2.out]
   first|exact⟨rfl,(Y4 _ _)⟩|(refine⟨?_,(Y4 _ _)⟩;(first|(rw[if_pos hn];done)|(rw[if_pos hn];rfl)|(rw[if_neg (by omega)];rfl)))
 case inr.inr.inr=>have:=hR64 n hr;omega
end
section
open Go.RowKit Go.Extern.Stop Go.Stop Go.Extern
abbrev hdl(t:Nat):Value:= .pointer (some ⟨4,t,none⟩)
def eB(w:World):Prop:=w.cell? ⟨0,0,none⟩=some (.iface 175 (.agg #[hdl 30]))
namespace ErrAs
theorem Eu(t:Addr)(w:World):(ReflectliteValue.unpack (.iface 86 (.pointer (some t)))).run Tryz.prog w
  = .ok (.agg #[hdl 86,.pointer (some ⟨w.heap.size,0,none⟩),.int .u64 150]) (w.alloc (.cells #[.pointer (some t)] 86)):=by kernel_rfl
theorem Kg(a:Addr)(w:World):(ReflectliteValue.methodAny (ReflectliteValue.valueError "reflectlite.Value.Type" 0) (fun t _ _ _=>ReflectliteType.toType t) #[.agg #[hdl 86,.pointer (some a),.int .u64 150]]).run Tryz.prog w
  = .ok (.iface 175 (.agg #[hdl 86])) w:=by kernel_rfl
theorem Kh(h:Value)(w:World):(Go.method 368 175 (.agg #[h]) "Kind").run Tryz.prog w= .ok (173,h) w:=by kernel_rfl
theorem Ki(w:World):((ReflectliteType.abiMethod fun t=>(fun a:Nat=>Value.int IntKind.u8 (a:Int)) <$> Rtype.kind t) #[hdl 86]).run Tryz.prog w= .ok (.int .u8 22) w:=by kernel_rfl
theorem Kj(w:World):((ReflectliteType.abiMethod fun t=>(fun a:Nat=>Value.int IntKind.u8 (a:Int)) <$> Rtype.kind t) #[hdl 48]).run Tryz.prog w= .ok (.int .u8 2) w:=by kernel_rfl
theorem rlm(z:Sem Value)(f:TypeId→Addr→Nat→Nat→Sem Value)(v:Value):
  ReflectliteValue.method z f #[v]=(do match ← ReflectliteValue.parts v with|none=>z|some (t,a,fl)=>f t a fl (fl % 32)):=rfl
theorem Ev(a:Addr)(w:World):(ReflectliteValue.parts (.agg #[hdl 86,.pointer (some a),.int .u64 150])).run Tryz.prog w= .ok (some (86,a,150)) w:=by kernel_rfl
theorem Jo(a p:Addr)(W:World)(ha:W.cell? a=some (.pointer (some p))):
  (ReflectliteValue.method (ReflectliteValue.valueError "reflectlite.Value.IsNil" 0) ReflectliteValue.isNil #[.agg #[hdl 86,.pointer (some a),.int .u64 150]]).run Tryz.prog W= .ok (.bool false) W:=by
 rw[rlm];simp only[Sem.run_bind,Ev,Result.andThen];simp[ReflectliteValue.isNil,loadVar,isAgg,underlying,Tryz.underlying86,ha,Result.andThen]
theorem Kk(h:Value)(w:World):(Go.method 368 175 (.agg #[h]) "Elem").run Tryz.prog w= .ok (186,.agg #[h]) w:=by kernel_rfl
theorem vH(h:Value)(w:World):(Go.method 368 175 (.agg #[h]) "Implements").run Tryz.prog w= .ok (187,.agg #[h]) w:=by kernel_rfl
theorem rT(h:Value)(w:World):(Go.method 368 175 (.agg #[h]) "AssignableTo").run Tryz.prog w= .ok (184,.agg #[h]) w:=by kernel_rfl
theorem Kl(w:World):(ReflectliteType.method ReflectliteType.elem #[.agg #[hdl 86]]).run Tryz.prog w= .ok (.iface 175 (.agg #[hdl 48])) w:=by kernel_rfl
theorem vI(w:World):(ReflectliteType.relation "Implements" ReflectliteType.implements_ #[.agg #[hdl 48],.iface 175 (.agg #[hdl 30])]).run Tryz.prog w= .ok (.bool true) w:=by kernel_rfl
theorem GS(v:Value)(w:World):(ReflectliteType.typeOf #[.iface 48 v]).run Tryz.prog w= .ok (.iface 175 (.agg #[hdl 48])) w:=by kernel_rfl
theorem vJ(w:World):(ReflectliteType.relation "AssignableTo" ReflectliteType.assignableTo #[.agg #[hdl 48],.iface 175 (.agg #[hdl 48])]).run Tryz.prog w= .ok (.bool true) w:=by kernel_rfl
theorem Ew(n:Int)(w:World):(ReflectliteValue.unpack (.iface 48 (.int .i64 n))).run Tryz.prog w
  = .ok (.agg #[hdl 48,.pointer (some ⟨w.heap.size,0,none⟩),.int .u64 130]) (w.alloc (.cells #[.int .i64 n] 48)):=by kernel_rfl
theorem GU(w:World):(Rtype.elem? 86).run Tryz.prog w= .ok (some 48) w:=by kernel_rfl
theorem mkE(p:Addr)(w:World):(ReflectliteValue.mk 48 p ReflectliteValue.flagAddr).run Tryz.prog w= .ok (.agg #[hdl 48,.pointer (some p),.int .u64 386]) w:=by kernel_rfl
theorem elemV(a p:Addr)(W:World)(ha:W.cell? a=some (.pointer (some p))):
  (ReflectliteValue.method (ReflectliteValue.valueError "reflectlite.Value.Elem" 0) ReflectliteValue.elem #[.agg #[hdl 86,.pointer (some a),.int .u64 150]]).run Tryz.prog W
   = .ok (.agg #[hdl 48,.pointer (some p),.int .u64 386]) W:=by
 rw[rlm];simp only[Sem.run_bind,Ev,Result.andThen];simp[ReflectliteValue.elem,loadVar,isAgg,underlying,Tryz.underlying86,ha,Result.andThen,GU,mkE]
theorem rls(v x:Value):ReflectliteValue.set #[v,x]=(do
  let(some (dst,a,fl),some (src,b,_)):=(← ReflectliteValue.parts v,← ReflectliteValue.parts x)
   |unsupported (.noEntry "extern/(internal/reflectlite.Value).Set.zeroValue")
  if fl / ReflectliteValue.flagAddr % 2==0 then unsupported (.noEntry "extern/(internal/reflectlite.Value).Set.unaddressable")
  let val ← loadVar src b
  if ← Rtype.directlyAssignable dst src then storeVar dst a val
  else if ← Rtype.implements dst src then
   if(← Rtype.kind src)==20 then
    match val with
    | .nilIface=>unsupported (.noEntry "extern/reflectlite: a nil value of one interface type handed on as a value of another")
    |_=>storeVar dst a val
   else storeVar dst a (.iface src val)
  else panicString ("reflectlite.Set: value of type "++(← Rtype.spelt src)++ " is not assignable to type "++(← Rtype.spelt dst))
  pure (.tuple #[])):=rfl
theorem GV(a:Addr)(w:World):(ReflectliteValue.parts (.agg #[hdl 48,.pointer (some a),.int .u64 386])).run Tryz.prog w= .ok (some (48,a,386)) w:=by kernel_rfl
theorem Jp(a:Addr)(w:World):(ReflectliteValue.parts (.agg #[hdl 48,.pointer (some a),.int .u64 130])).run Tryz.prog w= .ok (some (48,a,130)) w:=by kernel_rfl
theorem GW(w:World):(Rtype.directlyAssignable 48 48).run Tryz.prog w= .ok true w:=by kernel_rfl
theorem KB(ta b:Addr)(n:Int)(old:Value)(W:World)(hb:W.cell? b=some (.int .i64 n))(ht:W.cell? ta=some old)(hf:W.frozen? ta=false):
  (ReflectliteValue.set #[.agg #[hdl 48,.pointer (some ta),.int .u64 386],.agg #[hdl 48,.pointer (some b),.int .u64 130]]).run Tryz.prog W
   = .ok (.tuple #[]) (W.setCell ta (.int .i64 n)):=by
 rw[rls];simp only[Sem.run_bind,GV,Jp,Result.andThen];simp[ReflectliteValue.flagAddr,loadVar,isAgg,underlying,Tryz.underlying48,hb,Result.andThen,GW,storeVar,Value.cells,storeCells,Addr.add];rw[run_store Tryz.prog W ta _ _ (by rfl)];simp[ht,hf]
end ErrAs
theorem eB.below{B:Nat}{w w':World}(h:eB w)(hb:Below B w w')(hB:0 < B):eB w':=(hb.cell (p:=⟨0,0,none⟩) hB).trans h
theorem eB.lt{w:World}(h:eB w):0 < w.heap.size:=World.block_lt_of_cell? w _ h
abbrev asW(w:World)(t:Addr):World:=((w.alloc (.cells #[.pointer (some t)] 86)).alloc (.cells #[hdl 86,.pointer (some ⟨w.heap.size,0,none⟩),.int .u64 150] 137)).alloc (.cells #[hdl 86,.pointer (some ⟨w.heap.size,0,none⟩),.int .u64 150] 137)
theorem Ey(n:Int)(t:Addr)(old:Value)(w:World)(hg:eB w)(ht0:w.cell? t=some old)(hf0:w.frozen? t=false):
  Calls Tryz.prog 46 #[.iface 48 (.int .i64 n),.iface 86 (.pointer (some t))] w fun ev w'=>ev= .returned (.bool true)∧w'=((asW w t).alloc (.cells #[.int .i64 n] 48)).setCell t (.int .i64 n):=by
 have hV:=@run_callFunc_extern Tryz.prog 77 _ (fun args=>ReflectliteValue.unpack (args.getD 0 (.tuple #[]))) Tryz.func77 (by kernel_rfl) (by kernel_rfl) (by kernel_rfl) (by kernel_rfl);have hT:=@run_callFunc_extern Tryz.prog 78 _ (ReflectliteValue.methodAny (ReflectliteValue.valueError "reflectlite.Value.Type" 0) (fun t _ _ _=>ReflectliteType.toType t)) Tryz.func78 (by kernel_rfl) (by kernel_rfl) (by kernel_rfl) (by kernel_rfl);have hN:=@run_callFunc_extern Tryz.prog 79 _ (ReflectliteValue.method (ReflectliteValue.valueError "reflectlite.Value.IsNil" 0) ReflectliteValue.isNil) Tryz.func79 (by kernel_rfl) (by kernel_rfl) (by kernel_rfl) (by kernel_rfl);have hK:=@run_callFunc_extern Tryz.prog 173 _ (ReflectliteType.abiMethod fun t=>do pure (.int .u8 (← Rtype.kind t))) Tryz.func173 (by kernel_rfl) (by kernel_rfl) (by kernel_rfl) (by kernel_rfl);have hE:=@run_callFunc_extern Tryz.prog 186 _ (ReflectliteType.method ReflectliteType.elem) Tryz.func186 (by kernel_rfl) (by kernel_rfl) (by kernel_rfl) (by kernel_rfl);have hI:=@run_callFunc_extern Tryz.prog 187 _ (ReflectliteType.relation "Implements" ReflectliteType.implements_) Tryz.func187 (by kernel_rfl) (by kernel_rfl) (by kernel_rfl) (by kernel_rfl);have hTO:=@run_callFunc_extern Tryz.prog 103 _ ReflectliteType.typeOf Tryz.func103 (by kernel_rfl) (by kernel_rfl) (by kernel_rfl) (by kernel_rfl);have hA:=@run_callFunc_extern Tryz.prog 184 _ (ReflectliteType.relation "AssignableTo" ReflectliteType.assignableTo) Tryz.func184 (by kernel_rfl) (by kernel_rfl) (by kernel_rfl) (by kernel_rfl);have hVE:=@run_callFunc_extern Tryz.prog 104 _ (ReflectliteValue.method (ReflectliteValue.valueError "reflectlite.Value.Elem" 0) ReflectliteValue.elem) Tryz.func104 (by kernel_rfl) (by kernel_rfl) (by kernel_rfl) (by kernel_rfl);have hVS:=@run_callFunc_extern Tryz.prog 105 _ ReflectliteValue.set Tryz.func105 (by kernel_rfl) (by kernel_rfl) (by kernel_rfl) (by kernel_rfl);have tO:=ErrAs.GS;have mA:=ErrAs.rT;have aE:=ErrAs.vJ;have vE:=ErrAs.Ew;have f6:=ErrAs.Eu;have f7:=ErrAs.Kg;have mK:=ErrAs.Kh;have mE:=ErrAs.Kk;have mI:=ErrAs.vH;have kP:=ErrAs.Ki;have kE:=ErrAs.Kj;have eP:=ErrAs.Kl;have iE:=ErrAs.vI;have hlt:0 < w.heap.size:=hg.lt;have htl:t.block < w.heap.size:=by
  rcases Nat.lt_or_ge t.block w.heap.size with h|h
  ·exact h
  ·simp[World.cell?,Array.getElem?_eq_none h]at ht0
 have n8:=ErrAs.Jo ⟨w.heap.size,0,none⟩ t ((w.alloc (.cells #[.pointer (some t)] 86)).alloc (.cells #[hdl 86,.pointer (some ⟨w.heap.size,0,none⟩),.int .u64 150] 137)) (by simp);have hg2:((w.alloc (.cells #[.pointer (some t)] 86)).alloc (.cells #[hdl 86,.pointer (some ⟨w.heap.size,0,none⟩),.int .u64 150] 137)).cell? ⟨0,0,none⟩=some (.iface 175 (.agg #[hdl 30])):=by
  rw[World.cell?_alloc_lt _ _ ⟨0,0,none⟩ (by simp <;> omega),World.cell?_alloc_lt _ _ ⟨0,0,none⟩ hlt];exact hg
 have el:=ErrAs.elemV ⟨w.heap.size,0,none⟩ t (asW w t) (by rw[World.cell?_alloc_lt _ _ ⟨w.heap.size,0,none⟩ (by simp;omega)];simp);have st:=ErrAs.KB t ⟨w.heap.size+1+1+1,0,none⟩ n old ((asW w t).alloc (.cells #[.int .i64 n] 48))
  (by rw[World.cell?_alloc_at _ _ _ _ (by simp)] <;> rfl)
  (by rw[World.cell?_alloc_lt _ _ t (by simp;omega),World.cell?_alloc_lt _ _ t (by simp;omega),World.cell?_alloc_lt _ _ t (by simp;omega),World.cell?_alloc_lt _ _ t htl];exact ht0)
  (by rw[World.frozen?_alloc_old _ _ t (by simp;omega),World.frozen?_alloc_old _ _ t (by simp;omega),World.frozen?_alloc_old _ _ t (by simp;omega),World.frozen?_alloc_old _ _ t (Nat.ne_of_lt htl)];exact hf0)
 go_enter Tryz.func46,Tryz.ntmps46
 go_wp2
 refine wp_loop_rounds 1 ?_;rw[rounds_succ]
 go_wp2
 go_ret;exact⟨rfl,rfl⟩
theorem Cd(w:World)(t:Addr)(n:Int):Below w.heap.size w ((asW w t).alloc (.cells #[.int .i64 n] 48)):=
 ((((Y4 _ w).alloc (Z5 _) _).alloc (by simp) _).alloc (by simp;omega) _).alloc (by simp;omega) _
theorem pS(n:Int)(w:World)(hg:eB w):Calls Tryz.prog 21 #[.iface 48 (.int .i64 n)] w fun e w'=>e= .returned (.int .i64 n)∧Below w.heap.size w w':=by
 have has:=Ey n ⟨w.heap.size,0,none⟩ (.int .i64 0) (w.alloc (.cells #[.int .i64 0] 48)) (hg.below ((Y4 _ w).alloc (Z5 _) _) hg.lt) (by simp) (by simp);have hb:=Cd (w.alloc (.cells #[.int .i64 0] 48)) ⟨w.heap.size,0,none⟩ n;have hb2:=(((Y4 _ w).alloc (Z5 _) (.cells #[.int .i64 0] 48)).trans (hb.mono (by simp))).setCell (p:=⟨w.heap.size,0,none⟩) (Z5 _) (.int .i64 n);have hc:(((asW (w.alloc (.cells #[.int .i64 0] 48)) ⟨w.heap.size,0,none⟩).alloc (.cells #[.int .i64 n] 48)).setCell ⟨w.heap.size,0,none⟩ (.int .i64 n)).cell? ⟨w.heap.size,0,none⟩=some (.int .i64 n):=by
  refine World.cell?_setCell_same' _ _ _ ?_;rw[hb.cell (p:=⟨w.heap.size,0,none⟩) (by simp)];simp
 generalize((asW (w.alloc (.cells #[.int .i64 0] 48)) ⟨w.heap.size,0,none⟩).alloc (.cells #[.int .i64 n] 48)).setCell ⟨w.heap.size,0,none⟩ (.int .i64 n)=w9 at *
 have HAS:=hid has;clear has hb;go_enter Tryz.func21,Tryz.ntmps21;go_wp2_with fail;refine HAS.out.mono ?_;rintro e w1 ⟨rfl,rfl⟩;go_wp2_with fail;go_ret;exact⟨rfl,hb2⟩
end
section
open Go.RowKit
namespace Rd
open Ex
def IsX(w:World)(rb:Nat):Nat→X→Prop
 |b,.num a n=>rb < b∧ae w b 0 202 [.int .i64 1,.int .i64 (a:Nat),.int .i64 (n:Nat),.string ByteArray.empty,.string ByteArray.empty,.pointer none,.pointer none]
 |b,.name a s=>rb < b∧ae w b 0 202 [.int .i64 2,.int .i64 (a:Nat),.int .i64 0,.string (aa s),.string ByteArray.empty,.pointer none,.pointer none]
 |b,.bin a op l r=>∃bl br,rb < b∧ae w b 0 202 [.int .i64 3,.int .i64 (a:Nat),.int .i64 0,.string ByteArray.empty,.string (aa op),.pointer (some ⟨bl,0,none⟩),.pointer (some ⟨br,0,none⟩)]∧IsX w rb bl l∧IsX w rb br r
theorem IsX.grown{w w':World}{rb:Nat}(hg:w.grownBy w' (some rb)):∀(x:X) (b:Nat),IsX w rb b x→IsX w' rb b x
 | .num a n,b,h=>⟨h.1,h.2.of_heap (hg.block b h.2.lt (fun e=>by injection e with e;have:=h.1;omega))⟩
 | .name a s,b,h=>⟨h.1,h.2.of_heap (hg.block b h.2.lt (fun e=>by injection e with e;have:=h.1;omega))⟩
 | .bin a op l r,b,h=>by
  obtain⟨bl,br,h1,h2,h3,h4⟩:=h;exact⟨bl,br,h1,h2.of_heap (hg.block b h2.lt (fun e=>by injection e with e;omega)),IsX.grown hg l bl h3,IsX.grown hg r br h4⟩
def da(w:World)(rb:Nat):Prop:=2 < rb∧∀k,k < 3→∃(gk:Addr) (ck:Nat),w.cell? ⟨2,k,none⟩=some (.slice (some gk) (levels k).length ck)∧gk.block < rb∧∀j,j < (levels k).length→w.cell? (gk.add j)=some (.string (aa ((levels k).getD j [])))
structure Env(w:World)(rb:Nat):Prop where
 lv:da w rb
 er:eB w
 eb:0 < rb
theorem Env.grown{w w':World}{rb:Nat}(h:Env w rb)(hg:w.grownBy w' (some rb))(hrb:rb < w.heap.size):Env w' rb:=by
 have key:∀(p:Addr),p.block < rb→w'.cell? p=w.cell? p:=fun p hlt=>World.cell?_of_block (hg.block p.block (Nat.lt_trans hlt hrb) (fun e=>by injection e with e;omega))
 refine⟨⟨h.lv.1,fun k hk=> ?_⟩,(key ⟨_,0,none⟩ h.eb).trans h.er,h.eb⟩;obtain⟨gk,ck,h1,h2,h3⟩:=h.lv.2 k hk;exact⟨gk,ck,(key ⟨_,k,none⟩ h.lv.1).trans h1,h2,fun j hj=>(key (gk.add j) (by rw[Addr.cH];exact h2)).trans (h3 j hj)⟩
def gJ(w:World)(rb E:Nat)(o:Ex.Out)(e:Ending)(w':World):Prop:=match o with
 | .ok x R=>∃b,e= .returned (.pointer (some ⟨b,0,none⟩))∧IsX w' rb b x∧Rdr w' rb R E∧w.grownBy w' (some rb)
 | .bad en p=>∃g,e=aD g∧ae w' g 0 122 [.int .i64 (en:Nat),.int .i64 (p:Nat)]∧w.heap.size≤g∧w.grownBy w' (some rb)
def nB(rb E k d:Nat)(T:List Tok)(o:Ex.Out):Prop:=∀w,Env w rb→Rdr w rb T E→Calls Tryz.prog 138 #[.pointer (some ⟨rb,0,none⟩),.int .i64 (k:Nat),.int .i64 (d:Nat)] w (gJ w rb E o)
def nC(rb E d:Nat)(T:List Tok)(o:Ex.Out):Prop:=∀w,Env w rb→Rdr w rb T E→Calls Tryz.prog 152 #[.pointer (some ⟨rb,0,none⟩),.int .i64 (d:Nat)] w (gJ w rb E o)
def sH(rb E d:Nat)(T:List Tok)(o:Ex.Out):Prop:=∀w,Env w rb→Rdr w rb T E→Calls Tryz.prog 113 #[.pointer (some ⟨rb,0,none⟩),.int .i64 (d:Nat)] w (gJ w rb E o)
end Rd
open Rd
open Ex (X)
theorem ug(rb E d:Nat)(T:List Rd.Tok)(x:X)(R:List Rd.Tok)(h:nB rb E 0 d T (.ok x R)):sH rb E d T (.ok x R):=by
 intro w henv hr;have H:=hid (h w henv hr);clear h henv hr;go_enter Tryz.func113,Tryz.ntmps113;go_wp2_with fail;refine H.out.mono ?_;rintro e w1 ⟨b,rfl,h1⟩;go_wp2_with fail;go_ret;exact⟨b,rfl,h1⟩
theorem vK(rb E d:Nat)(T:List Rd.Tok)(en p:Nat)(h:nB rb E 0 d T (.bad en p)):sH rb E d T (.bad en p):=by
 intro w henv hr;have h1:=h w henv hr;unfold gJ aD at h1⊢;have H:=hid h1;clear h h1 henv hr;go_enter Tryz.func113,Tryz.ntmps113;go_wp2_with fail;refine H.out.mono ?_;rintro e w1 ⟨g,rfl,h1⟩;go_wp2_with fail;exact⟨rfl,g,rfl,h1⟩
theorem Ce(rb E d:Nat)(t u:Rd.Tok)(T T':List Rd.Tok)(x:X)(ht:t.1=[40])(hd:d < 8)(hC:sH rb E (d+1) T (.ok x (u::T')))(hu:u.1=[41]):nC rb E d (t::T) (.ok x T'):=by
 intro w henv hr;have HA:=hid (bW rb (t::T) E w hr);have hT:=eA rb t T E w hr (by rw[ht];simp);rw[ht]at hT;have HT:=hid hT;have HE:=hid henv;have HL:=hid hr.lt;have hC2:∀w,Env w rb→Rdr w rb T E→Calls Tryz.prog 113 #[.pointer (some ⟨rb,0,none⟩),.int .i64 ((d:Int)+1)] w (gJ w rb E (.ok x (u::T'))):=hC;have HC:=hid hC2;have HM:Hid (∀w,Rdr w rb (u::T') E→Calls Tryz.prog 53 #[.pointer (some ⟨rb,0,none⟩),.string (aa [41])] w fun e w'=>e= .returned (.tuple #[])∧Rdr w' rb T' E∧w.grownBy w' (some rb)):=hid fun w h=>by
  have:=pL rb u T' E w h (by rw[hu];simp);rw[hu]at this;exact this
 have d1:((d:Int)==8)=false:=by rw[Z8];omega
 generalize Ex.dY E (t::T)=at_ at *
 clear hT hr henv hC hC2 ht hu;go_enter Tryz.func152,Tryz.ntmps152;go_wp2_with fail;refine HA.out.mono ?_;rintro e w0 ⟨rfl,rfl⟩;go_wp2_with fail;refine HT.out.mono ?_;rintro e w1 ⟨rfl,hr1,hg1⟩;have HR1:=hid hr1;have HG1:=hid hg1;clear hr1 hg1;go_wp2_with fail;refine(HC.out w1 (HE.out.grown HG1.out HL.out) HR1.out).mono ?_;rintro e w2 ⟨b,rfl,hx2,hr2,hg2⟩;have HX2:=hid hx2;have HR2:=hid hr2;have HG2:=hid (ah HG1.out hg2);clear hx2 hr2 hg2;go_wp2_with fail;refine(HM.out w2 HR2.out).mono ?_;rintro e w3 ⟨rfl,hr3,hg3⟩;have HR3:=hid hr3;have HG3:=hid (ah HG2.out hg3);have HX3:=hid (IsX.grown hg3 x b HX2.out);clear hr3 hg3;go_wp2_with fail;go_ret;exact⟨b,rfl,HX3.out,HR3.out,HG3.out⟩
theorem rU(rb E d:Nat)(t:Rd.Tok)(T T':List Rd.Tok)(x:X)(ht:t.1=[40])(hd:d < 8)(hC:sH rb E (d+1) T (.ok x T'))(hu:∀u T'',T'=u::T''→u.1≠[41]):nC rb E d (t::T) (.bad 3 (Ex.dY E T')):=by
 intro w henv hr;have HA:=hid (bW rb (t::T) E w hr);have hT:=eA rb t T E w hr (by rw[ht];simp);rw[ht]at hT;have HT:=hid hT;have HE:=hid henv;have HL:=hid hr.lt;have hC2:∀w,Env w rb→Rdr w rb T E→Calls Tryz.prog 113 #[.pointer (some ⟨rb,0,none⟩),.int .i64 ((d:Int)+1)] w (gJ w rb E (.ok x T')):=hC;have HC:=hid hC2;have hM:=fun w h=>AG rb T' E [41] w h (by simp) (by
  cases T' with
  |nil=>simp[al]
  |cons u T''=>exact hu u T'' rfl)
 unfold aD at hM;have HM:=hid hM;have d1:((d:Int)==8)=false:=by rw[Z8];omega
 unfold gJ aD;generalize Ex.dY E (t::T)=at_ at *
 generalize Ex.dY E T'=at2 at *
 clear hT hr henv hC hC2 hM ht hu;go_enter Tryz.func152,Tryz.ntmps152;go_wp2_with fail;refine HA.out.mono ?_;rintro e w0 ⟨rfl,rfl⟩;go_wp2_with fail;refine HT.out.mono ?_;rintro e w1 ⟨rfl,hr1,hg1⟩;have HR1:=hid hr1;have HG1:=hid hg1;clear hr1 hg1;go_wp2_with fail;refine(HC.out w1 (HE.out.grown HG1.out HL.out) HR1.out).mono ?_;rintro e w2 ⟨b,rfl,hx2,hr2,hg2⟩;have HR2:=hid hr2;have HG2:=hid (ah HG1.out hg2);clear hx2 hr2 hg2;go_wp2_with fail;refine(HM.out w2 HR2.out).mono ?_;rintro e w3 ⟨rfl,hr3,hb3⟩;have HR3:=hid hr3;have HG3:=hid (ah HG2.out (ar hb3 _));clear hr3 hb3;go_wp2_with fail;exact⟨rfl,_,rfl,HR3.out,HG2.out.size,HG3.out⟩
theorem uh(rb E d:Nat)(t:Rd.Tok)(T:List Rd.Tok)(en p:Nat)(ht:t.1=[40])(hd:d < 8)(hC:sH rb E (d+1) T (.bad en p)):nC rb E d (t::T) (.bad en p):=by
 intro w henv hr;have HA:=hid (bW rb (t::T) E w hr);have hT:=eA rb t T E w hr (by rw[ht];simp);rw[ht]at hT;have HT:=hid hT;have HE:=hid henv;have HL:=hid hr.lt;have hC2:∀w,Env w rb→Rdr w rb T E→Calls Tryz.prog 113 #[.pointer (some ⟨rb,0,none⟩),.int .i64 ((d:Int)+1)] w (gJ w rb E (.bad en p)):=hC;unfold gJ aD at hC2⊢;have HC:=hid hC2;have d1:((d:Int)==8)=false:=by rw[Z8];omega
 generalize Ex.dY E (t::T)=at_ at *
 clear hT hr henv hC hC2 ht;go_enter Tryz.func152,Tryz.ntmps152;go_wp2_with fail;refine HA.out.mono ?_;rintro e w0 ⟨rfl,rfl⟩;go_wp2_with fail;refine HT.out.mono ?_;rintro e w1 ⟨rfl,hr1,hg1⟩;have HR1:=hid hr1;have HG1:=hid hg1;clear hr1 hg1;go_wp2_with fail;refine(HC.out w1 (HE.out.grown HG1.out HL.out) HR1.out).mono ?_;rintro e w2 ⟨g,rfl,h1,h2,h3⟩;have H1:=hid h1;have H2:=hid (Nat.le_trans HG1.out.size h2);have HG2:=hid (ah HG1.out h3);clear h1 h2 h3;go_wp2_with fail;exact⟨rfl,g,rfl,H1.out,H2.out,HG2.out⟩
theorem Ez(rb E:Nat)(t:Rd.Tok)(T:List Rd.Tok)(ht:t.1=[40]):nC rb E 8 (t::T) (.bad 4 t.2):=by
 intro w henv hr;have HA:=hid (bW rb (t::T) E w hr);have hT:=eA rb t T E w hr (by rw[ht];simp);rw[ht]at hT;have HT:=hid hT;have hat:Ex.dY E (t::T)=t.2:=rfl;rw[hat]at HA;have hF:=fun w=>dC rb 4 t.2 w
 unfold aD at hF;unfold gJ aD;have HF:=hid hF;generalize t.2=at_ at *
 clear hT hr henv ht hF hat;go_enter Tryz.func152,Tryz.ntmps152;go_wp2_with fail;refine HA.out.mono ?_;rintro e w0 ⟨rfl,rfl⟩;go_wp2_with fail;refine HT.out.mono ?_;rintro e w1 ⟨rfl,hr1,hg1⟩;have HR1:=hid hr1;have HG1:=hid hg1;clear hr1 hg1;go_wp2_with fail;refine(HF.out w1).mono ?_;rintro e w2 ⟨rfl,h1,h2⟩;have H1:=hid h1;have HG2:=hid (ah HG1.out (ar h2 _));clear h1 h2;go_wp2_with fail;exact⟨rfl,_,rfl,H1.out,HG1.out.size,HG2.out⟩
theorem ik(c:UInt8)(r:List UInt8)(w:World):Calls Tryz.prog 86 #[.string (aa (c::r))] w fun e w'=>e= .returned (.bool (Lex.letter c.toNat))∧w=w':=by
 have HL:=hid (fun w=>pI c.toNat (UInt8.toNat_lt c) w);have s0:∀h:0 < (aa (c::r)).size,((aa (c::r))[0]'h).toNat=c.toNat:=fun h=>rfl
 have l0:(aa (c::r)).size=r.length+1:=by rw[aq,Z6]
 have m0:(aa (c::r)).toList.isEmpty=false:=by rw[gM];rfl
 have hp:(0:Int) < (r.length:Int)+1:=by omega
 generalize Lex.letter c.toNat=b at *
 generalize c.toNat=x at *
 generalize aa (c::r)=S at *
 go_enter Tryz.func86,Tryz.ntmps86;go_wp2_with fail;refine(HL.out _).mono ?_;rintro e w1 ⟨rfl,rfl⟩;go_wp2_with fail;go_ret;exact⟨rfl,rfl⟩
end
section
open Go.RowKit
open Rd
open Ex (X)
theorem pU{c:UInt8}(h:Lex.letter c.toNat=true):c≠40:=by
 rintro rfl;exact absurd h (by decide)
theorem sI{c:UInt8}(h:Lex.digit c.toNat=true):c≠40∧Lex.letter c.toNat=false∧c.toNat≠45∧48≤c.toNat∧c.toNat≤57:=by
 have h2:48≤c.toNat∧c.toNat≤57:=of_decide_eq_true h;refine⟨fun e=> ?_,?_,by omega,h2.1,h2.2⟩
 ·subst e;exact absurd h2 (by decide)
 ·unfold Lex.letter;simp;omega
theorem ka{c:UInt8}{r:List UInt8}(h:c≠40):(c::r)≠[40]:=fun e=>h (List.cons.inj e).1
theorem EA(rb E d:Nat)(t:Rd.Tok)(T:List Rd.Tok)(c:UInt8)(r:List UInt8)(ht:t.1=c::r)(hl:Lex.letter c.toNat=true)(h12:t.1.length≤12):nC rb E d (t::T) (.ok (.name t.2 t.1) T):=by
 intro w henv hr;have HA:=hid (bW rb (t::T) E w hr);have HT:=hid (dq rb (t::T) E [40] w hr (by simp) (by show t.1≠[40];rw[ht];exact ka (pU hl)));have HX:=hid (bJ rb (t::T) E w hr);have HP:=hid (eg rb t T E w hr (by rw[ht];simp));have hat:Ex.dY E (t::T)=t.2:=rfl;have htx:al (t::T)=t.1:=rfl;rw[hat]at HA;rw[htx]at HX;have HL:=hid hr.lt;have hnm:=fun w=>ik c r w
 rw[hl,← ht]at hnm;have HN:=hid hnm;have d12:decide ((12:Int) < (t.1.length:Int))=false:=Y9 (by omega);have d12n:decide (12 < t.1.length)=false:=Y9 (by omega);generalize t.2=at_ at *
 generalize t.1=s at *
 clear hr henv ht hat htx hnm hl;go_enter Tryz.func152,Tryz.ntmps152;go_wp2_with fail;refine HA.out.mono ?_;rintro e w0 ⟨rfl,rfl⟩;go_wp2_with fail;refine HT.out.mono ?_;rintro e w0 ⟨rfl,rfl⟩;go_wp2_with fail;refine HX.out.mono ?_;rintro e w0 ⟨rfl,rfl⟩;go_wp2_with fail;refine(HN.out _).mono ?_;rintro e w1 ⟨rfl,rfl⟩;go_wp2_with fail;refine HP.out.mono ?_;rintro e w1 ⟨rfl,hr1,hg1⟩;have hrow:=ae.new w1 202 #[.int .i64 2,.int .i64 (at_:Nat),.int .i64 0,.string (aa s),.string ByteArray.empty,.pointer none,.pointer none];have hb:=(Y4 w1.heap.size w1).alloc (Z5 _) (.cells #[.int .i64 2,.int .i64 (at_:Nat),.int .i64 0,.string (aa s),.string ByteArray.empty,.pointer none,.pointer none] 202);have HF:Hid (IsX (w1.alloc (.cells #[.int .i64 2,.int .i64 (at_:Nat),.int .i64 0,.string (aa s),.string ByteArray.empty,.pointer none,.pointer none] 202)) rb w1.heap.size (.name at_ s)∧Rdr (w1.alloc (.cells #[.int .i64 2,.int .i64 (at_:Nat),.int .i64 0,.string (aa s),.string ByteArray.empty,.pointer none,.pointer none] 202)) rb T E∧w0.grownBy (w1.alloc (.cells #[.int .i64 2,.int .i64 (at_:Nat),.int .i64 0,.string (aa s),.string ByteArray.empty,.pointer none,.pointer none] 202)) (some rb)):=
  hid ⟨⟨Nat.lt_of_lt_of_le HL.out hg1.size,hrow⟩,hr1.below hb,ah hg1 (ar hb _)⟩
 clear hr1 hg1 hrow hb;go_wp2_with fail;go_ret;exact⟨_,rfl,HF.out⟩
theorem ui(rb E d:Nat)(t:Rd.Tok)(T:List Rd.Tok)(c:UInt8)(r:List UInt8)(ht:t.1=c::r)(hl:Lex.letter c.toNat=true)(h12:12 < t.1.length):nC rb E d (t::T) (.bad 4 t.2):=by
 intro w henv hr;have HA:=hid (bW rb (t::T) E w hr);have HT:=hid (dq rb (t::T) E [40] w hr (by simp) (by show t.1≠[40];rw[ht];exact ka (pU hl)));have HX:=hid (bJ rb (t::T) E w hr);have HP:=hid (eg rb t T E w hr (by rw[ht];simp));have hat:Ex.dY E (t::T)=t.2:=rfl;have htx:al (t::T)=t.1:=rfl;rw[hat]at HA;rw[htx]at HX;have hnm:=fun w=>ik c r w
 rw[hl,← ht]at hnm;have HN:=hid hnm;have hF:=fun w=>dC rb 4 t.2 w
 unfold aD at hF;unfold gJ aD;have HF:=hid hF;have d12:decide ((12:Int) < (t.1.length:Int))=true:=Z9 (by omega);have d12n:decide (12 < t.1.length)=true:=Z9 (by omega);generalize t.2=at_ at *
 generalize t.1=s at *
 clear hr henv ht hat htx hnm hl hF h12;go_enter Tryz.func152,Tryz.ntmps152;go_wp2_with fail;refine HA.out.mono ?_;rintro e w0 ⟨rfl,rfl⟩;go_wp2_with fail;refine HT.out.mono ?_;rintro e w0 ⟨rfl,rfl⟩;go_wp2_with fail;refine HX.out.mono ?_;rintro e w0 ⟨rfl,rfl⟩;go_wp2_with fail;refine(HN.out _).mono ?_;rintro e w1 ⟨rfl,rfl⟩;go_wp2_with fail;refine HP.out.mono ?_;rintro e w1 ⟨rfl,hr1,hg1⟩;have HG1:=hid hg1;clear hr1 hg1;go_wp2_with fail;refine(HF.out _).mono ?_;rintro e w2 ⟨rfl,h1,h2⟩;have H1:=hid h1;have HG2:=hid (ah HG1.out (ar h2 (some rb)));clear h1 h2;go_wp2_with fail;exact⟨rfl,_,rfl,H1.out,HG1.out.size,HG2.out⟩
theorem EB(w:World):Calls Tryz.prog 86 #[.string (aa [])] w fun e w'=>e= .returned (.bool false)∧w=w':=by
 go_enter Tryz.func86,Tryz.ntmps86;go_wp2_with fail;go_ret;exact⟨rfl,rfl⟩
theorem EC(rb E d:Nat):nC rb E d [] (.bad 3 E):=by
 intro w henv hr;have HA:=hid (bW rb [] E w hr);have HT:=hid (dq rb [] E [40] w hr (by simp) (by simp[al]));have HX:=hid (bJ rb [] E w hr);have hat:Ex.dY E []=E:=rfl;have htx:al []=[]:=rfl;rw[hat]at HA;rw[htx]at HX;have HN:=hid (fun w=>EB w);have hF:=fun w=>dC rb 3 E w
 unfold aD at hF;unfold gJ aD;have HF:=hid hF;clear hr henv hat htx hF;go_enter Tryz.func152,Tryz.ntmps152;go_wp2_with fail;refine HA.out.mono ?_;rintro e w0 ⟨rfl,rfl⟩;go_wp2_with fail;refine HT.out.mono ?_;rintro e w0 ⟨rfl,rfl⟩;go_wp2_with fail;refine HX.out.mono ?_;rintro e w0 ⟨rfl,rfl⟩;go_wp2_with fail;refine(HN.out _).mono ?_;rintro e w1 ⟨rfl,rfl⟩;go_wp2_with fail;refine(HF.out _).mono ?_;rintro e w2 ⟨rfl,h1,h2⟩;have H1:=hid h1;have HG2:=hid (ar h2 (some rb));clear h1 h2;go_wp2_with fail;exact⟨rfl,_,rfl,H1.out,Z5 _,HG2.out⟩
theorem ED(rb E d:Nat)(t:Rd.Tok)(T:List Rd.Tok)(c:UInt8)(r:List UInt8)(ht:t.1=c::r)(hl:Lex.letter c.toNat=false)(hd:Lex.digit c.toNat=false)(h40:t.1≠[40]):nC rb E d (t::T) (.bad 3 t.2):=by
 intro w henv hr;have HA:=hid (bW rb (t::T) E w hr);have HT:=hid (dq rb (t::T) E [40] w hr (by simp) h40);have HX:=hid (bJ rb (t::T) E w hr);have hat:Ex.dY E (t::T)=t.2:=rfl;have htx:al (t::T)=t.1:=rfl;rw[hat]at HA;rw[htx,ht]at HX;have hnm:=fun w=>ik c r w
 rw[hl]at hnm;have HN:=hid hnm;have hF:=fun w=>dC rb 3 t.2 w
 unfold aD at hF;unfold gJ aD;have HF:=hid hF;have hemp:((c::r)==([]:List UInt8))=false:=rfl;have hemp2:(c::r).isEmpty=false:=rfl;have s0:∀h:0 < (aa (c::r)).size,((aa (c::r))[0]'h).toNat=c.toNat:=fun h=>rfl
 have l0:(aa (c::r)).size=r.length+1:=by rw[aq,Z6]
 have m0:(aa (c::r)).toList.isEmpty=false:=by rw[gM];rfl
 have hp:(0:Int) < (r.length:Int)+1:=by omega
 have hnd:¬(48≤c.toNat∧c.toNat≤57):=of_decide_eq_false hd;generalize t.2=at_ at *
 generalize c.toNat=x at *
 generalize aa (c::r)=S at *
 clear hr henv ht hat htx hnm hl hF hd h40
 by_cases h48:x < 48
 ·have e1:decide ((x:Int) < 48)=true:=Z9 (by omega);clear hnd;go_enter Tryz.func152,Tryz.ntmps152;go_wp2_with fail;refine HA.out.mono ?_;rintro e w0 ⟨rfl,rfl⟩;go_wp2_with fail;refine HT.out.mono ?_;rintro e w0 ⟨rfl,rfl⟩;go_wp2_with fail;refine HX.out.mono ?_;rintro e w0 ⟨rfl,rfl⟩;go_wp2_with fail;refine(HN.out _).mono ?_;rintro e w1 ⟨rfl,rfl⟩;go_wp2_with fail;refine(HF.out _).mono ?_;rintro e w2 ⟨rfl,h1,h2⟩;have H1:=hid h1;have HG2:=hid (ar h2 (some rb));clear h1 h2;go_wp2_with fail;exact⟨rfl,_,rfl,H1.out,Z5 _,HG2.out⟩
 ·have e1:decide ((x:Int) < 48)=false:=Y9 (by omega);have e2:decide ((57:Int) < (x:Int))=true:=Z9 (by omega);clear hnd;go_enter Tryz.func152,Tryz.ntmps152;go_wp2_with fail;refine HA.out.mono ?_;rintro e w0 ⟨rfl,rfl⟩;go_wp2_with fail;refine HT.out.mono ?_;rintro e w0 ⟨rfl,rfl⟩;go_wp2_with fail;refine HX.out.mono ?_;rintro e w0 ⟨rfl,rfl⟩;go_wp2_with fail;refine(HN.out _).mono ?_;rintro e w1 ⟨rfl,rfl⟩;go_wp2_with fail;refine(HF.out _).mono ?_;rintro e w2 ⟨rfl,h1,h2⟩;have H1:=hid h1;have HG2:=hid (ar h2 (some rb));clear h1 h2;go_wp2_with fail;exact⟨rfl,_,rfl,H1.out,Z5 _,HG2.out⟩
theorem one_num(rb E d:Nat)(t:Rd.Tok)(T:List Rd.Tok)(c:UInt8)(r:List UInt8)(n:Nat)(ht:t.1=c::r)(hd:Lex.digit c.toNat=true)(hnum:Num.numOf t.1= .inl n)(hlen:t.1.length≤100000):nC rb E d (t::T) (.ok (.num t.2 n) T):=by
 intro w henv hr;obtain⟨n40,nl,n45,n48,n57⟩:=sI hd;have HA:=hid (bW rb (t::T) E w hr);have HT:=hid (dq rb (t::T) E [40] w hr (by simp) (by show t.1≠[40];rw[ht];exact ka n40));have HX:=hid (bJ rb (t::T) E w hr);have HP:=hid (eg rb t T E w hr (by rw[ht];simp));have hat:Ex.dY E (t::T)=t.2:=rfl;have htx:al (t::T)=t.1:=rfl;rw[hat]at HA;rw[htx,ht]at HX;rw[ht]at HP;have hnm:=fun w=>ik c r w
 rw[nl]at hnm;have HN:=hid hnm;have HL:=hid hr.lt;have hnb:=fun w=>pR (c::r) w (by rw[ht]at hlen;exact hlen) (by simp) (by simpa using n45)
 rw[← ht,hnum,ht]at hnb;simp only[Num.pQ]at hnb;have HNB:=hid hnb;have hemp:((c::r)==([]:List UInt8))=false:=rfl;have hemp2:(c::r).isEmpty=false:=rfl;have s0:∀h:0 < (aa (c::r)).size,((aa (c::r))[0]'h).toNat=c.toNat:=fun h=>rfl
 have l0:(aa (c::r)).size=r.length+1:=by rw[aq,Z6]
 have m0:(aa (c::r)).toList.isEmpty=false:=by rw[gM];rfl
 have hp:(0:Int) < (r.length:Int)+1:=by omega
 have e1:decide ((c.toNat:Int) < 48)=false:=Y9 (by omega);have e2:decide ((57:Int) < (c.toNat:Int))=false:=Y9 (by omega);generalize t.2=at_ at *
 generalize c.toNat=x at *
 generalize aa (c::r)=S at *
 clear hr henv hat htx hnm hd n40 nl n45 n48 n57 hnb hnum hlen ht;go_enter Tryz.func152,Tryz.ntmps152;go_wp2_with fail;refine HA.out.mono ?_;rintro e w0 ⟨rfl,rfl⟩;go_wp2_with fail;refine HT.out.mono ?_;rintro e w0 ⟨rfl,rfl⟩;go_wp2_with fail;refine HX.out.mono ?_;rintro e w0 ⟨rfl,rfl⟩;go_wp2_with fail;refine(HN.out _).mono ?_;rintro e w1 ⟨rfl,rfl⟩;go_wp2_with fail;refine HP.out.mono ?_;rintro e w1 ⟨rfl,hr1,hg1⟩;have HR1:=hid hr1;have HG1:=hid hg1;clear hr1 hg1;go_wp2_with fail;refine(HNB.out _).mono ?_;rintro e w2 ⟨rfl,hb2⟩;have hr2:=HR1.out.below hb2;have hg2:=ah HG1.out (ar hb2 (some rb));have hrow:=ae.new w2 202 #[.int .i64 1,.int .i64 (at_:Nat),.int .i64 (n:Nat),.string ByteArray.empty,.string ByteArray.empty,.pointer none,.pointer none];have hb:=(Y4 w2.heap.size w2).alloc (Z5 _) (.cells #[.int .i64 1,.int .i64 (at_:Nat),.int .i64 (n:Nat),.string ByteArray.empty,.string ByteArray.empty,.pointer none,.pointer none] 202);have HF:Hid (IsX (w2.alloc (.cells #[.int .i64 1,.int .i64 (at_:Nat),.int .i64 (n:Nat),.string ByteArray.empty,.string ByteArray.empty,.pointer none,.pointer none] 202)) rb w2.heap.size (.num at_ n)∧Rdr (w2.alloc (.cells #[.int .i64 1,.int .i64 (at_:Nat),.int .i64 (n:Nat),.string ByteArray.empty,.string ByteArray.empty,.pointer none,.pointer none] 202)) rb T E∧w0.grownBy (w2.alloc (.cells #[.int .i64 1,.int .i64 (at_:Nat),.int .i64 (n:Nat),.string ByteArray.empty,.string ByteArray.empty,.pointer none,.pointer none] 202)) (some rb)):=
  hid ⟨⟨Nat.lt_of_lt_of_le HL.out hg2.size,hrow⟩,hr2.below hb,ah hg2 (ar hb _)⟩
 clear hr2 hg2 hrow hb hb2;go_wp2_with fail;go_ret;exact⟨_,rfl,HF.out⟩
theorem yQ(rb E d:Nat)(t:Rd.Tok)(T:List Rd.Tok)(c:UInt8)(r:List UInt8)(en:Nat)(ht:t.1=c::r)(hd:Lex.digit c.toNat=true)(hnum:Num.numOf t.1= .inr en)(hlen:t.1.length≤100000):nC rb E d (t::T) (.bad en t.2):=by
 intro w henv hr;obtain⟨n40,nl,n45,n48,n57⟩:=sI hd;have HA:=hid (bW rb (t::T) E w hr);have HT:=hid (dq rb (t::T) E [40] w hr (by simp) (by show t.1≠[40];rw[ht];exact ka n40));have HX:=hid (bJ rb (t::T) E w hr);have HP:=hid (eg rb t T E w hr (by rw[ht];simp));have hat:Ex.dY E (t::T)=t.2:=rfl;have htx:al (t::T)=t.1:=rfl;rw[hat]at HA;rw[htx,ht]at HX;rw[ht]at HP;have hnm:=fun w=>ik c r w
 rw[nl]at hnm;have HN:=hid hnm;have HL:=hid hr.lt;have hnb:=fun w=>pR (c::r) w (by rw[ht]at hlen;exact hlen) (by simp) (by simpa using n45)
 rw[← ht,hnum,ht]at hnb;simp only[Num.pQ]at hnb;have HNB:=hid hnb;have hemp:((c::r)==([]:List UInt8))=false:=rfl;have hemp2:(c::r).isEmpty=false:=rfl;have s0:∀h:0 < (aa (c::r)).size,((aa (c::r))[0]'h).toNat=c.toNat:=fun h=>rfl
 have l0:(aa (c::r)).size=r.length+1:=by rw[aq,Z6]
 have m0:(aa (c::r)).toList.isEmpty=false:=by rw[gM];rfl
 have hp:(0:Int) < (r.length:Int)+1:=by omega
 have e1:decide ((c.toNat:Int) < 48)=false:=Y9 (by omega);have e2:decide ((57:Int) < (c.toNat:Int))=false:=Y9 (by omega);have hF:=fun w=>dC rb en t.2 w
 unfold aD at hF;unfold gJ aD;have HF:=hid hF;have HE:=hid henv;have HTL:=hid (fun w hg=>pS (en:Int) w hg);generalize t.2=at_ at *
 generalize c.toNat=x at *
 generalize aa (c::r)=S at *
 clear hr henv hat htx hnm hd n40 nl n45 n48 n57 hnb hnum hlen ht hF;go_enter Tryz.func152,Tryz.ntmps152;go_wp2_with fail;refine HA.out.mono ?_;rintro e w0 ⟨rfl,rfl⟩;go_wp2_with fail;refine HT.out.mono ?_;rintro e w0 ⟨rfl,rfl⟩;go_wp2_with fail;refine HX.out.mono ?_;rintro e w0 ⟨rfl,rfl⟩;go_wp2_with fail;refine(HN.out _).mono ?_;rintro e w1 ⟨rfl,rfl⟩;go_wp2_with fail;refine HP.out.mono ?_;rintro e w1 ⟨rfl,hr1,hg1⟩;have HR1:=hid hr1;have HG1:=hid hg1;clear hr1 hg1;go_wp2_with fail;refine(HNB.out _).mono ?_;rintro e w2 ⟨rfl,hb2⟩;have HG2:=hid (ah HG1.out (ar hb2 (some rb)));clear hb2;go_wp2_with fail;refine(HTL.out _ (HE.out.grown HG2.out HL.out).er).mono ?_;rintro e w3 ⟨rfl,hb3⟩;have HG3:=hid (ah HG2.out (ar hb3 (some rb)));clear hb3;go_wp2_with fail;refine(HF.out _).mono ?_;rintro e w4 ⟨rfl,h1,h2⟩;have H1:=hid h1;have HG4:=hid (ah HG3.out (ar h2 (some rb)));clear h1 h2;go_wp2_with fail;exact⟨rfl,_,rfl,H1.out,HG3.out.size,HG4.out⟩
end
section
open Go.RowKit
open Rd
open Ex (X levels)
namespace Rd
inductive jg(rb E:Nat):Nat→X→Nat→List Tok→Ex.Out→Prop where
 |done {k x d T}:(∀t T',T=t::T'→t.1∉levels k)→jg rb E k x d T (.ok x T)
 |more {k x d t T T' y o}:t.1∈levels k→nB rb E (k+1) d T (.ok y T')→T'.length≤T.length→jg rb E k (.bin t.2 t.1 x y) d T' o→jg rb E k x d (t::T) o
 |dQ {k x d t T e p}:t.1∈levels k→nB rb E (k+1) d T (.bad e p)→jg rb E k x d (t::T) (.bad e p)
theorem jg.stop{rb E k d:Nat}{x:X}{T:List Tok}{o:Ex.Out}(h:jg rb E k x d T o)(hn:∀t T',T=t::T'→t.1∉levels k):o= .ok x T:=by
 cases h with
 |done _=>rfl
 |more h1=>exact absurd h1 (hn _ _ rfl)
 |dQ h1=>exact absurd h1 (hn _ _ rfl)
theorem jg.go{rb E k d:Nat}{x:X}{t:Tok}{T:List Tok}{o:Ex.Out}(h:jg rb E k x d (t::T) o)(ht:t.1∈levels k):
  (∃y T',nB rb E (k+1) d T (.ok y T')∧T'.length≤T.length∧jg rb E k (.bin t.2 t.1 x y) d T' o)∨(∃e p,nB rb E (k+1) d T (.bad e p)∧o= .bad e p):=by
 cases h with
 |done h1=>exact absurd ht (h1 _ _ rfl)
 |more _ h2 h3 h4=>exact .inl ⟨_,_,h2,h3,h4⟩
 |dQ _ h2=>exact .inr ⟨_,_,h2,rfl⟩
def leftOf(w:World)(rb:Nat):Nat:=match w.cell? ⟨rb,0,none⟩with
 |some (.slice _ n _)=>n
 |_=>0
theorem Rdr.left{w:World}{rb E:Nat}{R:List Tok}(h:Rdr w rb R E):leftOf w rb=R.length:=by
 obtain⟨a,c,h1,_⟩:=h;have:=h1.cell0 0 (by simp);simp only[Z0]at this;unfold leftOf;rw[this]
theorem sJ(k j:Nat)(h:j < (levels k).length):(levels k).getD j []≠[]∧(levels k).getD j []∈levels k:=by
 rw[List.getD_eq_getElem?_getD,Y1 h];have hm:(levels k)[j]∈levels k:=List.getElem_mem h;obtain⟨c,l,h1,_⟩:=Lex.sC _ (Ex.cJ k _ hm).1;refine⟨?_,hm⟩;simp only[Option.getD_some];rw[h1];simp
theorem lW(k:Nat):(levels k).length≤4:=by
 match k with
 |0=>decide
 |1=>decide
 |2=>decide
 |_+3=>exact Nat.zero_le _
theorem pV{k:Nat}{s:List UInt8}(h:∀j,j < (levels k).length→(levels k).getD j []≠s):s∉levels k:=by
 intro hm;obtain⟨j,hj,rfl⟩:=List.getElem_of_mem hm;refine h j hj ?_;rw[List.getD_eq_getElem?_getD,Y1 hj];rfl
def Found(wr:World)(rb E k j:Nat)(T2:List Tok)(op:List UInt8):Prop:=
 (op=[]∧(∀i,i < j→(levels k).getD i []≠al T2)∧Rdr wr rb T2 E)∨(∃t T3,T2=t::T3∧t.1∈levels k∧op=t.1∧t.1≠[]∧Rdr wr rb T3 E)
end Rd
theorem uj(rb E d:Nat)(T:List Rd.Tok)(x:X)(R:List Rd.Tok)(h:nC rb E d T (.ok x R)):nB rb E 3 d T (.ok x R):=by
 intro w henv hr;have H:=hid (h w henv hr);clear h henv hr;go_enter Tryz.func138,Tryz.ntmps138;go_wp2_with fail;refine H.out.mono ?_;rintro e w1 ⟨b,rfl,h1⟩;go_wp2_with fail;go_ret;exact⟨b,rfl,h1⟩
theorem rV(rb E d:Nat)(T:List Rd.Tok)(en p:Nat)(h:nC rb E d T (.bad en p)):nB rb E 3 d T (.bad en p):=by
 intro w henv hr;have h1:=h w henv hr;unfold gJ aD at h1⊢;have H:=hid h1;clear h h1 henv hr;go_enter Tryz.func138,Tryz.ntmps138;go_wp2_with fail;refine H.out.mono ?_;rintro e w1 ⟨g,rfl,h1⟩;go_wp2_with fail;exact⟨rfl,g,rfl,h1⟩
theorem Cf(rb E k d:Nat)(T:List Rd.Tok)(en p:Nat)(hk:k < 3)(h:nB rb E (k+1) d T (.bad en p)):nB rb E k d T (.bad en p):=by
 intro w henv hr;have h1:Calls Tryz.prog 138 #[.pointer (some ⟨rb,0,none⟩),.int .i64 ((k:Int)+1),.int .i64 (d:Nat)] w (gJ w rb E (.bad en p)):=h w henv hr;unfold gJ aD at h1⊢;have H:=hid h1;have k3:((k:Int)==3)=false:=by rw[Z8];omega
 clear h h1 henv hr;go_enter Tryz.func138,Tryz.ntmps138;go_wp2_with fail;refine H.out.mono ?_;rintro e w1 ⟨g,rfl,h1⟩;go_wp2_with fail;exact⟨rfl,g,rfl,h1⟩
theorem yR(rb E k d:Nat)(T T1:List Rd.Tok)(x:X)(o:Ex.Out)(hk:k < 3)(h:nB rb E (k+1) d T (.ok x T1))(hch:jg rb E k x d T1 o):nB rb E k d T o:=by
 intro w henv hr;have h1:Calls Tryz.prog 138 #[.pointer (some ⟨rb,0,none⟩),.int .i64 ((k:Int)+1),.int .i64 (d:Nat)] w (gJ w rb E (.ok x T1)):=h w henv hr;have H:=hid h1;have HE:=hid henv;have HL:=hid hr.lt;have HCH:=hid hch;have k3:((k:Int)==3)=false:=by rw[Z8];omega
 have ki:(k:Int) < 3:=by omega
 obtain⟨n,hn⟩:∃n,n=(levels k).length:=⟨_,rfl⟩;have hn4:n≤4:=by rw[hn];exact lW k
 have HN:=hid hn;clear h h1 henv hr hch hn;go_enter Tryz.func138,Tryz.ntmps138;go_wp2_with fail;refine H.out.mono ?_;rintro e w1 ⟨b,rfl,hx1,hr1,hg1⟩;have HX1:=hid hx1;have HR1:=hid hr1;have HG1:=hid hg1;clear hx1 hr1 hg1 H;go_wp2_with fail;go_loopw [7] (fun v7 wr=>∃(b:Nat) (y:X) (T2:List Rd.Tok),v7= .pointer (some ⟨b,0,none⟩)∧Hid (IsX wr rb b y)∧Hid (Rdr wr rb T2 E)∧Hid (jg rb E k y d T2 o)∧Hid (w.grownBy wr (some rb))) (fun _ wr=>Rd.leftOf wr rb)
 case atStart=>exact⟨b,x,T1,rfl,HX1,HR1,HCH,HG1⟩
 case round=>
  clear HX1 HR1 HCH HG1;obtain⟨b,y,T2,rfl,HX,HR,HCH,HG⟩:=hrel;have HA:=hid (bW rb T2 E wr HR.out);have HEr:=hid (HE.out.grown HG.out HL.out);obtain⟨gk,ck,hlk,hgk,hrow⟩:=HEr.out.lv.2 k hk;rw[← HN.out]at hlk hrow;have HROW:=hid hrow;clear hrow;go_wp2_with fail;refine HA.out.mono ?_;rintro e w0 ⟨rfl,rfl⟩;obtain⟨at_,hat⟩:∃a,a=Ex.dY E T2:=⟨_,rfl⟩;rw[← hat];have HAT:=hid hat;clear hat HA;go_wp2_with fail;go_loopw [8,28] (fun v8 v28 wr=>∃(j:Nat) (op:List UInt8),v28= .int .i64 j∧v8= .string (aa op)∧j≤n∧Hid (Rd.Found wr rb E k j T2 op)∧Hid (w0.grownBy wr (some rb))) (fun _ v28 _=>n - (intOf v28).toNat)
  case atStart=>exact⟨0,[],rfl,rfl,by omega,hid (.inl ⟨rfl,fun i hi=>by omega,HR.out⟩),hid (dS _ _)⟩
  case round=>
   obtain⟨j,op,rfl,rfl,hj,HF,HG2⟩:=hrel;have hrb:rb < w0.heap.size:=HR.out.lt;have hcellj:∀i,i < n→wr.cell? (gk.add i)=some (.string (aa ((levels k).getD i []))):=fun i hi=>
    (World.cell?_of_block (a:=gk.add i) (by rw[Addr.cH];exact HG2.out.block gk.block (Nat.lt_trans hgk hrb) (fun e=>by injection e with e;omega))).trans (HROW.out i hi)
   by_cases hlt:j < n
   ·have cj:=hcellj j hlt;have d1:decide ((j:Int) < (n:Int))=true:=Z9 (by omega);have d1n:decide (j < n)=true:=Z9 hlt;have hji:(j:Int) < (n:Int):=by omega
    obtain⟨hsn,hsm⟩:=sJ k j (by rw[← HN.out];exact hlt);obtain⟨sj,hsj⟩:∃sj,sj=(levels k).getD j []:=⟨_,rfl⟩;rw[← hsj]at cj hsn hsm;have HSJ:=hid hsj;have HSM:=hid hsm;have HLT:=hid hlt;clear hcellj hsj hsm hlt;rcases HF.out with⟨rfl,hno,hr2⟩|⟨t,T3,hT,htm,rfl,htn,hr3⟩
    ·by_cases hh:al T2=sj
     ·cases T2 with
      |nil=>exact absurd hh.symm hsn
      |cons t T3=>
       have hts:t.1=sj:=hh;have hty:=eA rb t T3 E wr hr2 (by rw[hts];exact hsn);rw[hts]at hty;have HTY:=hid hty;have HTS:=hid hts;have HSN:=hid hsn;clear hty hts hh hno hr2 hsn;go_wp2_with fail;refine HTY.out.mono ?_;rintro e w3 ⟨rfl,hr3,hg3⟩;have HF3:Hid (Rd.Found w3 rb E k (j+1) (t::T3) sj):=hid (.inr ⟨t,T3,rfl,by rw[HTS.out];exact HSM.out,HTS.out.symm,by rw[HTS.out];exact HSN.out,hr3⟩);have HG3:=hid (ah HG2.out hg3);clear hr3 hg3;go_wp2_with fail;go_roundw
       case rel=>exact⟨j+1,sj,by go_num,rfl,by have:=HLT.out;omega,HF3,HG3⟩
       case measure=>simp[intOf];have:=HLT.out;omega
     ·have HTN:=hid (dq rb T2 E sj wr hr2 hsn hh);have HF3:Hid (Rd.Found wr rb E k (j+1) T2 []):=hid (.inl ⟨rfl,fun i hi=>by
       by_cases e:i=j
       ·rw[e,← HSJ.out];exact fun e=>hh e.symm
       ·exact hno i (by omega),hr2⟩)
      clear hh hno hr2 hsn;go_wp2_with fail;refine HTN.out.mono ?_;rintro e w3 ⟨rfl,rfl⟩;go_wp2_with fail;go_roundw
      case rel=>exact⟨j+1,[],by go_num,rfl,by have:=HLT.out;omega,HF3,HG2⟩
      case measure=>simp[intOf];have:=HLT.out;omega
    ·have HF3:Hid (Rd.Found wr rb E k (j+1) T2 t.1):=hid (.inr ⟨t,T3,hT,htm,rfl,htn,hr3⟩);have oe:(t.1==[])=false:=by rw[Z8];exact htn
     have oe2:t.1.isEmpty=false:=by cases h9:t.1 with|nil=>exact absurd h9 htn|cons a b=>rfl
     clear hT htm htn hr3 hsn;generalize t.1=op at *
     go_wp2_with fail;go_roundw
     case rel=>exact⟨j+1,op,by go_num,rfl,by have:=HLT.out;omega,HF3,HG2⟩
     case measure=>simp[intOf];have:=HLT.out;omega
   ·obtain rfl:j=n:=by omega
    have d1:decide ((j:Int) < (j:Int))=false:=by simp
    clear hcellj;have HR2:Hid (rb < w0.heap.size):=hid hrb;clear hrb;rcases HF.out with⟨rfl,hno,hr2⟩|⟨t,T3,hT,htm,rfl,htn,hr3⟩
    ·have hstop:o= .ok y T2:=HCH.out.stop (fun t T' e=>pV fun i hi=>by
      have:=hno i (by rw[HN.out];exact hi);rw[e]at this;exact this)
     subst hstop;have HX2:=hid (IsX.grown HG2.out y b HX.out);have HRR:=hid hr2;clear hno hr2;go_wp2_with fail;go_ret;exact⟨b,rfl,HX2.out,HRR.out,ah HG.out HG2.out⟩
    ·subst hT;have oe:(t.1==[])=false:=by rw[Z8];exact htn
     have oe2:t.1.isEmpty=false:=by cases h9:t.1 with|nil=>exact absurd h9 htn|cons a b=>rfl
     have hat2:at_=t.2:=HAT.out;have HEw:=hid (HEr.out.grown HG2.out HR2.out);have HLW:=hid (Nat.lt_of_lt_of_le HR2.out HG2.out.size);have HX2:=hid (IsX.grown HG2.out y b HX.out);have HR3:=hid hr3;have HGG:=hid (ah HG.out HG2.out);have hleft:=HR.out.left;rw[Z6]at hleft;have HLF:=hid hleft;rcases HCH.out.go htm with⟨z,T',hC,hle,hch2⟩|⟨en,p,hC,rfl⟩
     ·rw[← hat2]at hch2;have h2:Calls Tryz.prog 138 #[.pointer (some ⟨rb,0,none⟩),.int .i64 ((k:Int)+1),.int .i64 (d:Nat)] wr (gJ wr rb E (.ok z T')):=hC wr HEw.out HR3.out;have H2:=hid h2;have HLE:=hid hle;have HCH2:=hid hch2;clear h2 hle hch2 hC htm htn hr3 hleft hat2 HCH HF HAT;generalize t.1=op at *
      go_wp2_with fail;refine H2.out.mono ?_;rintro e w4 ⟨bz,rfl,hx4,hr4,hg4⟩;have hrow:=ae.new w4 202 #[.int .i64 3,.int .i64 (at_:Nat),.int .i64 0,.string ByteArray.empty,.string (aa op),.pointer (some ⟨b,0,none⟩),.pointer (some ⟨bz,0,none⟩)];have hb:=(Y4 w4.heap.size w4).alloc (Z5 _) (.cells #[.int .i64 3,.int .i64 (at_:Nat),.int .i64 0,.string ByteArray.empty,.string (aa op),.pointer (some ⟨b,0,none⟩),.pointer (some ⟨bz,0,none⟩)] 202);have hrr:=hr4.below hb;have hlr:=hrr.left;have HF4:Hid (IsX (w4.alloc (.cells #[.int .i64 3,.int .i64 (at_:Nat),.int .i64 0,.string ByteArray.empty,.string (aa op),.pointer (some ⟨b,0,none⟩),.pointer (some ⟨bz,0,none⟩)] 202)) rb w4.heap.size (.bin at_ op y z)∧Rdr (w4.alloc (.cells #[.int .i64 3,.int .i64 (at_:Nat),.int .i64 0,.string ByteArray.empty,.string (aa op),.pointer (some ⟨b,0,none⟩),.pointer (some ⟨bz,0,none⟩)] 202)) rb T' E∧w.grownBy (w4.alloc (.cells #[.int .i64 3,.int .i64 (at_:Nat),.int .i64 0,.string ByteArray.empty,.string (aa op),.pointer (some ⟨b,0,none⟩),.pointer (some ⟨bz,0,none⟩)] 202)) (some rb)):=
       hid ⟨⟨b,bz,Nat.lt_of_lt_of_le HLW.out hg4.size,hrow,IsX.grown (ar hb _) y b (IsX.grown hg4 y b HX2.out),IsX.grown (ar hb _) z bz hx4⟩,hrr,ah (ah HGG.out hg4) (ar hb _)⟩
      have HLR:=hid hlr;clear hx4 hr4 hg4 hrow hb hrr hlr;go_wp2_with fail;go_roundw
      case rel=>exact⟨w4.heap.size,.bin at_ op y z,T',rfl,hid HF4.out.1,hid HF4.out.2.1,HCH2,hid HF4.out.2.2⟩
      case measure=>
       refine Nat.lt_of_le_of_lt (Nat.le_of_eq HLR.out) ?_;rw[HLF.out];have h3:=HLE.out;omega
     ·have h2:Calls Tryz.prog 138 #[.pointer (some ⟨rb,0,none⟩),.int .i64 ((k:Int)+1),.int .i64 (d:Nat)] wr (gJ wr rb E (.bad en p)):=hC wr HEw.out HR3.out;unfold gJ aD at h2;have H2:=hid h2;clear h2 hC htm htn hr3 hleft hat2 HCH HF HAT;generalize t.1=op at *
      go_wp2_with fail;refine H2.out.mono ?_;rintro e w4 ⟨g,rfl,h1,h3,h4⟩;have H1:=hid h1;have H3:=hid (Nat.le_trans HGG.out.size h3);have HG4:=hid (ah HGG.out h4);clear h1 h3 h4;go_wp2_with fail;exact⟨rfl,by unfold gJ aD;exact⟨g,rfl,H1.out,H3.out,HG4.out⟩⟩
theorem GX{E:Nat}{c:Ex.Cat}{d:Nat}{T:List Rd.Tok}{o:Ex.Out}(h:Ex.Par Num.numOf E c d T o)(rb:Nat):(∀t∈T,t.1.length≤100000)→
  match c with
  | .lev k=>nB rb E k d T o
  | .one=>nC rb E d T o
  | .loop k x=>Rd.jg rb E k x d T o:=by
 induction h with
 |@top d T o _ ih=>
  intro hT;cases o with
  |ok x R=>exact uj rb E d T x R (ih hT)
  |bad e p=>exact rV rb E d T e p (ih hT)
 |@lev k d T T' x o hk hp _ ih1 ih2=>
  intro hT;exact yR rb E k d T T' x o hk (ih1 hT) (ih2 fun t ht=>hT t ((hp.less _ _ rfl).1.subset ht))
 |@gZ k d T e p hk _ ih=>intro hT;exact Cf rb E k d T e p hk (ih hT)
 |done h=>intro hT;exact .done h
 |@more k x d t T T' y o ht hp _ ih1 ih2=>
  intro hT;exact .more ht (ih1 fun t ht=>hT t (by simp[ht])) (hp.less _ _ rfl).1.length_le (ih2 fun t ht=>hT t (by have:=(hp.less _ _ rfl).1.subset ht;simp[this]))
 |dQ ht _ ih=>intro hT;exact .dQ ht (ih fun t ht=>hT t (by simp[ht]))
 |@paren d t T u T' x h1 h2 _ h3 ih=>intro hT;exact Ce rb E d t u T T' x h1 h2 (ug rb E (d+1) T x (u::T') (ih fun t ht=>hT t (by simp[ht]))) h3
 |@bK d t T T' x h1 h2 _ h3 ih=>intro hT;exact rU rb E d t T T' x h1 h2 (ug rb E (d+1) T x T' (ih fun t ht=>hT t (by simp[ht]))) h3
 |@cz d t T e p h1 h2 _ ih=>intro hT;exact uh rb E d t T e p h1 h2 (vK rb E (d+1) T e p (ih fun t ht=>hT t (by simp[ht])))
 |@deep t T h1=>intro hT;exact Ez rb E t T h1
 |@name d t T c r h1 h2 h3=>intro hT;exact EA rb E d t T c r h1 h2 h3
 |@cA d t T c r h1 h2 h3=>intro hT;exact ui rb E d t T c r h1 h2 h3
 |@none d=>intro hT;exact EC rb E d
 |@mark d t T c r h1 h2 h3 h4=>intro hT;exact ED rb E d t T c r h1 h2 h3 h4
 |@num d t T c r n h1 h2 h3=>intro hT;exact one_num rb E d t T c r n h1 h2 h3 (hT t (by simp))
 |@ed d t T c r e h1 h2 h3=>intro hT;exact yQ rb E d t T c r e h1 h2 h3 (hT t (by simp))
theorem EE{E d:Nat}{T:List Rd.Tok}{o:Ex.Out}(h:Ex.Par Num.numOf E (.lev 0) d T o)(rb:Nat)(hT:∀t∈T,t.1.length≤100000):sH rb E d T o:=by
 have hC:=GX h rb hT;cases o with
 |ok x R=>exact ug rb E d T x R hC
 |bad e p=>exact vK rb E d T e p hC
end
end Go.Proofs.YtlomecfhobehnaaGreatDoor
