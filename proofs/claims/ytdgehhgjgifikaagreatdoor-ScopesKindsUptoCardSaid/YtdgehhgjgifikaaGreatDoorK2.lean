/- What the claim needs of:YC. -/
import Derived.Test.YtdgehhgjgifikaaGreatDoorK1
import Derived.ChangeKeysEq
namespace Go.Proofs.YtdgehhgjgifikaaGreatDoor
open Go.RowKit
def CkAt (w:World)(g:Nat)(wr dp:Bool):Prop:=Blk w g 165 #[.bool wr,.bool dp]
def zM9 (g:Nat)(wr dp:Bool)(w:World)(e:Ending)(w':World):Prop:=e=.returned (.tuple #[])∧Kp (· = g) w w'∧CkAt w' g wr dp
theorem CkAt.c0 {w:World}{g:Nat}{wr dp:Bool}(h:CkAt w g wr dp):w.cell? ⟨g,0,none⟩=some (.bool wr):=Blk.cell h 0
theorem CkAt.c1 {w:World}{g:Nat}{wr dp:Bool}(h:CkAt w g wr dp):w.cell? ⟨g,1,none⟩=some (.bool dp):=Blk.cell h 1
theorem CkAt.set0 {w:World}{g:Nat}{wr dp:Bool}(h:CkAt w g wr dp)(b:Bool):zM9 g b dp w (.returned (.tuple #[])) (w.setCell ⟨g,0,none⟩ (.bool b)):=
 ⟨rfl,(Kp.refl (· = g) w).setCell (p:=⟨g,0,none⟩) rfl _,show Blk _ g _ _ from by have:=Blk.set_ h 0 (.bool b);simpa using this⟩
theorem CkAt.set1 {w:World}{g:Nat}{wr dp:Bool}(h:CkAt w g wr dp)(b:Bool):Kp (· = g) w (w.setCell ⟨g,1,none⟩ (.bool b))∧CkAt (w.setCell ⟨g,1,none⟩ (.bool b)) g wr b:=
 ⟨(Kp.refl (· = g) w).setCell (p:=⟨g,1,none⟩) rfl _,show Blk _ g _ _ from by have:=Blk.set_ h 1 (.bool b);simpa using this⟩
theorem CkAt.keep {w w':World}{g:Nat}{wr dp:Bool}(h:CkAt w g wr dp)(hb:Below w.heap.size w w'):CkAt w' g wr dp:=Blk.keep h hb
theorem must_any (g:Nat)(wr dp:Bool)(A:Option Addr)(c:Nat)(l:List Bool)(w:World)(hC:CkAt w g wr dp)(hA:Sl w w.heap.size 1 yU1 A l)(hl:l.length≤1000) :
  Calls Tryz.prog 95 #[.pointer (some ⟨g,0,none⟩),.slice A l.length c] w (zM9 g (wr||decide (false∈l)) dp w):=by
 have cC:=xZ3 A c l false w hA qG;have k0:=hC.c0;have k1:w.frozen? ⟨g,0,none⟩=false:=Blk.free hC 0;have HS:=qK hC.set0;clear hA hC;cases wr
 ·cases hb:decide (false∈l);all_goals
   rw[hb] at cC;clear hb;go_enter Tryz.func95,Tryz.ntmps95
   go_wp2_with fail
   refine cC.mono ?_;rintro e w1 ⟨rfl,rfl⟩;clear cC;go_wp2
   go_end0
   exact HS.out _
 ·go_enter Tryz.func95,Tryz.ntmps95
  go_wp2
  go_end0
  exact HS.out _
theorem zD5 (g:Nat)(wr acc dp:Bool)(A:Option Addr)(c:Nat)(l:List Bool)(w:World)(hC:CkAt w g (wr|| !acc) dp)(hA:Sl w w.heap.size 1 yU1 A l)(hl:l.length≤1000) :
  Calls Tryz.prog 95 #[.pointer (some ⟨g,0,none⟩),.slice A l.length c] w (zM9 g (wr|| !(acc&&l.all id)) dp w):=by
 have h:=must_any g _ dp A c l w hC hA hl;have e:(wr|| !acc||decide (false∈l))=(wr|| !(acc&&l.all id)):=by
  rw[Bool.or_assoc,Bool.not_and];congr 2;rw[Bool.eq_iff_iff];simp
 rwa [e] at h
section
variable {g:Nat}{wr acc dp:Bool}{w:World}
theorem zR4 (b:Bool)(hC:CkAt w g (wr|| !acc) dp):Calls Tryz.prog 95 #[.pointer (some ⟨g,0,none⟩),.slice (some ⟨w.heap.size,0,none⟩) 1 1] (w.alloc (.cells #[.bool b] 4)) (zM9 g (wr|| !(acc&&b)) dp (w.alloc (.cells #[.bool b] 4))):=by
 have h:=zD5 g wr acc dp (some ⟨w.heap.size,0,none⟩) 1 [b] (w.alloc (.cells #[.bool b] 4)) (hC.keep (qH.alloc qJ _)) ((Blk.new w 4 #[.bool b]).sl (enc:=yU1) (fun _=>rfl) [b] rfl) (by simp);simpa using h
theorem must2 (b c:Bool)(hC:CkAt w g (wr|| !acc) dp):Calls Tryz.prog 95 #[.pointer (some ⟨g,0,none⟩),.slice (some ⟨w.heap.size,0,none⟩) 2 2] (w.alloc (.cells #[.bool b,.bool c] 4)) (zM9 g (wr|| !(acc&&(b&&c))) dp (w.alloc (.cells #[.bool b,.bool c] 4))):=by
 have h:=zD5 g wr acc dp (some ⟨w.heap.size,0,none⟩) 2 [b,c] (w.alloc (.cells #[.bool b,.bool c] 4)) (hC.keep (qH.alloc qJ _)) ((Blk.new w 4 #[.bool b,.bool c]).sl (enc:=yU1) (fun _=>rfl) [b,c] rfl) (by simp);simpa using h
theorem xZ5 (b c d:Bool)(hC:CkAt w g (wr|| !acc) dp):Calls Tryz.prog 95 #[.pointer (some ⟨g,0,none⟩),.slice (some ⟨w.heap.size,0,none⟩) 3 3] (w.alloc (.cells #[.bool b,.bool c,.bool d] 4)) (zM9 g (wr|| !(acc&&(b&&(c&&d)))) dp (w.alloc (.cells #[.bool b,.bool c,.bool d] 4))):=by
 have h:=zD5 g wr acc dp (some ⟨w.heap.size,0,none⟩) 3 [b,c,d] (w.alloc (.cells #[.bool b,.bool c,.bool d] 4)) (hC.keep (qH.alloc qJ _)) ((Blk.new w 4 #[.bool b,.bool c,.bool d]).sl (enc:=yU1) (fun _=>rfl) [b,c,d] rfl) (by simp);simpa using h
end
def ckErr (wr dp:Bool):Int:=if wr then 11 else if dp then 9 else 0
theorem xZ6 (g:Nat)(wr dp:Bool)(w:World)(hC:CkAt w g wr dp):Calls Tryz.prog 99 #[.pointer (some ⟨g,0,none⟩)] w fun e w'=>e=.returned (.int .i64 (ckErr wr dp))∧w=w':=by
 have k0:=hC.c0;have k1:=hC.c1;clear hC;cases wr <;> cases dp;all_goals
  go_enter Tryz.func99,Tryz.ntmps99
  go_wp2;go_ret;exact⟨rfl,rfl⟩
set_option maxRecDepth 100000 in
theorem eq_arr2 (a b c d:Tx)(w:World):(Op.equalIn 10000 64 (.agg #[.string ⟨a.toArray⟩,.string ⟨b.toArray⟩]) (.agg #[.string ⟨c.toArray⟩,.string ⟨d.toArray⟩])).run Tryz.prog w=.ok (decide (a=c∧b=d)) w:=by
 obtain⟨i,hi⟩:=Option.isSome_iff_exists.1 (show (Tryz.prog.info? 9).isSome=true by kernel_rfl);have hc:Tryz.prog.cellsOf 9=1:=by kernel_rfl
 rw[show (10000:Nat)=9999+1 from rfl,run_equalIn_array (d:=9999) (n:=2) w #[.string ⟨a.toArray⟩,.string ⟨b.toArray⟩] #[.string ⟨c.toArray⟩,.string ⟨d.toArray⟩] Tryz.underlying64 hi,hc];by_cases hp:a=c <;> by_cases hx:b=d <;> simp[Op.eqItems,List.range,List.range.loop,part,go_sem,hp,hx]
set_option maxRecDepth 100000 in
theorem yU3 (a b:Tx)(w:World):Calls Tryz.prog 171 #[.agg #[.string ⟨a.toArray⟩,.string ⟨b.toArray⟩]] w fun e w'=>e=.returned (.bool (decide (a=[]∧b=[])))∧Below w.heap.size w w':=by
 have HB:=qK (show Below w.heap.size w (w.alloc (.cells #[.string ⟨a.toArray⟩,.string ⟨b.toArray⟩] 64)) from qH.alloc qJ _);have he:=eq_arr2 a b [] [];go_enter Tryz.func171,Tryz.ntmps171
 go_wp2;go_ret;exact⟨by rw[Bool.decide_and];rfl,HB.out⟩
set_option maxRecDepth 100000 in
set_option maxHeartbeats 1000000 in
theorem yX0 (a b:Tx)(w:World)(ha:a.length≤maxLen)(hb:b.length≤maxLen):Calls Tryz.prog 170 #[.agg #[.string ⟨a.toArray⟩,.string ⟨b.toArray⟩]] w fun e w'=>e=.returned (.bool (yY7 a b))∧Below w.heap.size w w':=by
 have HB:=qK (show Below w.heap.size w (w.alloc (.cells #[.string ⟨a.toArray⟩,.string ⟨b.toArray⟩] 64)) from qH.alloc qJ _);have q:=Blk.new w 64 #[.string ⟨a.toArray⟩,.string ⟨b.toArray⟩];have k0:=q.cell 0;have k1:=q.cell 1;simp at k0 k1;have Q:=qK q;have HN:=qK (show yY7 a b=(zY7 a&&zY7 b&& !decide (a=b)) from rfl);clear q;have cA:=zW1 a (w.alloc (.cells #[.string ⟨a.toArray⟩,.string ⟨b.toArray⟩] 64)) ha;cases hia:zY7 a
 ·rw[hia] at cA HN;clear hia;go_enter Tryz.func170,Tryz.ntmps170
  go_wp2_with fail
  refine cA.mono ?_;rintro e w1 ⟨rfl,hb1⟩;have HB1:=qK (HB.out.trans (hb1.mono (by simp)));clear hb1 cA;go_wp2;go_ret;exact⟨by rw[HN.out];rfl,HB1.out⟩
 ·rw[hia] at cA HN;clear hia;go_enter Tryz.func170,Tryz.ntmps170
  go_wp2_with fail
  refine cA.mono ?_;rintro e w1 ⟨rfl,hb1⟩;have HB1:=qK (HB.out.trans (hb1.mono (by simp)));have q1:=Q.out.keep hb1;have k2:=q1.cell 0;have k3:=q1.cell 1;simp at k2 k3;have Q1:=qK q1;clear hb1 cA k0 k1 q1;have cB:=zW1 b w1 hb;cases hib:zY7 b
  ·rw[hib] at cB HN;clear hib;go_wp2_with fail
   refine cB.mono ?_;rintro e w2 ⟨rfl,hb2⟩;have HB2:=qK (HB1.out.trans (hb2.mono HB1.out.size));clear hb2 cB;go_wp2;go_ret;exact⟨by rw[HN.out];rfl,HB2.out⟩
  ·rw[hib] at cB HN;clear hib;go_wp2_with fail
   refine cB.mono ?_;rintro e w2 ⟨rfl,hb2⟩;have HB2:=qK (HB1.out.trans (hb2.mono HB1.out.size));have q2:=Q1.out.keep hb2;have k4:=q2.cell 0;have k5:=q2.cell 1;simp at k4 k5;clear hb2 cB k2 k3 q2;by_cases hab:a=b
   ·have hs:(a == b)=true:=by rw[hab];exact beq_self_eq_true _
    have hs2:(a != b)=false:=by rw[hab];simp
    rw[decide_eq_true hab] at HN;clear hab;go_wp2;go_ret;exact⟨by rw[HN.out];rfl,HB2.out⟩
   ·have hs:(a == b)=false:=beq_eq_false_iff_ne.2 hab;have hs2:(a != b)=true:=by simpa using hab
    rw[decide_eq_false hab] at HN;clear hab;go_wp2;go_ret;exact⟨by rw[HN.out];rfl,HB2.out⟩
end Go.Proofs.YtdgehhgjgifikaaGreatDoor
