/- What the claim needs of:YB YC. -/
import Derived.Test.YtdgehhgjgifikaaGreatDoorN1
import Derived.ChangeKeysEq
namespace Go.Proofs.YtdgehhgjgifikaaGreatDoor
open Go.RowKit
theorem Blk.sl {α:Type}{enc:α→List Value}{w:World}{g k:Nat}{t:TypeId}{cs:Array Value}(h:Blk w g t cs)(hk:∀ x,(enc x).length=k)(l:List α)(he:cs.toList=l.flatMap enc):Sl w w.heap.size k enc (some ⟨g,0,none⟩) l:=by
 refine .inr ⟨g,0,rfl,h.lt,fun i hi j v hv=>?_⟩
 have hj:j < k:=by rw[←hk l[i]];exact(List.getElem?_eq_some_iff.1 hv).1
 have h1:=zH7 hk l i hi j hj
 rw[hv,←he] at h1
 have h2:=h.cell (i*k+j)
 rw[←Array.getElem?_toList,h1] at h2
 simpa using h2
def yW3 (c:UInt8):Bool:=zV8 c||yK8 c||decide (c=95)
theorem yF4 (c:UInt8):yK8 c=(decide ((48:Int)≤c.toNat)&&decide ((c.toNat:Int)≤57)):=by
 unfold yK8
 simp only[UInt8.le_iff_toNat_le]
 rw[Bool.eq_iff_iff]
 simp
 omega
theorem zD2 (c:UInt8)(n:Nat)(h:n < 256):(c=UInt8.ofNat n)↔(c.toNat:Int)=(n:Int):=by
 constructor
 ·rintro rfl
  simp
  omega
 ·intro e
  apply UInt8.toNat_inj.1
  have:c.toNat=n:=by omega
  rw[this]
  simp
  omega
theorem zJ7 (p:UInt8→Bool)(l:Tx)(k:Nat)(h:k < l.length):(l.take (k+1)).all p=((l.take k).all p&&p l[k]):=by
 rw[List.take_succ_eq_append_getElem h,List.all_append]
 simp
theorem zF3 {p:UInt8→Bool}{l:Tx}{k:Nat}(h:k < l.length)(hp:p l[k]=false):l.all p=false:=by
 rw[List.all_eq_false]
 exact⟨_,List.getElem_mem h,by simp[hp]⟩
theorem yR6 (c:UInt8):yW3 c=(zV8 c||(decide ((48:Int)≤c.toNat)&&decide ((c.toNat:Int)≤57))||decide ((c.toNat:Int)=95)):=by
 unfold yW3
 rw[yF4]
 have:=zD2 c 95 (by decide)
 congr 1
 rw[decide_eq_decide]
 exact this
def restP (q:Tx):Bool:=match q with | []=>false | c ::r=>zV8 c&&yR2 (c ::r)
theorem yR7 {q:Tx}(h:0 < q.length):restP q=(zV8 q[0]&&q.all yW3):=by
 cases q with
 | nil=>simp at h
 | cons c r=>rfl
theorem zL5 (c:UInt8)(r:Tx):zP8 (c ::r)=if c=35∨c=95 then r else c ::r:=rfl
set_option maxHeartbeats 4000000 in
theorem zW2 (s:Tx)(w:World)(hs:s.length≤maxLen) :
  Calls Tryz.prog 96 #[.string ⟨s.toArray⟩] w fun e w'=>e=.returned (.bool (zY8 s))∧Below w.heap.size w w':=by
 unfold maxLen at hs
 have HW:=Lib.hid (show Below w.heap.size w (w.alloc (.cells (wordsI.map fun s=>Value.string ⟨s.toArray⟩).toArray 9)) from(Below.refl _ _).alloc (Nat.le_refl _) _)
 have cC:=zD1 (some ⟨w.heap.size,0,none⟩) 13 wordsI s (w.alloc (.cells (wordsI.map fun s=>Value.string ⟨s.toArray⟩).toArray 9)) ((Blk.new w 9 (wordsI.map fun s=>Value.string ⟨s.toArray⟩).toArray).sl (enc:=encS) (fun _=>rfl) wordsI (by rfl)) (by decide)
 have HI:=Lib.hid (show zY8 s=(decide (s.length≤32)&& !decide (s∈wordsI)&&restP (zP8 s)) from rfl)
 unfold wordsI at HW
 simp only[wordsI,List.map_cons,List.map_nil,List.length_cons,List.length_nil,Nat.zero_add,Nat.reduceAdd] at cC
 by_cases h1:s.length≤32
 rotate_left
 ·have h1':¬ (s.length:Int)≤32:=by omega
  have HF:=Lib.hid (show zY8 s=false from by rw[HI.out,decide_eq_false h1];rfl)
  clear HI h1
  go_enter Tryz.func96,Tryz.ntmps96
  go_wp2
  go_ret
  exact⟨by rw[HF.out];rfl,HW.out⟩
 have h1':(s.length:Int)≤32:=by omega
 by_cases h2:s∈wordsI
 ·have HF:=Lib.hid (show zY8 s=false from by rw[HI.out,decide_eq_true h2,Bool.not_true,Bool.and_false];rfl)
  have h2':decide (s∈wordsI)=true:=decide_eq_true h2
  simp only[wordsI] at h2'
  rw[h2'] at cC
  have CC:=Lib.hid cC
  clear HI h1 h2 h2' cC
  go_enter Tryz.func96,Tryz.ntmps96
  go_wp2_with fail
  refine CC.out.mono ?_
  rintro e w1 ⟨rfl,rfl⟩
  go_wp2
  go_ret
  exact⟨by rw[HF.out];rfl,HW.out⟩
 have h2':decide (s∈wordsI)=false:=decide_eq_false h2
 have HF:=Lib.hid (show zY8 s=restP (zP8 s) from by rw[HI.out,decide_eq_true h1,h2'];rfl)
 simp only[wordsI] at h2'
 rw[h2'] at cC
 have CC:=Lib.hid cC
 clear HI h1 h2 h2' cC
 by_cases hz:0 < s.length
 rotate_left
 ·obtain rfl:s=[]:=List.eq_nil_of_length_eq_zero (by omega)
  go_enter Tryz.func96,Tryz.ntmps96
  go_wp2_with fail
  refine CC.out.mono ?_
  rintro e w1 ⟨rfl,rfl⟩
  go_wp2
  go_ret
  exact⟨by rw[HF.out];rfl,HW.out⟩
 have hz':(0:Int) < s.length:=by omega
 by_cases hh:s[0]=35∨s[0]=95
 ·obtain⟨c,r,rfl⟩:∃ c r,s=c ::r:=by
   cases s with
   | nil=>simp at hz
   | cons c r=>exact⟨c,r,rfl⟩
  have hex:({data:=(c ::r).toArray}:ByteArray).extract 1 (r.length+1)=⟨r.toArray⟩:=by rw[ByteArray.extract_mk];simp
  have hh':c=35∨c=95:=hh
  have HQ:=Lib.hid (show zP8 (c ::r)=r by rw[zL5,if_pos hh'])
  have hr:(r.length:Int)≤31:=by simp at h1';omega
  have HEX:=Lib.hid hex
  clear hex hh hz hz'
  have ht1:c=35∨((({data:=(c ::r).toArray}:ByteArray)[0]'(by simp[ByteArray.size])).toNat:Int)=95:=by
   rcases hh' with rfl | rfl
   ·exact .inl rfl
   ·exact .inr rfl
  have ht2:((({data:=(c ::r).toArray}:ByteArray)[0]'(by simp[ByteArray.size])).toNat:Int)=35∨c=95:=by
   rcases hh' with rfl | rfl
   ·exact .inl rfl
   ·exact .inr rfl
  have hd:((({data:=(c ::r).toArray}:ByteArray)[0]'(by simp[ByteArray.size])).toNat:Int)=35∨((({data:=(c ::r).toArray}:ByteArray)[0]'(by simp[ByteArray.size])).toNat:Int)=95:=by
   rcases hh' with rfl | rfl
   ·exact .inl rfl
   ·exact .inr rfl
  clear ht1 ht2 hh'
  rcases hd with hd | hd
  all_goals
   go_enter Tryz.func96,Tryz.ntmps96
   go_wp2_with fail
   refine CC.out.mono ?_
   rintro e w1 ⟨rfl,rfl⟩
   go_upto_region 6 with fail
   rw[HEX.out]
   clear h1' hs CC hd
   obtain⟨q,hq⟩:∃ q,q=r:=⟨_,rfl⟩
   subst hq
   by_cases h0:0 < q.length
   rotate_left
   ·obtain rfl:q=[]:=List.eq_nil_of_length_eq_zero (by omega)
    go_wp2
    go_ret
    exact⟨by rw[HF.out,HQ.out];rfl,HW.out⟩
   have HP:=Lib.hid (yR7 h0)
   have hq0:0 < q.length:=h0
   have hb0:(0:Int) < q.length:=by omega
   have hne:((q.length:Int) == 0)=false:=by simp only[beq_eq_false_iff_ne,ne_eq];omega
   cases hl0:zV8 (({data:=q.toArray}:ByteArray)[0])
   ·have cL:=zR9 (({data:=q.toArray}:ByteArray)[0]) (w.alloc (.cells #[.string ⟨#[110,117,108,108]⟩,.string ⟨#[116,114,117,101]⟩,.string ⟨#[102,97,108,115,101]⟩,.string ⟨#[98,111,111,108]⟩,.string ⟨#[105,110,116]⟩,.string ⟨#[110,117,109,98,101,114]⟩,.string ⟨#[115,116,114,105,110,103]⟩,.string ⟨#[108,101,116]⟩,.string ⟨#[105,102]⟩,.string ⟨#[102,111,114]⟩,.string ⟨#[105,110]⟩,.string ⟨#[112,97,99,107,97,103,101]⟩,.string ⟨#[105,109,112,111,114,116]⟩] 9))
    rw[hl0] at cL
    have HL:=Lib.hid (show zV8 q[0]=false from hl0)
    clear hl0
    go_wp2_with fail
    refine cL.mono ?_
    rintro e w2 ⟨rfl,rfl⟩
    go_wp2
    go_ret
    exact⟨by rw[HF.out,HQ.out,HP.out,HL.out];rfl,HW.out⟩
   have cL:=zR9 (({data:=q.toArray}:ByteArray)[0]) (w.alloc (.cells #[.string ⟨#[110,117,108,108]⟩,.string ⟨#[116,114,117,101]⟩,.string ⟨#[102,97,108,115,101]⟩,.string ⟨#[98,111,111,108]⟩,.string ⟨#[105,110,116]⟩,.string ⟨#[110,117,109,98,101,114]⟩,.string ⟨#[115,116,114,105,110,103]⟩,.string ⟨#[108,101,116]⟩,.string ⟨#[105,102]⟩,.string ⟨#[102,111,114]⟩,.string ⟨#[105,110]⟩,.string ⟨#[112,97,99,107,97,103,101]⟩,.string ⟨#[105,109,112,111,114,116]⟩] 9))
   rw[hl0] at cL
   have HL:=Lib.hid (show zV8 q[0]=true from hl0)
   clear hl0
   go_wp2_with fail
   refine cL.mono ?_
   rintro e w2 ⟨rfl,rfl⟩
   clear cL
   go_wp2
   go_loop [40] (fun i=>∃ k:Nat,k≤q.length∧i=.int .i64 (k:Nat)∧Hid ((q.take k).all yW3=true)) (fun i=>q.length-(intOf i).toNat)
   case atStart=>exact⟨0,Nat.zero_le _,rfl,Lib.hid (by simp)⟩
   case round=>
    obtain⟨k,hk,rfl,HN⟩:=hrel
    by_cases hlt:k < q.length
    ·have hlt':(k:Int) < (q.length:Int):=by omega
     have HX:=Lib.hid (show q[k]=(({data:=q.toArray}:ByteArray)[k]) from rfl)
     have HT:=Lib.hid (yR6 (({data:=q.toArray}:ByteArray)[k]))
     have HA:=Lib.hid (zJ7 yW3 q k hlt)
     have HFa:=Lib.hid (fun h=>zF3 (p:=yW3) hlt h)
     have cL:=zR9 (({data:=q.toArray}:ByteArray)[k]) (w.alloc (.cells #[.string ⟨#[110,117,108,108]⟩,.string ⟨#[116,114,117,101]⟩,.string ⟨#[102,97,108,115,101]⟩,.string ⟨#[98,111,111,108]⟩,.string ⟨#[105,110,116]⟩,.string ⟨#[110,117,109,98,101,114]⟩,.string ⟨#[115,116,114,105,110,103]⟩,.string ⟨#[108,101,116]⟩,.string ⟨#[105,102]⟩,.string ⟨#[102,111,114]⟩,.string ⟨#[105,110]⟩,.string ⟨#[112,97,99,107,97,103,101]⟩,.string ⟨#[105,109,112,111,114,116]⟩] 9))
     cases hlk:zV8 (({data:=q.toArray}:ByteArray)[k])
     all_goals
      rw[hlk] at cL
      have HLk:=Lib.hid hlk
      clear hlk
      go_wp2_with fail
      refine cL.mono ?_
      rintro e w2 ⟨rfl,rfl⟩
      clear cL
      go_wp2
      all_goals first
       | (go_round
          case rel=>exact⟨k+1,by omega,by go_num,Lib.hid (by rw[HA.out,HN.out,HX.out,HT.out,HLk.out];simp_all;try omega)⟩
          case measure=>simp[intOf];omega)
       | (go_ret
          exact⟨zO6 (by rw[HF.out,HQ.out,HP.out,HFa.out (by rw[HX.out,HT.out,HLk.out];simp_all;try omega)];simp),HW.out⟩)
    ·obtain rfl:k=q.length:=by omega
     go_wp2
     go_ret
     exact⟨by rw[HF.out,HQ.out,HP.out,HL.out,←HN.out,List.take_length];simp;try rfl,HW.out⟩
 ·obtain⟨hh1,hh2⟩:=not_or.1 hh
  have hc35:((({data:=s.toArray}:ByteArray)[0].toNat:Int) == 35)=false:=by
   have:=zD2 s[0] 35 (by decide)
   simp only[beq_eq_false_iff_ne,ne_eq]
   intro e
   exact hh1 (this.2 e)
  have hc95:((({data:=s.toArray}:ByteArray)[0].toNat:Int) == 95)=false:=by
   have:=zD2 s[0] 95 (by decide)
   simp only[beq_eq_false_iff_ne,ne_eq]
   intro e
   exact hh2 (this.2 e)
  have HQ:=Lib.hid (show zP8 s=s by
   cases s with
   | nil=>rfl
   | cons c r=>exact(zL5 c r).trans (if_neg hh))
  clear hh hh1 hh2
  obtain⟨q,hq⟩:∃ q,q=s:=⟨_,rfl⟩
  subst hq
  go_enter Tryz.func96,Tryz.ntmps96
  go_wp2_with fail
  refine CC.out.mono ?_
  rintro e w1 ⟨rfl,rfl⟩
  go_upto_region 6 with fail
  clear hs CC hc35 hc95
  by_cases h0:0 < q.length
  rotate_left
  ·obtain rfl:q=[]:=List.eq_nil_of_length_eq_zero (by omega)
   go_wp2
   go_ret
   exact⟨by rw[HF.out,HQ.out];rfl,HW.out⟩
  have HP:=Lib.hid (yR7 h0)
  have hq0:0 < q.length:=h0
  have hb0:(0:Int) < q.length:=by omega
  have hne:((q.length:Int) == 0)=false:=by simp only[beq_eq_false_iff_ne,ne_eq];omega
  cases hl0:zV8 (({data:=q.toArray}:ByteArray)[0])
  ·have cL:=zR9 (({data:=q.toArray}:ByteArray)[0]) (w.alloc (.cells #[.string ⟨#[110,117,108,108]⟩,.string ⟨#[116,114,117,101]⟩,.string ⟨#[102,97,108,115,101]⟩,.string ⟨#[98,111,111,108]⟩,.string ⟨#[105,110,116]⟩,.string ⟨#[110,117,109,98,101,114]⟩,.string ⟨#[115,116,114,105,110,103]⟩,.string ⟨#[108,101,116]⟩,.string ⟨#[105,102]⟩,.string ⟨#[102,111,114]⟩,.string ⟨#[105,110]⟩,.string ⟨#[112,97,99,107,97,103,101]⟩,.string ⟨#[105,109,112,111,114,116]⟩] 9))
   rw[hl0] at cL
   have HL:=Lib.hid (show zV8 q[0]=false from hl0)
   clear hl0
   go_wp2_with fail
   refine cL.mono ?_
   rintro e w2 ⟨rfl,rfl⟩
   go_wp2
   go_ret
   exact⟨by rw[HF.out,HQ.out,HP.out,HL.out];rfl,HW.out⟩
  have cL:=zR9 (({data:=q.toArray}:ByteArray)[0]) (w.alloc (.cells #[.string ⟨#[110,117,108,108]⟩,.string ⟨#[116,114,117,101]⟩,.string ⟨#[102,97,108,115,101]⟩,.string ⟨#[98,111,111,108]⟩,.string ⟨#[105,110,116]⟩,.string ⟨#[110,117,109,98,101,114]⟩,.string ⟨#[115,116,114,105,110,103]⟩,.string ⟨#[108,101,116]⟩,.string ⟨#[105,102]⟩,.string ⟨#[102,111,114]⟩,.string ⟨#[105,110]⟩,.string ⟨#[112,97,99,107,97,103,101]⟩,.string ⟨#[105,109,112,111,114,116]⟩] 9))
  rw[hl0] at cL
  have HL:=Lib.hid (show zV8 q[0]=true from hl0)
  clear hl0
  go_wp2_with fail
  refine cL.mono ?_
  rintro e w2 ⟨rfl,rfl⟩
  clear cL
  go_wp2
  go_loop [40] (fun i=>∃ k:Nat,k≤q.length∧i=.int .i64 (k:Nat)∧Hid ((q.take k).all yW3=true)) (fun i=>q.length-(intOf i).toNat)
  case atStart=>exact⟨0,Nat.zero_le _,rfl,Lib.hid (by simp)⟩
  case round=>
   obtain⟨k,hk,rfl,HN⟩:=hrel
   by_cases hlt:k < q.length
   ·have hlt':(k:Int) < (q.length:Int):=by omega
    have HX:=Lib.hid (show q[k]=(({data:=q.toArray}:ByteArray)[k]) from rfl)
    have HT:=Lib.hid (yR6 (({data:=q.toArray}:ByteArray)[k]))
    have HA:=Lib.hid (zJ7 yW3 q k hlt)
    have HFa:=Lib.hid (fun h=>zF3 (p:=yW3) hlt h)
    have cL:=zR9 (({data:=q.toArray}:ByteArray)[k]) (w.alloc (.cells #[.string ⟨#[110,117,108,108]⟩,.string ⟨#[116,114,117,101]⟩,.string ⟨#[102,97,108,115,101]⟩,.string ⟨#[98,111,111,108]⟩,.string ⟨#[105,110,116]⟩,.string ⟨#[110,117,109,98,101,114]⟩,.string ⟨#[115,116,114,105,110,103]⟩,.string ⟨#[108,101,116]⟩,.string ⟨#[105,102]⟩,.string ⟨#[102,111,114]⟩,.string ⟨#[105,110]⟩,.string ⟨#[112,97,99,107,97,103,101]⟩,.string ⟨#[105,109,112,111,114,116]⟩] 9))
    cases hlk:zV8 (({data:=q.toArray}:ByteArray)[k])
    all_goals
     rw[hlk] at cL
     have HLk:=Lib.hid hlk
     clear hlk
     go_wp2_with fail
     refine cL.mono ?_
     rintro e w2 ⟨rfl,rfl⟩
     clear cL
     go_wp2
     all_goals first
      | (go_round
         case rel=>exact⟨k+1,by omega,by go_num,Lib.hid (by rw[HA.out,HN.out,HX.out,HT.out,HLk.out];simp_all;try omega)⟩
         case measure=>simp[intOf];omega)
      | (go_ret
         exact⟨zO6 (by rw[HF.out,HQ.out,HP.out,HFa.out (by rw[HX.out,HT.out,HLk.out];simp_all;try omega)];simp),HW.out⟩)
   ·obtain rfl:k=q.length:=by omega
    go_wp2
    go_ret
    exact⟨by rw[HF.out,HQ.out,HP.out,HL.out,←HN.out,List.take_length];simp;try rfl,HW.out⟩
def CkAt (w:World)(g:Nat)(wr dp:Bool):Prop:=Blk w g 165 #[.bool wr,.bool dp]
def zM1 (g:Nat)(wr dp:Bool)(w:World)(e:Ending)(w':World):Prop:=e=.returned (.tuple #[])∧Kp (· = g) w w'∧CkAt w' g wr dp
theorem CkAt.c0 {w:World}{g:Nat}{wr dp:Bool}(h:CkAt w g wr dp):w.cell? ⟨g,0,none⟩=some (.bool wr):=Blk.cell h 0
theorem CkAt.c1 {w:World}{g:Nat}{wr dp:Bool}(h:CkAt w g wr dp):w.cell? ⟨g,1,none⟩=some (.bool dp):=Blk.cell h 1
theorem CkAt.set0 {w:World}{g:Nat}{wr dp:Bool}(h:CkAt w g wr dp)(b:Bool):zM1 g b dp w (.returned (.tuple #[])) (w.setCell ⟨g,0,none⟩ (.bool b)):=
 ⟨rfl,(Kp.refl (· = g) w).setCell (p:=⟨g,0,none⟩) rfl _,show Blk _ g _ _ from by have:=Blk.set_ h 0 (.bool b);simpa using this⟩
theorem CkAt.set1 {w:World}{g:Nat}{wr dp:Bool}(h:CkAt w g wr dp)(b:Bool):Kp (· = g) w (w.setCell ⟨g,1,none⟩ (.bool b))∧CkAt (w.setCell ⟨g,1,none⟩ (.bool b)) g wr b:=
 ⟨(Kp.refl (· = g) w).setCell (p:=⟨g,1,none⟩) rfl _,show Blk _ g _ _ from by have:=Blk.set_ h 1 (.bool b);simpa using this⟩
theorem CkAt.keep {w w':World}{g:Nat}{wr dp:Bool}(h:CkAt w g wr dp)(hb:Below w.heap.size w w'):CkAt w' g wr dp:=Blk.keep h hb
theorem must_any (g:Nat)(wr dp:Bool)(A:Option Addr)(c:Nat)(l:List Bool)(w:World)(hC:CkAt w g wr dp)(hA:Sl w w.heap.size 1 yW2 A l)(hl:l.length≤1000) :
  Calls Tryz.prog 95 #[.pointer (some ⟨g,0,none⟩),.slice A l.length c] w (zM1 g (wr||decide (false∈l)) dp w):=by
 have cC:=yB5 A c l false w hA (by omega)
 have k0:=hC.c0
 have k1:w.frozen? ⟨g,0,none⟩=false:=Blk.free hC 0
 have HS:=Lib.hid hC.set0
 clear hA hC
 cases wr
 ·cases hb:decide (false∈l)
  all_goals
   rw[hb] at cC
   clear hb
   go_enter Tryz.func95,Tryz.ntmps95
   go_wp2_with fail
   refine cC.mono ?_
   rintro e w1 ⟨rfl,rfl⟩
   clear cC
   go_wp2
   go_end0
   exact HS.out _
 ·go_enter Tryz.func95,Tryz.ntmps95
  go_wp2
  go_end0
  exact HS.out _
theorem zE1 (g:Nat)(wr acc dp:Bool)(A:Option Addr)(c:Nat)(l:List Bool)(w:World)(hC:CkAt w g (wr|| !acc) dp)(hA:Sl w w.heap.size 1 yW2 A l)(hl:l.length≤1000) :
  Calls Tryz.prog 95 #[.pointer (some ⟨g,0,none⟩),.slice A l.length c] w (zM1 g (wr|| !(acc&&l.all id)) dp w):=by
 have h:=must_any g _ dp A c l w hC hA hl
 have e:(wr|| !acc||decide (false∈l))=(wr|| !(acc&&l.all id)):=by
  rw[Bool.or_assoc,Bool.not_and]
  congr 2
  rw[Bool.eq_iff_iff]
  simp
 rwa [e] at h
section
variable {g:Nat}{wr acc dp:Bool}{w:World}
theorem zR4 (b:Bool)(hC:CkAt w g (wr|| !acc) dp):Calls Tryz.prog 95 #[.pointer (some ⟨g,0,none⟩),.slice (some ⟨w.heap.size,0,none⟩) 1 1] (w.alloc (.cells #[.bool b] 4)) (zM1 g (wr|| !(acc&&b)) dp (w.alloc (.cells #[.bool b] 4))):=by
 have h:=zE1 g wr acc dp (some ⟨w.heap.size,0,none⟩) 1 [b] (w.alloc (.cells #[.bool b] 4)) (hC.keep ((Below.refl _ _).alloc (Nat.le_refl _) _)) ((Blk.new w 4 #[.bool b]).sl (enc:=yW2) (fun _=>rfl) [b] rfl) (by simp)
 simpa using h
theorem must2 (b c:Bool)(hC:CkAt w g (wr|| !acc) dp):Calls Tryz.prog 95 #[.pointer (some ⟨g,0,none⟩),.slice (some ⟨w.heap.size,0,none⟩) 2 2] (w.alloc (.cells #[.bool b,.bool c] 4)) (zM1 g (wr|| !(acc&&(b&&c))) dp (w.alloc (.cells #[.bool b,.bool c] 4))):=by
 have h:=zE1 g wr acc dp (some ⟨w.heap.size,0,none⟩) 2 [b,c] (w.alloc (.cells #[.bool b,.bool c] 4)) (hC.keep ((Below.refl _ _).alloc (Nat.le_refl _) _)) ((Blk.new w 4 #[.bool b,.bool c]).sl (enc:=yW2) (fun _=>rfl) [b,c] rfl) (by simp)
 simpa using h
theorem yB6 (b c d:Bool)(hC:CkAt w g (wr|| !acc) dp):Calls Tryz.prog 95 #[.pointer (some ⟨g,0,none⟩),.slice (some ⟨w.heap.size,0,none⟩) 3 3] (w.alloc (.cells #[.bool b,.bool c,.bool d] 4)) (zM1 g (wr|| !(acc&&(b&&(c&&d)))) dp (w.alloc (.cells #[.bool b,.bool c,.bool d] 4))):=by
 have h:=zE1 g wr acc dp (some ⟨w.heap.size,0,none⟩) 3 [b,c,d] (w.alloc (.cells #[.bool b,.bool c,.bool d] 4)) (hC.keep ((Below.refl _ _).alloc (Nat.le_refl _) _)) ((Blk.new w 4 #[.bool b,.bool c,.bool d]).sl (enc:=yW2) (fun _=>rfl) [b,c,d] rfl) (by simp)
 simpa using h
end
def ckErr (wr dp:Bool):Int:=if wr then 11 else if dp then 9 else 0
theorem yB7 (g:Nat)(wr dp:Bool)(w:World)(hC:CkAt w g wr dp):Calls Tryz.prog 99 #[.pointer (some ⟨g,0,none⟩)] w fun e w'=>e=.returned (.int .i64 (ckErr wr dp))∧w=w':=by
 have k0:=hC.c0
 have k1:=hC.c1
 clear hC
 cases wr <;> cases dp
 all_goals
  go_enter Tryz.func99,Tryz.ntmps99
  go_wp2
  go_ret
  exact⟨rfl,rfl⟩
set_option maxRecDepth 100000 in
theorem eq_arr2 (a b c d:Tx)(w:World):(Op.equalIn 10000 64 (.agg #[.string ⟨a.toArray⟩,.string ⟨b.toArray⟩]) (.agg #[.string ⟨c.toArray⟩,.string ⟨d.toArray⟩])).run Tryz.prog w=.ok (decide (a=c∧b=d)) w:=by
 obtain⟨i,hi⟩:=Option.isSome_iff_exists.1 (show (Tryz.prog.info? 9).isSome=true by kernel_rfl)
 have hc:Tryz.prog.cellsOf 9=1:=by kernel_rfl
 rw[show (10000:Nat)=9999+1 from rfl,run_equalIn_array (d:=9999) (n:=2) w #[.string ⟨a.toArray⟩,.string ⟨b.toArray⟩] #[.string ⟨c.toArray⟩,.string ⟨d.toArray⟩] Tryz.underlying64 hi,hc]
 by_cases hp:a=c <;> by_cases hx:b=d <;> simp[Op.eqItems,List.range,List.range.loop,part,go_sem,hp,hx]
set_option maxRecDepth 100000 in
theorem yW4 (a b:Tx)(w:World):Calls Tryz.prog 171 #[.agg #[.string ⟨a.toArray⟩,.string ⟨b.toArray⟩]] w fun e w'=>e=.returned (.bool (decide (a=[]∧b=[])))∧Below w.heap.size w w':=by
 have HB:=Lib.hid (show Below w.heap.size w (w.alloc (.cells #[.string ⟨a.toArray⟩,.string ⟨b.toArray⟩] 64)) from(Below.refl _ _).alloc (Nat.le_refl _) _)
 have he:=eq_arr2 a b [] []
 go_enter Tryz.func171,Tryz.ntmps171
 go_wp2
 go_ret
 exact⟨by rw[Bool.decide_and];rfl,HB.out⟩
set_option maxRecDepth 100000 in
set_option maxHeartbeats 1000000 in
theorem yZ5 (a b:Tx)(w:World)(ha:a.length≤maxLen)(hb:b.length≤maxLen):Calls Tryz.prog 170 #[.agg #[.string ⟨a.toArray⟩,.string ⟨b.toArray⟩]] w fun e w'=>e=.returned (.bool (yZ2 a b))∧Below w.heap.size w w':=by
 have HB:=Lib.hid (show Below w.heap.size w (w.alloc (.cells #[.string ⟨a.toArray⟩,.string ⟨b.toArray⟩] 64)) from(Below.refl _ _).alloc (Nat.le_refl _) _)
 have q:=Blk.new w 64 #[.string ⟨a.toArray⟩,.string ⟨b.toArray⟩]
 have k0:=q.cell 0
 have k1:=q.cell 1
 simp at k0 k1
 have Q:=Lib.hid q
 have HN:=Lib.hid (show yZ2 a b=(zY8 a&&zY8 b&& !decide (a=b)) from rfl)
 clear q
 have cA:=zW2 a (w.alloc (.cells #[.string ⟨a.toArray⟩,.string ⟨b.toArray⟩] 64)) ha
 cases hia:zY8 a
 ·rw[hia] at cA HN
  clear hia
  go_enter Tryz.func170,Tryz.ntmps170
  go_wp2_with fail
  refine cA.mono ?_
  rintro e w1 ⟨rfl,hb1⟩
  have HB1:=Lib.hid (HB.out.trans (hb1.mono (by simp)))
  clear hb1 cA
  go_wp2
  go_ret
  exact⟨by rw[HN.out];rfl,HB1.out⟩
 ·rw[hia] at cA HN
  clear hia
  go_enter Tryz.func170,Tryz.ntmps170
  go_wp2_with fail
  refine cA.mono ?_
  rintro e w1 ⟨rfl,hb1⟩
  have HB1:=Lib.hid (HB.out.trans (hb1.mono (by simp)))
  have q1:=Q.out.keep hb1
  have k2:=q1.cell 0
  have k3:=q1.cell 1
  simp at k2 k3
  have Q1:=Lib.hid q1
  clear hb1 cA k0 k1 q1
  have cB:=zW2 b w1 hb
  cases hib:zY8 b
  ·rw[hib] at cB HN
   clear hib
   go_wp2_with fail
   refine cB.mono ?_
   rintro e w2 ⟨rfl,hb2⟩
   have HB2:=Lib.hid (HB1.out.trans (hb2.mono HB1.out.size))
   clear hb2 cB
   go_wp2
   go_ret
   exact⟨by rw[HN.out];rfl,HB2.out⟩
  ·rw[hib] at cB HN
   clear hib
   go_wp2_with fail
   refine cB.mono ?_
   rintro e w2 ⟨rfl,hb2⟩
   have HB2:=Lib.hid (HB1.out.trans (hb2.mono HB1.out.size))
   have q2:=Q1.out.keep hb2
   have k4:=q2.cell 0
   have k5:=q2.cell 1
   simp at k4 k5
   clear hb2 cB k2 k3 q2
   by_cases hab:a=b
   ·have hs:(a == b)=true:=by rw[hab];exact beq_self_eq_true _
    have hs2:(a != b)=false:=by rw[hab];simp
    rw[decide_eq_true hab] at HN
    clear hab
    go_wp2
    go_ret
    exact⟨by rw[HN.out];rfl,HB2.out⟩
   ·have hs:(a == b)=false:=beq_eq_false_iff_ne.2 hab
    have hs2:(a != b)=true:=by simpa using hab
    rw[decide_eq_false hab] at HN
    clear hab
    go_wp2
    go_ret
    exact⟨by rw[HN.out];rfl,HB2.out⟩
end Go.Proofs.YtdgehhgjgifikaaGreatDoor
