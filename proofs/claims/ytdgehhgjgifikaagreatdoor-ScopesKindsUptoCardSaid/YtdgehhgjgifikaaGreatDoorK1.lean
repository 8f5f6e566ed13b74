/- What the claim needs of:TA Mem Mem2 TK YA YB. -/
import Derived.Deep.Slices
import Derived.Below
import Derived.Laws.OwnMore
import Derived.Deep.AppendLies
import Derived.Deep.Draws
import Derived.OwnWalk
import Derived.Maps.AppendAt
import Derived.ArgAppend
import Derived.RegionTactic
import Derived.Laws.IdiomStrings
import Derived.Laws.BytesString
import GoSem.Step
import Derived.WalkKit
import Derived.Lib.Hide
import Derived.WalkSpells
import Derived.WalkLawsBesides
import Derived.Deep.QuietTactic
import Derived.BigQuiet
import Derived.Deep.DeepCutAuto
import Derived.Deep.CutBlock
import Derived.Outline
import Derived.WalkMore
import Derived.ChangeKeysEq
import Derived.Shelf.Small.Bits
import Derived.Shelf.Small.Strs
import Derived.Shelf.Utf8.RuneCount
import Derived.Shelf.Strconv.Itoa0
import Derived.Shelf.Strings.Search1
import Derived.Shelf.Strings.Search2
import Derived.Shelf.Strings.Search3
import Derived.Shelf.Strings.Count
import Derived.Shelf.LaysM
import Derived.Shelf.Strings.Shaped
import Derived.Shelf.Strings.Split
import Derived.Shelf.Strings.SplitShaped
import Derived.Shelf.Unicode.Decode
import Derived.Shelf.Strings.RuneCount
import Derived.Shelf.Strings.Explode
import Derived.Shelf.Unicode.DecodeSlow
import Derived.Shelf.Unicode.DecodeAny
import Derived.Ground.Names2Prog
import Derived.Shelf.Slices.Clone
import Derived.Ground.SlgnProg
import Derived.Shelf.SlicesE.Clone
import Derived.Lib.IndexAny
import Derived.Orders
import Derived.Maps.OwnSet
import Derived.Maps.RangeWalk
import Derived.StringKeys
import Derived.Sort.KeysCollected
import Derived.Shelf.SlSortCmp.WholeK
import Derived.Shelf.SlSortCmp.NoneTotal
import Derived.Shelf.Spec.SlicesGrow
import Derived.Shelf.SlMaps.Clone
import Derived.Ground.SlmcProg
import Derived.Ground.Names8Prog
import Derived.Ground.SlsfProg
import Derived.ChangeAlike
import Derived.RangeFuncNested
import Derived.RangeFuncBound
import Derived.RangeFuncCalls
import Derived.RangeFuncLeaves
import Derived.RangeFuncFrom
import Derived.RangeFuncBox
import Derived.Shelf.Abstract
import Derived.Shelf.RegionOpen
import Derived.OwnWalkIn
import Derived.TacticsInMore
import Derived.LoopNIn
import Derived.LoopIn
import Derived.Maps.OwnIn
import Derived.Sort.MapsRangeIn
import Derived.StillTailTactics
import Derived.StillTactics
import Derived.Laws.EntriesVeiled
import Derived.Shelf.SlSortCmp.KitK
import Derived.Shelf.SlSortCmp.PdqK
import Derived.Lib.QuietBelow
import Derived.Deep.LoopGhost
import Derived.Deep.CutRange
import Derived.Shelf.SlIter.Nil
import Derived.Shelf.SortM.Plain
import Derived.Shelf.SortM.SortNone
import Derived.Ground.GgzProg
import Derived.Ground.SlgmProg
import Derived.Sort.Walk0
import Derived.OpenShut
import Derived.Recover
import Derived.Lib.Bytealg
import Derived.LoopN
import Derived.Defers
import Derived.ProofKit
import Derived.Deep.DeepHandedRow
import Derived.Lib.LaidTab
import Derived.Lay
import Derived.MakeChecks
import Derived.Stop.LaidErr
import Derived.ChangeSame
import Derived.ChangeStays
import Derived.ChangeOld
import Derived.ChangeBears
import Derived.Test.YtdgehhgjgifikaaGreatDoorProg
namespace Go.Proofs
theorem qA {X Y:Prop}(a:X)(b:Y):X∧Y:=⟨a,b⟩
def qL (_:Nat):Prop:=True
theorem qM {n:Nat}{Q:Nat→Prop}(_:qL n)(h:∀x,Q x):Q n:=h n
theorem qO {m n:Nat}{Q:Nat→Nat→Prop}(_:qL m)(_:qL n)(h:∀x y,Q x y):Q m n:=h m n
theorem qF {P:Prop}(h:P:=by kernel_rfl):P:=h
theorem qG {P:Prop}(h:P:=by omega):P:=h
theorem qK {p:Prop}(h:p):Go.RowKit.Hid p:=Lib.hid h
theorem qH {B:Nat}{w:World}:Go.RowKit.Below B w w:=Go.RowKit.Below.refl B w
theorem qJ {n:Nat}:n≤n:=Nat.le_refl n
theorem qP (a b c d:Nat){P:Prop}(h:qL a→qL b→qL c→qL d→P:=by
 intro p0 p1 p2 p3;intro AA W KK QQ hB hs hd hl hk;obtain⟨_,sa,rfl⟩:=qO p0 p1 @hd qF rfl;obtain⟨_,sb,rfl⟩:=qO p2 p3 @hd qF rfl;clear hs hd hl;refine⟨_,_,rfl,sa,?_⟩;first
  | (change Oper.wp _ _ _ _ _ _;go_simp;exact hk _ _ rfl qH)
  | exact rfl):P:=h trivial trivial trivial trivial
theorem qQ (a b:Nat){P:Prop}(h:qL a→qL b→P:=by
 intro p0 p1;intro AA W KK QQ hB hs hd hl hk;obtain⟨_,sa,rfl⟩:=qO p0 p1 @hd qF rfl;clear hs hd hl;go_simp;exact hk _ _ rfl qH):P:=h trivial trivial
theorem qR (a b c:Nat){P:Prop}(h:qL a→qL b→qL c→P:=by
 intro p0 p1 p2;intro AA W KK QQ hB hs hd hl hk;have sa:=qM p0 @hs _ qF rfl;obtain⟨_,sb,rfl⟩:=qO p1 p2 @hd qF rfl;clear hs hd hl;refine⟨_,_,rfl,sb,?_⟩;first
  | (change Oper.wp _ _ _ _ _ _;go_simp;exact hk _ _ rfl qH)
  | exact rfl):P:=h trivial trivial trivial
theorem qS (a:Nat){P:Prop}(h:qL a→P:=by
 intro p0;intro AA W KK QQ hB hs hd hl hk;have sa:=qM p0 @hs _ qF rfl;clear hs hd hl;go_simp;exact hk _ _ rfl qH):P:=h trivial
theorem qV (a b c d:Nat){P:Prop}(h:qL a→qL b→qL c→qL d→P:=by
 intro p0 p1 p2 p3;intro AA W KK QQ hB hs hd hl hk;obtain⟨_,sa,rfl⟩:=qO p0 p1 @hd qF rfl;obtain⟨_,sb,rfl⟩:=qO p2 p3 @hd qF rfl;clear hs hd hl;go_simp;exact hk _ _ rfl qH):P:=h trivial trivial trivial trivial
theorem qW (a b c d e f:Nat){P:Prop}(h:qL a→qL b→qL c→qL d→qL e→qL f→P:=by
 intro p0 p1 p2 p3 p4 p5;intro AA W KK QQ hB hs hd hl hk;obtain⟨_,sa,rfl⟩:=qO p0 p1 @hd qF rfl;obtain⟨_,sb,rfl⟩:=qO p2 p3 @hd qF rfl;obtain⟨_,sc,rfl⟩:=qO p4 p5 @hd qF rfl;clear hs hd hl;refine⟨_,_,rfl,sa,?_⟩;first
  | (change Oper.wp _ _ _ _ _ _;go_simp;exact hk _ _ rfl qH)
  | exact rfl):P:=h trivial trivial trivial trivial trivial trivial
theorem qX (a b c d:Nat){P:Prop}(h:qL a→qL b→qL c→qL d→P:=by
 intro p0 p1 p2 p3;intro AA W KK QQ hB hs hd hl hk;obtain⟨_,sa,rfl⟩:=qO p0 p1 @hd qF rfl;obtain⟨_,sb,rfl⟩:=qO p2 p3 @hd qF rfl;clear hs hd hl;refine⟨_,_,rfl,sa,?_⟩;exact rfl):P:=h trivial trivial trivial trivial
theorem qY (a b c:Nat){P:Prop}(h:qL a→qL b→qL c→P:=by
 intro p0 p1 p2;intro AA W D KK QQ hsz hP hi hdn hnd hs hd hl hk;have HSZ:=qK hsz;clear hsz;have hP0:=hP;have hc:=qM p0 @hnd qF;have hW:=phA hP hc;subst hW;obtain⟨_,sa,rfl⟩:=qO p1 p2 @hd qF rfl;clear hs hd hl hdn hnd;go_simp;exact hk _ _ rfl hP0):P:=h trivial trivial trivial
theorem qZ (a b c:Nat){P:Prop}(h:qL a→qL b→qL c→P:=by
 intro p0 p1 p2;intro AA W D KK QQ hsz hP hi hdn hnd hs hd hl hk;have HSZ:=qK hsz;clear hsz;have hP0:=hP;have hc:=qM p0 @hdn qF;have hP2:=phB hP hc;obtain⟨_,sa,rfl⟩:=qO p1 p2 @hd qF rfl;clear hs hd hl hdn hnd;go_simp;exact hk _ _ rfl hP0):P:=h trivial trivial trivial
theorem kA (a b:Nat){P:Prop}(h:qL a→qL b→P:=by
 intro p0 p1;intro AA W D KK QQ hsz hP hi hdn hnd hs hd hl hk;have HSZ:=qK hsz;clear hsz;have hP0:=hP;have hc:=qM p0 @hnd qF;have hW:=phA hP hc;subst hW;have sa:=qM p1 @hs _ qF rfl;clear hs hd hl hdn hnd;go_simp;exact hk _ _ rfl hP0):P:=h trivial trivial
theorem kB (a b c:Nat){P:Prop}(h:qL a→qL b→qL c→P:=by
 intro p0 p1 p2;intro AA W KK QQ hB hs hd hl hk;have sa:=qM p0 @hs _ qF rfl;obtain⟨_,sb,rfl⟩:=qO p1 p2 @hd qF rfl;clear hs hd hl;refine⟨_,_,rfl,sb,?_⟩;exact rfl):P:=h trivial trivial trivial
theorem kC (a b c:Nat){P:Prop}(h:qL a→qL b→qL c→P:=by
 intro p0 p1 p2;intro AA W D KK QQ hsz hP hi hdn hnd hs hd hl hk;have HSZ:=qK hsz;clear hsz;have hP0:=hP;have hc:=qM p0 @hnd qF;have hW:=phA hP hc;subst hW;obtain⟨_,sa,rfl⟩:=qO p1 p2 @hd qF rfl;clear hs hd hl hdn hnd;go_simp;exact hk _ _ rfl (.inl ⟨hc,rfl⟩)):P:=h trivial trivial trivial
theorem kE (a b c d e f:Nat){P:Prop}(h:qL a→qL b→qL c→qL d→qL e→qL f→P:=by
 intro p0 p1 p2 p3 p4 p5;intro AA W KK QQ hB hs hd hl hk;obtain⟨_,sa,rfl⟩:=qO p0 p1 @hd qF rfl;obtain⟨_,sb,rfl⟩:=qO p2 p3 @hd qF rfl;obtain⟨_,sc,rfl⟩:=qO p4 p5 @hd qF rfl;clear hs hd hl;refine⟨_,_,rfl,sa,?_⟩;exact rfl):P:=h trivial trivial trivial trivial trivial trivial
theorem kF (a b c d:Nat){P:Prop}(h:qL a→qL b→qL c→qL d→P:=by
 intro p0 p1 p2 p3;intro AA W KK QQ hB hs hd hl hk;obtain⟨_,sa,rfl⟩:=qO p0 p1 @hd qF rfl;obtain⟨_,sb,rfl⟩:=qO p2 p3 @hd qF rfl;clear hs hd hl;have hx:=(B1.out.keep hB).cell 0;refine⟨_,_,rfl,sa,?_⟩;first
  | (change Oper.wp _ _ _ _ _ _;go_simp;exact hk _ _ rfl qH)
  | exact rfl):P:=h trivial trivial trivial trivial
theorem kG (a b c d:Nat){P:Prop}(h:qL a→qL b→qL c→qL d→P:=by
 intro p0 p1 p2 p3;intro AA W KK QQ hB hs hd hl hk;obtain⟨_,sa,rfl⟩:=qO p0 p1 @hd qF rfl;obtain⟨_,sb,rfl⟩:=qO p2 p3 @hd qF rfl;clear hs hd hl;have hx6:=hB.cell (p:=⟨w.heap.size,6,none⟩) hz0;rw[e6] at hx6;refine⟨_,_,rfl,sa,?_⟩;first
  | (change Oper.wp _ _ _ _ _ _;go_simp;exact hk _ _ rfl qH)
  | exact rfl):P:=h trivial trivial trivial trivial
theorem kH (a b c d:Nat){P:Prop}(h:qL a→qL b→qL c→qL d→P:=by
 intro p0 p1 p2 p3;intro AA W KK QQ hB hs hd hl hk;obtain⟨_,sa,rfl⟩:=qO p0 p1 @hd qF rfl;obtain⟨_,sb,rfl⟩:=qO p2 p3 @hd qF rfl;clear hs hd hl;have hx7:=hB.cell (p:=⟨w.heap.size,7,none⟩) hz0;rw[e7] at hx7;refine⟨_,_,rfl,sa,?_⟩;first
  | (change Oper.wp _ _ _ _ _ _;go_simp;exact hk _ _ rfl qH)
  | exact rfl):P:=h trivial trivial trivial trivial
theorem kI (a b:Nat){P:Prop}(h:qL a→qL b→P:=by
 intro p0 p1;intro AA W KK QQ hB hs hd hl hk;obtain⟨_,sa,rfl⟩:=qO p0 p1 @hd qF rfl;clear hs hd hl;have hx:=(show PB W b s j from(show Blk _ _ _ _ from HPk.out).keep hB).cells;obtain⟨hx0,hx1,_⟩:=hx;go_simp;exact hk _ _ rfl qH):P:=h trivial trivial
theorem kJ (a b c d e:Nat){P:Prop}(h:qL a→qL b→qL c→qL d→qL e→P:=by
 intro p0 p1 p2 p3 p4;intro AA W D KK QQ hsz hP hi hdn hnd hs hd hl hk;have HSZ:=qK hsz;clear hsz;have hP0:=hP;have hc:=qM p0 @hdn qF;have hP2:=phB hP hc;obtain⟨_,sa,rfl⟩:=qO p1 p2 @hd qF rfl;obtain⟨_,sb,rfl⟩:=qO p3 p4 @hd qF rfl;clear hs hd hl hdn hnd;refine⟨_,_,rfl,sa,?_⟩;exact⟨rfl,hP0⟩):P:=h trivial trivial trivial trivial trivial
theorem kK (a b c d:Nat){P:Prop}(h:qL a→qL b→qL c→qL d→P:=by
 intro p0 p1 p2 p3;intro AA W KK QQ hB hs hd hl hk;obtain⟨_,sa,rfl⟩:=qO p0 p1 @hd qF rfl;obtain⟨_,sb,rfl⟩:=qO p2 p3 @hd qF rfl;clear hs hd hl;refine⟨_,_,rfl,sa,?_⟩;change Oper.wp _ _ _ _ _ _;go_simp;refine(HN.out W (show PB W b s j from(show Blk _ _ _ _ from HPk.out).keep hB)).mono ?_;rintro e W2 ⟨rfl,hb2⟩;exact hk _ _ rfl hb2):P:=h trivial trivial trivial trivial
theorem kL (a b c:Nat){P:Prop}(h:qL a→qL b→qL c→P:=by
 intro p0 p1 p2;intro AA W KK QQ hB hs hd hl hk;have sa:=qM p0 @hs _ qF rfl;obtain⟨_,sb,rfl⟩:=qO p1 p2 @hd qF rfl;clear hs hd hl;have hx:=((show Blk _ _ _ _ from HGp.out).keep hB).cell 0;refine⟨_,_,rfl,sb,?_⟩;first
  | (change Oper.wp _ _ _ _ _ _;go_simp;exact hk _ _ rfl qH)
  | exact rfl):P:=h trivial trivial trivial
theorem kM (a b c d e:Nat){P:Prop}(h:qL a→qL b→qL c→qL d→qL e→P:=by
 intro p0 p1 p2 p3 p4;intro AA W D KK QQ hsz hP hi hdn hnd hs hd hl hk;have HSZ:=qK hsz;clear hsz;have hP0:=hP;have hc:=qM p0 @hdn qF;have hP2:=phB hP hc;obtain⟨_,sa,rfl⟩:=qO p1 p2 @hd qF rfl;obtain⟨_,sb,rfl⟩:=qO p3 p4 @hd qF rfl;clear hs hd hl hdn hnd;refine⟨_,_,rfl,sa,?_⟩;first
  | (change Oper.wp _ _ _ _ _ _;go_simp;exact hk _ _ rfl hP0)
  | exact⟨rfl,hP0⟩):P:=h trivial trivial trivial trivial trivial
theorem kN (a:Nat){P:Prop}(h:qL a→P:=by
 intro p0;intro AA W KK QQ hB hs hd hl hk;have sa:=qM p0 @hs _ qF rfl;clear hs hd hl;have hx:=((show Blk _ _ _ _ from HGp.out).keep hB).cell 0;go_simp;exact hk _ _ rfl qH):P:=h trivial
theorem kO (a b c d:Nat){P:Prop}(h:qL a→qL b→qL c→qL d→P:=by
 intro p0 p1 p2 p3;intro AA W KK QQ hB hs hd hl hk;obtain⟨_,sa,rfl⟩:=qO p0 p1 @hd qF rfl;obtain⟨_,sb,rfl⟩:=qO p2 p3 @hd qF rfl;clear hs hd hl;have hx:=(HBx.out.keep hB).cell 3;refine⟨_,_,rfl,sa,?_⟩;first
  | (change Oper.wp _ _ _ _ _ _;go_simp;exact hk _ _ rfl qH)
  | exact rfl):P:=h trivial trivial trivial trivial
theorem kP (a b:Nat){P:Prop}(h:qL a→qL b→P:=by
 intro p0 p1;intro AA W KK QQ hB hs hd hl hk;obtain⟨_,sa,rfl⟩:=qO p0 p1 @hd qF rfl;clear hs hd hl;have hx1:=hB.cell (p:=⟨w.heap.size,1,none⟩) hze;rw[e1] at hx1;go_simp;exact hk _ _ rfl qH):P:=h trivial trivial
theorem kQ (a b c d:Nat){P:Prop}(h:qL a→qL b→qL c→qL d→P:=by
 intro p0 p1 p2 p3;intro AA W KK QQ hB hs hd hl hk;obtain⟨_,sa,rfl⟩:=qO p0 p1 @hd qF rfl;obtain⟨_,sb,rfl⟩:=qO p2 p3 @hd qF rfl;clear hs hd hl;go_simp;exact hk _ _ ⟨_,rfl,Blk.new _ _ _⟩ (qH.alloc qJ _)):P:=h trivial trivial trivial trivial
theorem kR (a b c d:Nat){P:Prop}(h:qL a→qL b→qL c→qL d→P:=by
 intro p0 p1 p2 p3;intro AA W KK QQ hB hs hd hl hk;obtain⟨_,sa,rfl⟩:=qO p0 p1 @hd qF rfl;obtain⟨_,sb,rfl⟩:=qO p2 p3 @hd qF rfl;clear hs hd hl;go_simp;have hlk:=HLK.out W hB;rw[hlk];go_simp;exact hk _ _ rfl qH):P:=h trivial trivial trivial trivial
theorem kS (a b c d:Nat){P:Prop}(h:qL a→qL b→qL c→qL d→P:=by
 intro p0 p1 p2 p3;intro AA W KK QQ hB hs hd hl hk;obtain⟨_,sa,rfl⟩:=qO p0 p1 @hd qF rfl;obtain⟨_,sb,rfl⟩:=qO p2 p3 @hd qF rfl;clear hs hd hl;refine⟨_,_,rfl,sa,?_⟩;change Oper.wp _ _ _ _ _ _;go_simp;exact hk _ _ (congrArg (Value.int .i64) HQ.out) qH):P:=h trivial trivial trivial trivial
theorem kT (a b c d:Nat){P:Prop}(h:qL a→qL b→qL c→qL d→P:=by
 intro p0 p1 p2 p3;intro AA W KK QQ hB hs hd hl hk;obtain⟨_,sa,rfl⟩:=qO p0 p1 @hd qF rfl;obtain⟨_,sb,rfl⟩:=qO p2 p3 @hd qF rfl;clear hs hd hl;have hx1:=hB.cell (p:=⟨s,1,none⟩) hzs;rw[s1] at hx1;refine⟨_,_,rfl,sa,?_⟩;first
  | (change Oper.wp _ _ _ _ _ _;go_simp;exact hk _ _ rfl qH)
  | exact rfl):P:=h trivial trivial trivial trivial
theorem kU (a b c d:Nat){P:Prop}(h:qL a→qL b→qL c→qL d→P:=by
 intro p0 p1 p2 p3;intro AA W KK QQ hB hs hd hl hk;obtain⟨_,sa,rfl⟩:=qO p0 p1 @hd qF rfl;obtain⟨_,sb,rfl⟩:=qO p2 p3 @hd qF rfl;clear hs hd hl;have hx2:=hB.cell (p:=⟨v,2,none⟩) hzv;rw[d2] at hx2;refine⟨_,_,rfl,sa,?_⟩;first
  | (change Oper.wp _ _ _ _ _ _;go_simp;exact hk _ _ rfl qH)
  | exact rfl):P:=h trivial trivial trivial trivial
theorem kV (a b c d:Nat){P:Prop}(h:qL a→qL b→qL c→qL d→P:=by
 intro p0 p1 p2 p3;intro AA W D KK QQ hsz hP hi hdn hnd hs hd hl hk;have HSZ:=qK hsz;clear hsz;have hP0:=hP;have hc:=qM p0 @hnd qF;have hW:=phA (phA hP hc) (qM p1 @hnd qF);subst hW;obtain⟨_,sa,rfl⟩:=qO p2 p3 @hd qF rfl;clear hs hd hl hdn hnd;go_simp;exact hk _ _ rfl (.inl ⟨hc,phA hP0 hc⟩)):P:=h trivial trivial trivial trivial
theorem kW (a b:Nat){P:Prop}(h:qL a→qL b→P:=by
 intro p0 p1;intro AA W KK QQ hB hs hd hl hk;obtain⟨_,sa,rfl⟩:=qO p0 p1 @hd qF rfl;clear hs hd hl;have hx7:=hB.cell (p:=⟨w.heap.size,7,none⟩) hz0;rw[e7] at hx7;go_simp;exact hk _ _ rfl qH):P:=h trivial trivial
theorem kX (a b c d e:Nat){P:Prop}(h:qL a→qL b→qL c→qL d→qL e→P:=by
 intro p0 p1 p2 p3 p4;intro AA W D KK QQ hsz hP hi hdn hnd hs hd hl hk;have HSZ:=qK hsz;clear hsz;have hP0:=hP;have hc:=qM p0 @hdn qF;have hP2:=phB hP hc;obtain⟨_,sa,rfl⟩:=qO p1 p2 @hd qF rfl;obtain⟨_,sb,rfl⟩:=qO p3 p4 @hd qF rfl;clear hs hd hl hdn hnd;go_simp;exact hk _ _ rfl hP0):P:=h trivial trivial trivial trivial trivial
theorem kY (a b c d:Nat){P:Prop}(h:qL a→qL b→qL c→qL d→P:=by
 intro p0 p1 p2 p3;intro AA W KK QQ hB hs hd hl hk;obtain⟨_,sa,rfl⟩:=qO p0 p1 @hd qF rfl;obtain⟨_,sb,rfl⟩:=qO p2 p3 @hd qF rfl;clear hs hd hl;have hx:=HPr0.out W hB;refine⟨_,_,rfl,sa,?_⟩;first
  | (change Oper.wp _ _ _ _ _ _;go_simp;exact hk _ _ rfl qH)
  | exact rfl):P:=h trivial trivial trivial trivial
theorem kZ (a b c d:Nat){P:Prop}(h:qL a→qL b→qL c→qL d→P:=by
 intro p0 p1 p2 p3;intro AA W KK QQ hB hs hd hl hk;obtain⟨_,sa,rfl⟩:=qO p0 p1 @hd qF rfl;obtain⟨_,sb,rfl⟩:=qO p2 p3 @hd qF rfl;clear hs hd hl;have hx0:=hB.cell (p:=⟨bl,ol+15,none⟩) hzL;rw[kL15] at hx0;have hx1:=hB.cell (p:=⟨bl,ol+16,none⟩) hzL;rw[kL16] at hx1;have hx2:=hB.cell (p:=⟨bl,ol+17,none⟩) hzL;rw[kL17] at hx2;have hx3:=hB.cell (p:=⟨bl,ol+18,none⟩) hzL;rw[kL18] at hx3;have hx4:=hB.cell (p:=⟨bl,ol+19,none⟩) hzL;rw[kL19] at hx4;refine⟨_,_,rfl,sa,?_⟩;first
  | (change Oper.wp _ _ _ _ _ _;go_simp;exact hk _ _ rfl qH)
  | exact rfl):P:=h trivial trivial trivial trivial
theorem jA (a b:Nat){P:Prop}(h:qL a→qL b→P:=by
 intro p0 p1;intro AA W KK QQ hB hs hd hl hk;obtain⟨_,sa,rfl⟩:=qO p0 p1 @hd qF rfl;clear hs hd hl;refine⟨_,_,rfl,sa,?_⟩;first
  | (change Oper.wp _ _ _ _ _ _;go_simp;exact hk _ _ rfl qH)
  | exact rfl):P:=h trivial trivial
theorem jB (a b:Nat){P:Prop}(h:qL a→qL b→P:=by
 intro p0 p1;intro AA W D KK QQ hsz hP hi hdn hnd hs hd hl hk;have HSZ:=qK hsz;clear hsz;have hP0:=hP;have hc:=qM p0 @hnd qF;have hW:=phA hP hc;subst hW;have sa:=qM p1 @hs _ qF rfl;clear hs hd hl hdn hnd;go_simp;exact hk _ _ rfl (.inl ⟨hc,rfl⟩)):P:=h trivial trivial
theorem jC (a b c d e f g h:Nat){P:Prop}(h:qL a→qL b→qL c→qL d→qL e→qL f→qL g→qL h→P:=by
 intro p0 p1 p2 p3 p4 p5 p6 p7;intro AA W KK QQ hB hs hd hl hk;obtain⟨_,sa,rfl⟩:=qO p0 p1 @hd qF rfl;obtain⟨_,sb,rfl⟩:=qO p2 p3 @hd qF rfl;obtain⟨_,sc,rfl⟩:=qO p4 p5 @hd qF rfl;obtain⟨_,sd,rfl⟩:=qO p6 p7 @hd qF rfl;clear hs hd hl;go_simp;exact hk _ _ ⟨_,rfl,Blk.new _ _ _⟩ (qH.alloc qJ _)):P:=h trivial trivial trivial trivial trivial trivial trivial trivial
theorem jD (a b c d e f g h:Nat){P:Prop}(h:qL a→qL b→qL c→qL d→qL e→qL f→qL g→qL h→P:=by
 intro p0 p1 p2 p3 p4 p5 p6 p7;intro AA W D KK QQ hsz hP hi hdn hnd hs hd hl hk;have HSZ:=qK hsz;clear hsz;have hW:=phA hP hi;subst hW;obtain⟨_,sa,rfl⟩:=qO p0 p1 @hd qF rfl;obtain⟨_,sb,rfl⟩:=qO p2 p3 @hd qF rfl;obtain⟨_,sc,rfl⟩:=qO p4 p5 @hd qF rfl;obtain⟨_,sd,rfl⟩:=qO p6 p7 @hd qF rfl;clear hs hd hl hdn hnd;go_simp;refine cDD.out.mono ?_;rintro e w12 ⟨bs2,rfl,hDs⟩;rw[hok];go_simp;exact hk _ _ rfl (.inr ⟨rfl,bs2,hDs⟩)):P:=h trivial trivial trivial trivial trivial trivial trivial trivial
theorem jE (a b c d:Nat){P:Prop}(h:qL a→qL b→qL c→qL d→P:=by
 intro p0 p1 p2 p3;intro AA W KK QQ hB hs hd hl hk;obtain⟨_,sa,rfl⟩:=qO p0 p1 @hd qF rfl;obtain⟨_,sb,rfl⟩:=qO p2 p3 @hd qF rfl;clear hs hd hl;have hx:=(BP.out.keep hB).cell 1;refine⟨_,_,rfl,sa,?_⟩;first
  | (change Oper.wp _ _ _ _ _ _;go_simp;exact hk _ _ rfl qH)
  | exact rfl):P:=h trivial trivial trivial trivial
theorem jF (a b c:Nat){P:Prop}(h:qL a→qL b→qL c→P:=by
 intro p0 p1 p2;intro AA W KK QQ hB hs hd hl hk;have sa:=qM p0 @hs _ qF rfl;obtain⟨_,sb,rfl⟩:=qO p1 p2 @hd qF rfl;clear hs hd hl;go_simp;exact hk _ _ rfl qH):P:=h trivial trivial trivial
theorem jG (a b c d e f g h:Nat){P:Prop}(h:qL a→qL b→qL c→qL d→qL e→qL f→qL g→qL h→P:=by
 intro p0 p1 p2 p3 p4 p5 p6 p7;intro AA W D KK QQ hsz hP hi hdn hnd hs hd hl hk;have HSZ:=qK hsz;clear hsz;have hW:=phA hP hi;subst hW;obtain⟨_,sa,rfl⟩:=qO p0 p1 @hd qF rfl;obtain⟨_,sb,rfl⟩:=qO p2 p3 @hd qF rfl;obtain⟨_,sc,rfl⟩:=qO p4 p5 @hd qF rfl;obtain⟨_,sd,rfl⟩:=qO p6 p7 @hd qF rfl;clear hs hd hl hdn hnd;go_simp;refine cDD.out.mono ?_;rintro e w12 ⟨bs,rfl,hDs⟩;rw[hok];go_simp;exact hk _ _ rfl (.inr ⟨rfl,bs,hDs⟩)):P:=h trivial trivial trivial trivial trivial trivial trivial trivial
theorem jH (a b:Nat){P:Prop}(h:qL a→qL b→P:=by
 intro p0 p1;intro AA W KK QQ hB hs hd hl hk;obtain⟨_,sa,rfl⟩:=qO p0 p1 @hd qF rfl;clear hs hd hl;go_simp;refine(zL0 At ct tail W ((S3.hs.below (hB.mono S3.hk.size)).more (Nat.le_trans S3.hk.size hB.size)) qG).mono ?_;rintro e W2 ⟨rfl,rfl⟩;exact hk _ _ rfl qH):P:=h trivial trivial
theorem jI (a b:Nat){P:Prop}(h:qL a→qL b→P:=by
 intro p0 p1;intro AA W KK QQ hB hs hd hl hk;obtain⟨_,sa,rfl⟩:=qO p0 p1 @hd qF rfl;clear hs hd hl;have hx:=(HBx.out.keep hB).cell 1;go_simp;exact hk _ _ rfl qH):P:=h trivial trivial
theorem jJ (a b:Nat){P:Prop}(h:qL a→qL b→P:=by
 intro p0 p1;intro AA W KK QQ hB hs hd hl hk;obtain⟨_,sa,rfl⟩:=qO p0 p1 @hd qF rfl;clear hs hd hl;go_simp;refine(zL0 Al cl lead W ((S2.hl.below (hB.mono S2.hk.size)).more (Nat.le_trans S2.hk.size hB.size)) hll).mono ?_;rintro e W2 ⟨rfl,rfl⟩;exact hk _ _ rfl qH):P:=h trivial trivial
theorem jK (a b:Nat){P:Prop}(h:qL a→qL b→P:=by
 intro p0 p1;intro AA W KK QQ hB hs hd hl hk;obtain⟨_,sa,rfl⟩:=qO p0 p1 @hd qF rfl;clear hs hd hl;go_simp;refine(zL0 At ct tail W ((S2.ht.below (hB.mono S2.hk.size)).more (Nat.le_trans S2.hk.size hB.size)) htl).mono ?_;rintro e W2 ⟨rfl,rfl⟩;exact hk _ _ rfl qH):P:=h trivial trivial
theorem jL (a b:Nat){P:Prop}(h:qL a→qL b→P:=by
 intro p0 p1;intro AA W KK QQ hB hs hd hl hk;obtain⟨_,sa,⟨q,rfl,hP⟩⟩:=qO p0 p1 @hd qF rfl;clear hs hd hl;go_simp;refine(zL0 (some ⟨q,0,none⟩) 1 [trail] W (hP.sl (enc:=encS) (fun _=>rfl) [trail] rfl) (by simp)).mono ?_;rintro e W2 ⟨rfl,rfl⟩;exact hk _ _ rfl qH):P:=h trivial trivial
theorem jM (a b c:Nat){P:Prop}(h:qL a→qL b→qL c→P:=by
 intro p0 p1 p2;intro AA W D KK QQ hsz hP hi hdn hnd hs hd hl hk;have HSZ:=qK hsz;clear hsz;have hP0:=hP;have hc:=qM p0 @hnd qF;have hB:Below w14.heap.size w14 W:=by
  rcases phA hP hc with ⟨_,hW⟩ | ⟨_,hW⟩
  ·rw[←hW];exact Below.refl _ _
  ·rw[←hW];exact qH.alloc qJ _
 obtain⟨_,sa,rfl⟩:=qO p1 p2 @hd qF rfl;clear hs hd hl hdn hnd;go_simp;exact hk _ _ rfl (.inl ⟨hc,phA hP0 hc⟩)):P:=h trivial trivial trivial
theorem jN (a b:Nat){P:Prop}(h:qL a→qL b→P:=by
 intro p0 p1;intro AA W KK QQ hB hs hd hl hk;have sa:=qO p0 p1 @hl _ qF rfl rfl;clear hs hd hl;go_simp;exact hk _ _ rfl qH):P:=h trivial trivial
theorem jO (a:Nat){P:Prop}(h:qL a→P:=by
 intro p0;intro AA W D KK QQ hsz hP hi hdn hnd hs hd hl hk;have HSZ:=qK hsz;clear hsz;have hP0:=hP;have sa:=qM p0 @hs _ qF rfl;clear hs hd hl hdn hnd;go_simp;exact hk _ _ rfl hP0):P:=h trivial
theorem jP (a b c d:Nat){P:Prop}(h:qL a→qL b→qL c→qL d→P:=by
 intro p0 p1 p2 p3;intro AA W D KK QQ hsz hP hi hdn hnd hs hd hl hk;have HSZ:=qK hsz;clear hsz;have hP0:=hP;have hc:=qM p0 @hdn qF;have hP2:=phB hP hc;have sa:=qM p1 @hs _ qF rfl;obtain⟨_,sb,rfl⟩:=qO p2 p3 @hd qF rfl;clear hs hd hl hdn hnd;refine⟨_,_,rfl,sb,?_⟩;first
  | (change Oper.wp _ _ _ _ _ _;go_simp;exact hk _ _ rfl hP0)
  | exact⟨rfl,hP0⟩):P:=h trivial trivial trivial trivial
theorem jQ (a b c:Nat){P:Prop}(h:qL a→qL b→qL c→P:=by
 intro p0 p1 p2;intro AA W D KK QQ hsz hP hi hdn hnd hs hd hl hk;have HSZ:=qK hsz;clear hsz;have hP0:=hP;have hc:=qM p0 @hdn qF;have hP2:=phB hP hc;obtain⟨_,sa,rfl⟩:=qO p1 p2 @hd qF rfl;clear hs hd hl hdn hnd;go_simp;exact hk _ _ rfl (hP0.imp (fun h=>h) fun h=>⟨h.1,(fun⟨a,b,c,h1,h2⟩=>⟨a,b,c,by rw[zR6 (by decide)];exact h1,h2⟩) h.2⟩)):P:=h trivial trivial trivial
theorem jR (a b:Nat){P:Prop}(h:qL a→qL b→P:=by
 intro p0 p1;intro AA W KK QQ hB hs hd hl hk;obtain⟨_,sa,rfl⟩:=qO p0 p1 @hd qF rfl;clear hs hd hl;go_simp;refine(zL0 fAt fct ftail W ((hO.out.tail.1.below (HBw.out.trans (hB.mono (by have:=HBw.out.size;omega)))).more (by have:=HBw.out.size;have:=hB.size;omega)) hO.out.tail.2).mono ?_;rintro e W2 ⟨rfl,rfl⟩;exact hk _ _ rfl qH):P:=h trivial trivial
theorem jS (a b c:Nat){P:Prop}(h:qL a→qL b→qL c→P:=by
 intro p0 p1 p2;intro AA W D KK QQ hsz hP hi hdn hnd hs hd hl hk;have HSZ:=qK hsz;clear hsz;have hP0:=hP;have hc:=qM p0 @hdn qF;have hP2:=phB hP hc;obtain⟨_,sa,rfl⟩:=qO p1 p2 @hd qF rfl;clear hs hd hl hdn hnd;go_simp;exact hk _ _ rfl (hP0.imp (fun h=>h) fun h=>⟨h.1,(fun⟨v,h1,h2⟩=>⟨v,by rw[zR6 (by decide)];exact h1,h2⟩) h.2⟩)):P:=h trivial trivial trivial
theorem jT (a b c d e f:Nat){P:Prop}(h:qL a→qL b→qL c→qL d→qL e→qL f→P:=by
 intro p0 p1 p2 p3 p4 p5;intro AA W KK QQ hB hs hd hl hk;obtain⟨_,sa,rfl⟩:=qO p0 p1 @hd qF rfl;obtain⟨_,sb,rfl⟩:=qO p2 p3 @hd qF rfl;obtain⟨_,sc,rfl⟩:=qO p4 p5 @hd qF rfl;clear hs hd hl;refine⟨_,_,rfl,sa,?_⟩;change Oper.wp _ _ _ _ _ _;go_simp;have hlk:=HLK.out W hB;rw[hlk];go_simp;exact hk _ _ rfl qH):P:=h trivial trivial trivial trivial trivial trivial
theorem jU (a b c d:Nat){P:Prop}(h:qL a→qL b→qL c→qL d→P:=by
 intro p0 p1 p2 p3;intro AA W KK QQ hB hs hd hl hk;obtain⟨_,sa,rfl⟩:=qO p0 p1 @hd qF rfl;obtain⟨_,sb,rfl⟩:=qO p2 p3 @hd qF rfl;clear hs hd hl;have hx0:=hB.cell (p:=⟨w.heap.size,0,none⟩) hz0;rw[e0] at hx0;refine⟨_,_,rfl,sa,?_⟩;first
  | (change Oper.wp _ _ _ _ _ _;go_simp;exact hk _ _ rfl qH)
  | exact rfl):P:=h trivial trivial trivial trivial
theorem jV (a b c d e f:Nat){P:Prop}(h:qL a→qL b→qL c→qL d→qL e→qL f→P:=by
 intro p0 p1 p2 p3 p4 p5;intro AA W KK QQ hB hs hd hl hk;obtain⟨_,sa,rfl⟩:=qO p0 p1 @hd qF rfl;obtain⟨_,sb,rfl⟩:=qO p2 p3 @hd qF rfl;obtain⟨_,sc,rfl⟩:=qO p4 p5 @hd qF rfl;clear hs hd hl;refine⟨_,_,rfl,sa,?_⟩;change Oper.wp _ _ _ _ _ _;go_simp;exact hk _ _ (congrArg (Value.int .i64) HN.out) qH):P:=h trivial trivial trivial trivial trivial trivial
theorem jW (a:Nat){P:Prop}(h:qL a→P:=by
 intro p0;intro AA W D KK hsz hdf hP hi hdn hnd hs hd hl hk;have HSZ:=qK hsz;have _HDF:=qK hdf;clear hsz hdf;have sa:=qM p0 @hs _ qF rfl;have HPh:=qK hP;clear hs hd hl hdn hnd hi hP;have hx:=(HB3.out.below HPh.out).c.cell 0;go_simp;exact hk _ _ rfl (show Below w3.heap.size w3 _ from HPh.out)):P:=h trivial
theorem jX (a b c d:Nat){P:Prop}(h:qL a→qL b→qL c→qL d→P:=by
 intro p0 p1 p2 p3;intro AA W KK QQ hB hs hd hl hk;obtain⟨_,sa,rfl⟩:=qO p0 p1 @hd qF rfl;obtain⟨_,sb,⟨gs,rfl,hgs⟩⟩:=qO p2 p3 @hd qF rfl;clear hs hd hl;refine⟨_,_,rfl,sa,?_⟩;change Oper.wp _ _ _ _ _ _;go_simp;refine(HS1.out gs W hgs).mono ?_;rintro e W2 ⟨rfl,rfl⟩;exact hk _ _ rfl qH):P:=h trivial trivial trivial trivial
theorem jY (a b:Nat){P:Prop}(h:qL a→qL b→P:=by
 intro p0 p1;intro AA W KK QQ hB hs hd hl hk;obtain⟨_,sa,rfl⟩:=qO p0 p1 @hd qF rfl;clear hs hd hl;have hx2:=hB.cell (p:=⟨w.heap.size,2,none⟩) hz0;rw[e2] at hx2;go_simp;exact hk _ _ rfl qH):P:=h trivial trivial
theorem jZ (a b:Nat){P:Prop}(h:qL a→qL b→P:=by
 intro p0 p1;intro AA W KK QQ hB hs hd hl hk;obtain⟨_,sa,rfl⟩:=qO p0 p1 @hd qF rfl;clear hs hd hl;have hx8:=hB.cell (p:=⟨w.heap.size,8,none⟩) hz0;rw[e8] at hx8;go_simp;exact hk _ _ rfl qH):P:=h trivial trivial
theorem yA (a b:Nat){P:Prop}(h:qL a→qL b→P:=by
 intro p0 p1;intro AA W KK QQ hB hs hd hl hk;obtain⟨_,sa,rfl⟩:=qO p0 p1 @hd qF rfl;clear hs hd hl;have hx9:=hB.cell (p:=⟨w.heap.size,9,none⟩) hz0;rw[e9] at hx9;go_simp;exact hk _ _ rfl qH):P:=h trivial trivial
theorem yB (a b c d:Nat){P:Prop}(h:qL a→qL b→qL c→qL d→P:=by
 intro p0 p1 p2 p3;intro AA W D KK QQ hsz hP hi hdn hnd hs hd hl hk;have HSZ:=qK hsz;clear hsz;have hP0:=hP;have hc:=qM p0 @hdn qF;have hP2:=phB hP hc;have sa:=qM p1 @hs _ qF rfl;obtain⟨_,sb,rfl⟩:=qO p2 p3 @hd qF rfl;clear hs hd hl hdn hnd;refine⟨_,_,rfl,sb,?_⟩;exact⟨rfl,hP0⟩):P:=h trivial trivial trivial trivial
theorem yC (a b c d:Nat){P:Prop}(h:qL a→qL b→qL c→qL d→P:=by
 intro p0 p1 p2 p3;intro AA W KK QQ hB hs hd hl hk;obtain⟨_,sa,rfl⟩:=qO p0 p1 @hd qF rfl;obtain⟨_,sb,rfl⟩:=qO p2 p3 @hd qF rfl;clear hs hd hl;have hx:=(HBx.out.keep hB).cell 0;refine⟨_,_,rfl,sa,?_⟩;first
  | (change Oper.wp _ _ _ _ _ _;go_simp;exact hk _ _ rfl qH)
  | exact rfl):P:=h trivial trivial trivial trivial
theorem yD (a b c d:Nat){P:Prop}(h:qL a→qL b→qL c→qL d→P:=by
 intro p0 p1 p2 p3;intro AA W KK QQ hB hs hd hl hk;obtain⟨_,sa,rfl⟩:=qO p0 p1 @hd qF rfl;obtain⟨_,sb,rfl⟩:=qO p2 p3 @hd qF rfl;clear hs hd hl;refine⟨_,_,rfl,sa,?_⟩;change Oper.wp _ _ _ _ _ _;go_simp;refine(HS2.out W hB).mono ?_;rintro e W2 ⟨rfl,rfl⟩;exact hk _ _ rfl qH):P:=h trivial trivial trivial trivial
theorem yE (a b c d:Nat){P:Prop}(h:qL a→qL b→qL c→qL d→P:=by
 intro p0 p1 p2 p3;intro AA W KK QQ hB hs hd hl hk;obtain⟨_,sa,rfl⟩:=qO p0 p1 @hd qF rfl;obtain⟨_,sb,rfl⟩:=qO p2 p3 @hd qF rfl;clear hs hd hl;refine⟨_,_,rfl,sa,?_⟩;change Oper.wp _ _ _ _ _ _;go_simp;exact hk _ _ ⟨_,rfl,sl_strs1 pkg W⟩ (qH.alloc qJ _)):P:=h trivial trivial trivial trivial
theorem yF (a b:Nat){P:Prop}(h:qL a→qL b→P:=by
 intro p0 p1;intro AA W D KK hsz hdf hP hi hdn hnd hs hd hl hk;have HSZ:=qK hsz;have _HDF:=qK hdf;clear hsz hdf;obtain⟨_,sa,rfl⟩:=qO p0 p1 @hd qF rfl;have HPh:=qK hP;clear hs hd hl hdn hnd hi hP;go_simp;exact hk _ _ rfl (show Below w3.heap.size w3 _ from HPh.out)):P:=h trivial trivial
theorem yG (a b:Nat){P:Prop}(h:qL a→qL b→P:=by
 intro p0 p1;intro AA W KK QQ hB hs hd hl hk;obtain⟨_,sa,rfl⟩:=qO p0 p1 @hd qF rfl;clear hs hd hl;go_simp;exact hk _ _ ⟨_,rfl,Blk.new _ _ _⟩ (qH.alloc qJ _)):P:=h trivial trivial
theorem yH (a b:Nat){P:Prop}(h:qL a→qL b→P:=by
 intro p0 p1;intro AA W KK QQ hB hs hd hl hk;obtain⟨_,sa,rfl⟩:=qO p0 p1 @hd qF rfl;clear hs hd hl;have hx:=(B1.out.keep hB).cell 0;go_simp;exact hk _ _ rfl qH):P:=h trivial trivial
theorem yI (a b c d:Nat){P:Prop}(h:qL a→qL b→qL c→qL d→P:=by
 intro p0 p1 p2 p3;intro AA W KK QQ hB hs hd hl hk;obtain⟨_,sa,rfl⟩:=qO p0 p1 @hd qF rfl;obtain⟨_,sb,rfl⟩:=qO p2 p3 @hd qF rfl;clear hs hd hl;go_simp;exact hk _ _ (congrArg (Value.int .i64) HL0.out) qH):P:=h trivial trivial trivial trivial
theorem yJ (a b:Nat){P:Prop}(h:qL a→qL b→P:=by
 intro p0 p1;intro AA W KK QQ hB hs hd hl hk;obtain⟨_,sa,⟨gs,rfl,hgs⟩⟩:=qO p0 p1 @hd qF rfl;clear hs hd hl;go_simp;refine(HS1.out gs W hgs).mono ?_;rintro e W2 ⟨rfl,rfl⟩;exact hk _ _ rfl qH):P:=h trivial trivial
theorem yK (a b:Nat){P:Prop}(h:qL a→qL b→P:=by
 intro p0 p1;intro AA W KK QQ hB hs hd hl hk;obtain⟨_,sa,rfl⟩:=qO p0 p1 @hd qF rfl;clear hs hd hl;have hx0:=hB.cell (p:=⟨w.heap.size,0,none⟩) hz0;rw[e0] at hx0;go_simp;exact hk _ _ rfl qH):P:=h trivial trivial
theorem yL (a b:Nat){P:Prop}(h:qL a→qL b→P:=by
 intro p0 p1;intro AA W KK QQ hB hs hd hl hk;obtain⟨_,sa,rfl⟩:=qO p0 p1 @hd qF rfl;clear hs hd hl;have hx3:=hB.cell (p:=⟨w.heap.size,3,none⟩) hz0;rw[e3] at hx3;go_simp;exact hk _ _ rfl qH):P:=h trivial trivial
theorem yM (a b:Nat){P:Prop}(h:qL a→qL b→P:=by
 intro p0 p1;intro AA W KK QQ hB hs hd hl hk;obtain⟨_,sa,rfl⟩:=qO p0 p1 @hd qF rfl;clear hs hd hl;have hxi:=hB.cell (p:=⟨gi,file,none⟩) hzi;rw[i0] at hxi;go_simp;exact hk _ _ rfl qH):P:=h trivial trivial
theorem yN (a b:Nat){P:Prop}(h:qL a→qL b→P:=by
 intro p0 p1;intro AA W KK QQ hB hs hd hl hk;obtain⟨_,sa,rfl⟩:=qO p0 p1 @hd qF rfl;clear hs hd hl;have hx1:=hB.cell (p:=⟨x.blk,1,none⟩) hzs;rw[s1] at hx1;go_simp;exact hk _ _ rfl qH):P:=h trivial trivial
theorem yO (a b:Nat){P:Prop}(h:qL a→qL b→P:=by
 intro p0 p1;intro AA W KK QQ hB hs hd hl hk;obtain⟨_,sa,rfl⟩:=qO p0 p1 @hd qF rfl;clear hs hd hl;have hx0:=hB.cell (p:=⟨x.blk,0,none⟩) hzs;rw[s0] at hx0;go_simp;exact hk _ _ rfl qH):P:=h trivial trivial
theorem yP (a b:Nat){P:Prop}(h:qL a→qL b→P:=by
 intro p0 p1;intro AA W KK QQ hB hs hd hl hk;obtain⟨_,sa,rfl⟩:=qO p0 p1 @hd qF rfl;clear hs hd hl;have hx3:=hB.cell (p:=⟨R.r,3,none⟩) hzr;rw[r3] at hx3;go_simp;exact hk _ _ rfl qH):P:=h trivial trivial
theorem yQ (a b:Nat){P:Prop}(h:qL a→qL b→P:=by
 intro p0 p1;intro AA W KK QQ hB hs hd hl hk;obtain⟨_,sa,rfl⟩:=qO p0 p1 @hd qF rfl;clear hs hd hl;have hx2:=hB.cell (p:=⟨v,2,none⟩) hzv;rw[d2] at hx2;go_simp;exact hk _ _ rfl qH):P:=h trivial trivial
theorem yR (a b:Nat){P:Prop}(h:qL a→qL b→P:=by
 intro p0 p1;intro AA W KK QQ hB hs hd hl hk;obtain⟨_,sa,rfl⟩:=qO p0 p1 @hd qF rfl;clear hs hd hl;go_simp;refine(HS2.out W hB).mono ?_;rintro e W2 ⟨rfl,rfl⟩;exact hk _ _ rfl qH):P:=h trivial trivial
theorem yS (a b:Nat){P:Prop}(h:qL a→qL b→P:=by
 intro p0 p1;intro AA W KK QQ hB hs hd hl hk;obtain⟨_,sa,rfl⟩:=qO p0 p1 @hd qF rfl;clear hs hd hl;have hx:=(HBx.out.keep hB).cell 7;go_simp;exact hk _ _ rfl qH):P:=h trivial trivial
theorem yT (a b:Nat){P:Prop}(h:qL a→qL b→P:=by
 intro p0 p1;intro AA W KK QQ hB hs hd hl hk;obtain⟨_,sa,rfl⟩:=qO p0 p1 @hd qF rfl;clear hs hd hl;have hx:=(B1.out.keep hB).cell 8;go_simp;exact hk _ _ rfl qH):P:=h trivial trivial
theorem yU (a b:Nat){P:Prop}(h:qL a→qL b→P:=by
 intro p0 p1;intro AA W KK QQ hB hs hd hl hk;obtain⟨_,sa,rfl⟩:=qO p0 p1 @hd qF rfl;clear hs hd hl;have hx:=(B1.out.keep hB).cell 7;go_simp;exact hk _ _ rfl qH):P:=h trivial trivial
theorem yV {P:Prop}(h:P:=by
 intro AA W KK QQ hB hs hd hl hk;clear hs hd hl;go_simp;exact hk _ _ ⟨_,rfl,hB.size,Blk.new _ _ _⟩ (qH.alloc qJ _)):P:=h
theorem yY {P:Prop}(h:P:=by
 intro wf hB
 iterate 20 refine qN ?_
 refine zP9 ?_;have SF:=HSr.out.below hB;obtain rfl:=SF.len;have hll:L.length≤1048576:=by have h1:=SF.hn;have h2:=HS.out;omega
 have l0:=SF.gl.cell 0;have hJn:=yE0 3 (some ⟨g,0,none⟩) cap L wf (yE4 SF.row).2 hll;have HFin:=qK (fun w' w'' hb hk=>@CatS.done w wf w' w'' b i L.length j g cap cap s L SF hbl HS.out HStp.out hb hk);have HZf:=qK SF.z;clear SF hll;generalize yY5 3 (some ⟨g,0,none⟩) cap L=J at hJn HFin;obtain⟨rk,ra,rc,rd,rf,rA,rcp,rs⟩:=J;go_wp2_with fail
 refine hJn.mono ?_;rintro e w4 ⟨rfl,hb4⟩;have hz:=HZf.out.keep hb4;obtain⟨x0,x1,x2,x3,x4,x5⟩:=regC hz;obtain⟨f0,f1,f2,f3,f4,f5⟩:=regF hz;obtain⟨h6,hk6⟩:=res6 hz (.int .i64 rk) (.int .u64 ra) (.int .u64 rc) (.int .u64 rd) (.int .u64 rf) (.slice rA rs.length rcp);have H6:=qK h6;have HF:=qK (HFin.out _ _ hb4 hk6);clear hz h6 hk6 hb4 hJn HFin HZf l0;rw[encR];go_wp2;obtain⟨y0,y1,y2,y3,y4,y5⟩:=regC H6.out;unfold wrR at y0 y1 y2 y3 y4 y5;refine bodyPost_ret (v:=.agg #[.int .i64 rk,.int .u64 ra,.int .u64 rc,.int .u64 rd,.int .u64 rf,.slice rA rs.length rcp]) ?_ rfl HF.out;simp[results,Tryz.results198,go_sem,y0,y1,y2,y3,y4,y5]):P:=h
theorem yZ {P:Prop}(h:P:=by
 obtain⟨k,hk,rfl,HN⟩:=hrel;by_cases hlt:k < q.length
 ·have hlt':(k:Int) < (q.length:Int):=by omega
  have HX:=qK (show q[k]=(({data:=q.toArray}:ByteArray)[k]) from rfl);have HT:=qK (xZ4 (({data:=q.toArray}:ByteArray)[k]));have HA:=qK (yU2 yK2 q k hlt);have HFa:=qK (fun h=>yP7 (p:=yK2) hlt h);have cL:=zK0 (({data:=q.toArray}:ByteArray)[k]) (w.alloc (.cells #[.string ⟨#[110,117,108,108]⟩,.string ⟨#[116,114,117,101]⟩,.string ⟨#[102,97,108,115,101]⟩,.string ⟨#[98,111,111,108]⟩,.string ⟨#[105,110,116]⟩,.string ⟨#[110,117,109,98,101,114]⟩,.string ⟨#[115,116,114,105,110,103]⟩,.string ⟨#[108,101,116]⟩,.string ⟨#[105,102]⟩,.string ⟨#[102,111,114]⟩,.string ⟨#[105,110]⟩,.string ⟨#[112,97,99,107,97,103,101]⟩,.string ⟨#[105,109,112,111,114,116]⟩] 9));cases hlk:zU8 (({data:=q.toArray}:ByteArray)[k]);all_goals
   rw[hlk] at cL;have HLk:=qK hlk;clear hlk;go_wp2_with fail
   refine cL.mono ?_;rintro e w2 ⟨rfl,rfl⟩;clear cL;go_wp2;all_goals first
    | (go_round
       case rel=>exact⟨k+1,by omega,by go_num,qK (by rw[HA.out,HN.out,HX.out,HT.out,HLk.out];simp_all;try omega)⟩
       case measure=>simp[intOf];omega)
    | (go_ret
       exact⟨zL9 (by rw[HF.out,HQ.out,HP.out,HFa.out (by rw[HX.out,HT.out,HLk.out];simp_all;try omega)];simp),HW.out⟩)
 ·obtain rfl:k=q.length:=by omega
  go_wp2;go_ret;exact⟨by rw[HF.out,HQ.out,HP.out,HL.out,←HN.out,List.take_length];simp;try rfl,HW.out⟩):P:=h
theorem vC {P:Prop}(h:P:=by
 show Sl w w.heap.size k enc (some a) (List.ofFn f);rcases Nat.eq_zero_or_pos len with hz | hpos
 ·exact .inl (List.eq_nil_of_length_eq_zero qG)
 ·
  have hcell:∀ i (hi:i < len) j v,(enc (f ⟨i,hi⟩))[j]? = some v→w.cell? (a.add (i*k+j))=some v:=by
   intro i hi j v hv;obtain⟨_,_,hat⟩:=World.cells?_some (hf ⟨i,hi⟩).1;have hj:j < k:=by rw[←hk (f ⟨i,hi⟩)];exact(List.getElem?_eq_some_iff.1 hv).1
   have:=hat j hj;rw[hv,add_add] at this;exact this
  have h00:∃ v,(enc (f ⟨0,hpos⟩))[0]? = some v:=⟨_,List.getElem?_eq_getElem (by rw[hk];exact h0)⟩;obtain⟨v0,hv0⟩:=h00;have hc0:=hcell 0 hpos 0 v0 hv0;have hsp:a.spot=none:=by
   cases hs:a.spot with
   | none=>rfl
   | some q=>
     exfalso;rw[show 0*k+0=0 by omega] at hc0;have ea:a.add 0=a:=by simp[Addr.add]
     rw[ea] at hc0;unfold World.cell? at hc0;split at hc0
     ·rw[hs] at hc0;simp at hc0
     ·cases hc0
  obtain⟨b,off,spot⟩:=a;simp only at hsp;subst hsp;refine .inr ⟨b,off,rfl,?_,fun i hi j v hv=>?_⟩
  ·have:=World.block_lt_of_cell? w _ hc0;simpa[Addr.add] using this
  ·have hi':i < len:=by omega
   have:=hcell i hi' j v (by simpa using hv);rw[Addr.add_lit] at this;rw[←Nat.add_assoc] at this;exact this):P:=h
theorem vE {P:Prop}(h:P:=by
 obtain⟨k,hk,rfl,HN⟩:=hrel;by_cases hlt:k < l.length
 ·have hlt':(k:Int) < (l.length:Int):=by omega
  obtain⟨b,off,rfl,hb,hc⟩:=HA.out.at_ hlt;have g0:=hc 0 _ rfl;simp only[Nat.mul_one,Nat.add_zero] at g0;have HM:=qK (List.getElem_mem hlt);have HT:=qK (List.take_succ_eq_append_getElem hlt);clear hc;generalize l[k]=x at g0 HM HT;by_cases hx:s=x
  ·have hx1:(s == x)=true:=by rw[hx];exact beq_self_eq_true _
   have HX:=qK hx;clear hx;go_wp2;go_ret;exact⟨k,⟨fun _=>by rw[HX.out];exact HM.out,fun _=>by omega⟩,rfl,rfl⟩
  ·have hx1:(s == x)=false:=beq_eq_false_iff_ne.2 hx;have HX:=qK hx;clear hx;go_wp2
   go_round
   case rel=>exact⟨k+1,by omega,by go_num,qK (by
    rw[HT.out];intro h;rcases List.mem_append.1 h with h | h
    ·exact HN.out h
    ·exact HX.out (List.mem_singleton.1 h))⟩
   case measure=>simp[intOf];omega
 ·obtain rfl:k=l.length:=by omega
  go_wp2;go_ret;exact⟨-1,⟨fun h=>by omega,fun h=>absurd (by rw[List.take_length];exact h) HN.out⟩,rfl,rfl⟩):P:=h
theorem vF {P:Prop}(h:P:=by
 intro k e hk hke;by_cases he:e=i
 ·subst he;have:e < L.size:=by rw[h.size];exact hi
  simp[this]
 ·rw[hset e he];by_cases hki:k=i
  ·subst hki;unfold zW5 at hke;rw[ho'] at hke;obtain⟨x,hx,hy⟩:=List.any_eq_true.1 hke;obtain⟨h1,h2⟩:=Bool.and_eq_true _ _▸hy;rw[Array.all_eq_true'] at hd;have h3:=hd x (by simpa using hx);rw[h1] at h3;have h4:x.on=e:=by simpa using h2
   rw[h4] at h3;simpa using h3
  ·rw[hset k hki] at hk;exact h.closed k e hk hke):P:=h
theorem vG {P:Prop}(h:P:=by
 intro wf hB GG hGG
 iterate 9 refine qN ?_
 refine zZ4 48 rfl ?_;rintro _ ⟨q9,rfl,hP9⟩
 iterate 12 refine qN ?_
 refine zZ4 61 rfl ?_;rintro _ ⟨q,rfl,hP⟩;refine zJ7 hGG ?_;go_simp;have Sf:=S2.below hB;refine(mustB4 _ _ _ _ Sf.hc hP).mono ?_;rintro e w5 ⟨rfl,hk,hc⟩;have S5:=Sf.step HNl.out HNt.out hk hc;go_wp2_with fail
 go_meet
 case rel=>exact S5.cast (by rw[←HX.out])):P:=h
theorem vH {P:Prop}(h:P:=by
 have cL:=zK0 (({data:=q.toArray}:ByteArray)[0]) (w.alloc (.cells #[.string ⟨#[110,117,108,108]⟩,.string ⟨#[116,114,117,101]⟩,.string ⟨#[102,97,108,115,101]⟩,.string ⟨#[98,111,111,108]⟩,.string ⟨#[105,110,116]⟩,.string ⟨#[110,117,109,98,101,114]⟩,.string ⟨#[115,116,114,105,110,103]⟩,.string ⟨#[108,101,116]⟩,.string ⟨#[105,102]⟩,.string ⟨#[102,111,114]⟩,.string ⟨#[105,110]⟩,.string ⟨#[112,97,99,107,97,103,101]⟩,.string ⟨#[105,109,112,111,114,116]⟩] 9));rw[hl0] at cL;have HL:=qK (show zU8 q[0]=false from hl0);clear hl0;go_wp2_with fail
 refine cL.mono ?_;rintro e w2 ⟨rfl,rfl⟩;go_wp2;go_ret;exact⟨by rw[HF.out,HQ.out,HP.out,HL.out];rfl,HW.out⟩):P:=h
theorem vI {P:Prop}(h:P:=by
 rw[ho'] at h2;obtain⟨x,hx,hy⟩:=List.any_eq_true.1 h2;obtain⟨h3,h4⟩:=Bool.and_eq_true _ _▸hy;refine hI.closedN n x.on e (hdirect x.on ?_) h4;unfold zW5;rw[ho'];exact List.any_eq_true.2 ⟨x,hx,by simp[h3]⟩):P:=h
theorem vJ {P:Prop}(h:P:=by
 intro wf hB GG hGG
 iterate 15 refine qN ?_
 refine zZ4 47 rfl ?_;rintro _ ⟨p,rfl,hP⟩;refine zJ6 hGG ?_;go_simp;have Sf:=S3.below hB;refine(xY0 _ _ Sf.hc hP).mono ?_;rintro e w5 ⟨rfl,hk,hc⟩;have S5:=Sf.step HN.out hk hc;go_wp2_with fail
 go_meet
 case rel=>exact S5.cast (by rw[←HX.out])):P:=h
theorem vK {P:Prop}(h:P:=by
 cases ho:ops.toList[i]? with
 | none=>rw[ho] at h1;cases h1
 | some o=>
   rw[ho] at h1;obtain⟨x,hx,hy⟩:=List.any_eq_true.1 h1;obtain⟨h2,h3⟩:=Bool.and_eq_true _ _▸hy;refine h.closedN n x.on e (h.closed i x.on hi ?_) h3;unfold zW5;rw[ho];exact List.any_eq_true.2 ⟨x,hx,by simp[h2]⟩):P:=h
theorem vL {P:Prop}(h:P:=by
 intro k d hk hkd;have hki:k≠i:=fun e=>by
  subst e;have:k < L.size:=by rw[h.size];exact hi
  simp[this] at hk
 rw[hset k hki] at hk;rw[hput d (fun hod=>hki ?_),h.late k d hk hkd];exact zQ4 hdis hkd (show (ops.toList[i]?).bind (·.dst)=some d by rw[ho'];exact hod)):P:=h
theorem vM {P:Prop}(h:P:=by
 intro w12 D A0 hD hP GG hGG;have hP2:=phB hP (hD 8 (by decide))
 iterate 18 refine qN ?_
 refine zJ9 hGG ?_;intro hA0;subst hA0;obtain⟨bs,hDs⟩:=hP2;have hx:=hDs.hk.cell (p:=⟨R.r,6,none⟩) hzr hnr;have hy:=hDs.hk.frozen (p:=⟨R.r,6,none⟩) hzr hnr;rw[r6] at hx;rw[X11.out.fr.st.rs.rc.free 6] at hy;go_simp;go_wp2_with fail
 go_meet
 case rel=>exact⟨bs,w12,hDs,by rw[hok];rfl⟩):P:=h
theorem vN {P:Prop}(h:P:=by
 rcases hob with h1 | ⟨g,h1,h2⟩
 ·have:=h.ma b (h1▸hb);exact⟨this.1.up hk.size,this.2⟩
 ·rw[h1] at hb;injection hb with hb
  subst hb;simp only[World.size_alloc] at h2;have hlt:g < wy.heap.size:=by
   rcases hac with h3 | ⟨_,g2,off,h3,h4,_⟩
   ·exact(h3.lt g h1).2
   ·rw[h3] at h1;injection h1 with h1
    exact h1▸h4
  exact⟨hz.new_ qG hlt,by omega⟩):P:=h
theorem vO {P:Prop}(h:P:=by
 by_cases hz:ud=0
 ·subst hz;obtain rfl:kn=true:=hkn.elim (fun h=>absurd rfl h) id;go_wp2;go_roundw
  case rel=>exact⟨i+1,by omega,by go_num,HB7⟩
  case measure=>simp[intOf];omega
 ·have hd0:(ud == 0)=false:=beq_eq_false_iff_ne.2 hz;have hdl:¬ ud < 0:=by omega
  clear hz hkn;go_wp2;go_roundw
  case rel=>exact⟨i+1,by omega,by go_num,HB7⟩
  case measure=>simp[intOf];omega):P:=h
theorem vP {P:Prop}(h:P:=by
 intro x hx;rw[hput x ?_,h.same x hx];intro hod;unfold zT8 at hx;rw[List.all_eq_true] at hx;have:=hx o (List.mem_of_getElem? ho');rw[hod] at this;simp at this):P:=h
theorem vQ {P:Prop}(h:P:=by
 intro wf hB GG hGG
 iterate 12 refine qN ?_
 refine zZ4 20 rfl ?_;rintro _ ⟨q,rfl,hP⟩;refine zH7 hGG ?_;go_simp;have Sf:=S0.below hB;refine(xY0 _ _ Sf.hc hP).mono ?_;rintro e w5 ⟨rfl,hk,hc⟩;have S5:=Sf.step hk hc;go_wp2_with fail
 go_meet
 case rel=>exact S5.cast (by rw[HPk.out])):P:=h
theorem vU {P:Prop}(h:P:=by
 intro AA W D KK hsz hdf hP hi hdn hnd hs hd hl hk;have HSZ:=qK hsz;have _HDF:=qK hdf;clear hsz hdf;have sl0:=hs 0 _ qF rfl;have HPh:=qK hP;clear hs hd hl hdn hnd hi hP;go_simp;exact hk _ _ rfl (HPh.out.far rfl (by decide) _)):P:=h
theorem vV {P:Prop}(h:P:=by
 show w'.ownsRow 0 80 1 σ.av ρ'.all.length (ρ'.all.map lptr);rw[ha];refine zU4 h.al hk fun b hb hm=>?_;obtain⟨h1,h2,h3⟩:=h.am b hb;rcases hM b hm with h4 | h4 | ⟨o,ho,h4⟩
 ·exact h1 h4
 ·exact h2 h4
 ·exact h3 o ho h4):P:=h
theorem vW {P:Prop}(h:P:=by
 exact .inl (List.eq_nil_of_length_eq_zero qG)):P:=h
theorem vX {P:Prop}(h:P:=by
 have e:(fun j=>(Array.replicate ops.size false).getD j false)=fun _=>false:=by
  funext j;simp only[Array.getD_eq_getD_getElem?,Array.getElem?_replicate];split <;> rfl
 rw[e];exact hw):P:=h
theorem vY {P:Prop}(h:P:=by
 have h1:=hall j qG;have h2:(L.setIfInBounds (ops.size-1) true).getD j false=L.getD j false:=by simp[Array.getElem?_setIfInBounds_ne (Ne.symm hj2)]
 rw[h2];exact h1):P:=h
theorem vZ {P:Prop}(h:P:=by
 rw[h1] at h5;injection h5 with h5
 rw[h5];exact h6):P:=h
theorem xA {P:Prop}(h:P:=by
 have:j=i:=by simpa using h3
 subst this;exact hLi):P:=h
theorem xB {P:Prop}(h:P:=by
 intro w5 hB
 iterate 12 refine qN ?_
 refine zP4 ?_;go_wp2_with fail
 go_meet
 case rel=>exact⟨by rw[hlk];rfl,hB⟩):P:=h
theorem xC {P:Prop}(h:P:=by
 have hj':j < l.length:=by simpa using hj
 have h1:=hc j hj' 0 _ rfl;simp only[Nat.mul_one,Nat.add_zero] at h1;rw[h1];simp[hj']):P:=h
theorem xD {P:Prop}(h:P:=by
 obtain⟨h1,h2,h3,_⟩:=h.cm b hb;rcases hM b hm with h4 | h4 | ⟨o,ho,h4⟩
 ·exact h1 h4
 ·exact h2 h4
 ·exact h3 o ho h4):P:=h
theorem xE {P:Prop}(h:P:=by
 obtain rfl:i=l.length:=by omega
 rw[List.take_length,←zX3] at HM;go_wp2;go_ret;exact⟨by rw[HM.out];rfl,HB.out⟩):P:=h
theorem xF {P:Prop}(h:P:=by
 intro w5 hB
 iterate 12 refine qN ?_
 refine zP4 ?_;go_wp2_with fail
 go_meet
 case rel=>exact⟨rfl,hB⟩):P:=h
theorem xG {P:Prop}(h:P:=by
 rw[List.length_append,List.flatMap_append];simpa using hac):P:=h
theorem xH {P:Prop}(h:P:=by
 rintro L A W hr (⟨hf,_⟩ | ⟨_,_,h⟩)
 ·have:=hr (ops.size-1) qG;rw[hf] at this;cases this
 ·exact h):P:=h
theorem xI {P:Prop}(h:P:=by
 obtain rfl:q=[]:=List.eq_nil_of_length_eq_zero qG;go_wp2;go_ret;exact⟨by rw[HF.out,HQ.out];rfl,HW.out⟩):P:=h
theorem xJ {P:Prop}(h:P:=by
 obtain⟨ad,had,hcs⟩:=hsr.2 hpos;injection had with had
 subst had;have:=hcs j u hu
 rwa [Addr.add_lit] at this):P:=h
theorem xK {P:Prop}(h:P:=by
 exfalso;have h1:=hall i hi;have:i < L.size:=by rw[hs];exact hi
 simp[this] at hL h1;rw[hL] at h1;cases h1):P:=h
theorem xL {P:Prop}(h:P:=by
 refine⟨g7,c7,w',hr,h2,h3,hb7,?_⟩;rcases h5 with h5 | h5
 ·exact .inl h5.symm
 ·right;injection h5):P:=h
theorem xM {P:Prop}(h:P:=by
 go_wp2;go_roundw
 case rel=>exact⟨k+1,by omega,by go_num,Z1,Z2,HB⟩
 case measure=>simp[intOf];omega):P:=h
theorem xN {P:Prop}(h:P:=by
 rintro⟨o,ho,hb⟩;obtain⟨y,hy,rfl⟩:=List.mem_map.1 ho;exact⟨y,hy,(hg y).1.symm.trans hb⟩):P:=h
theorem xO {P:Prop}(h:P:=by
 go_wp2;go_roundw
 case rel=>exact⟨i+1,by omega,by go_num,HB7⟩
 case measure=>simp[intOf];omega):P:=h
theorem xP {P:Prop}(h:P:=by
 exact .inr fun ad had=>.inr ⟨hnt,ad,had,rfl⟩):P:=h
theorem xQ {P:Prop}(h:P:=by
 rw[←h.defers];cases o.dst <;> simp[Act.put]):P:=h
theorem xR {P:Prop}(h:P:=by
 rw[List.length_append,List.map_append];exact zU4 hown hk3 fun b hb e=>hrow b hb e.symm):P:=h
theorem xS {P:Prop}(h:P:=by
 subst hki;exact⟨v,hpi d (hdst▸hkd),hv⟩):P:=h
theorem xT {P:Prop}(h:P:=by
 go_wp2_with fail
 go_meet
 case rel=>exact⟨by rw[HBq.out];simp at h15;simp[h15],rfl⟩):P:=h
theorem xU {P:Prop}(h:P:=by
 subst h2;rw[if_pos rfl,if_neg qG,if_pos rfl,h.2,if_neg qG,if_pos rfl]):P:=h
theorem xV {P:Prop}(h:P:=by
 rintro⟨o,ho,hb⟩;exact⟨g o,List.mem_map.2 ⟨o,ho,rfl⟩,(hg o).1.trans hb⟩):P:=h
theorem xW {P:Prop}(h:P:=by
 obtain⟨rfl,rfl⟩:=hrel;go_wp2
 go_end0
 exact⟨rfl,by first | rfl | trivial⟩):P:=h
theorem xX {P:Prop}(h:P:=by
 obtain⟨cs',hc⟩:=h3 ad h1;rw[h2] at hc;exact absurd (hc.inj hG).1 (by decide)):P:=h
theorem xY {P:Prop}(h:P:=by
 rintro((h | h) | h)
 ·exact .inr (.inl h)
 ·exact .inl h
 ·exact .inr (.inr h)):P:=h
theorem xZ {P:Prop}(h:P:=by
 rintro(h | h | h)
 ·exact .inl (.inr h)
 ·exact .inl (.inl h)
 ·exact .inr h):P:=h
theorem fA {P:Prop}(h:P:=by
 split at h
 ·cases h
 ·injection h with h;injection h with _ h;subst h;simp):P:=h
end Go.Proofs
namespace Go.Proofs.YtdgehhgjgifikaaGreatDoor
abbrev Tx:=List UInt8
mutual
inductive E where
 | mk (k:Int) (t:Tx) (n:Int) (a b:Tx) (subs:List E) (decls:List D) (tail:List Tx) (pos:Int)
inductive D where
 | mk (k p:Int) (l a b:Tx) (subs:List E) (body:List D) (tail lead:List Tx) (trail:Tx) (pos:Int)
end
structure Imp where
 name:Tx
 path:Tx
 pos:Int
structure Fl where
 pkg:Tx
 imps:List Imp
 decls:List D
 tail:List Tx
structure Pk where
 path:Tx
 files:List Fl
namespace E
def k:E→Int | mk k _ _ _ _ _ _ _ _=>k
def t:E→Tx | mk _ t _ _ _ _ _ _ _=>t
def n:E→Int | mk _ _ n _ _ _ _ _ _=>n
def a:E→Tx | mk _ _ _ a _ _ _ _ _=>a
def b:E→Tx | mk _ _ _ _ b _ _ _ _=>b
def subs:E→List E | mk _ _ _ _ _ s _ _ _=>s
def decls:E→List D | mk _ _ _ _ _ _ d _ _=>d
def tail:E→List Tx | mk _ _ _ _ _ _ _ t _=>t
def pos:E→Int | mk _ _ _ _ _ _ _ _ p=>p
end E
namespace D
def k:D→Int | mk k _ _ _ _ _ _ _ _ _ _=>k
def p:D→Int | mk _ p _ _ _ _ _ _ _ _ _=>p
def l:D→Tx | mk _ _ l _ _ _ _ _ _ _ _=>l
def a:D→Tx | mk _ _ _ a _ _ _ _ _ _ _=>a
def b:D→Tx | mk _ _ _ _ b _ _ _ _ _ _=>b
def subs:D→List E | mk _ _ _ _ _ s _ _ _ _ _=>s
def body:D→List D | mk _ _ _ _ _ _ s _ _ _ _=>s
def tail:D→List Tx | mk _ _ _ _ _ _ _ t _ _ _=>t
def lead:D→List Tx | mk _ _ _ _ _ _ _ _ l _ _=>l
def trail:D→Tx | mk _ _ _ _ _ _ _ _ _ t _=>t
def pos:D→Int | mk _ _ _ _ _ _ _ _ _ _ p=>p
end D
theorem yV9 {P:E→Prop}{Q:D→Prop}{P':List E→Prop}{Q':List D→Prop}
  (h1:∀ k t n a b subs decls tail pos,P' subs→Q' decls→P (.mk k t n a b subs decls tail pos))
  (h2:∀ k p l a b subs body tail lead trail pos,P' subs→Q' body→Q (.mk k p l a b subs body tail lead trail pos))
  (h3:P' [])(h4:∀ e l,P e→P' l→P' (e ::l))(h5:Q' [])(h6:∀ d l,Q d→Q' l→Q' (d ::l)) :
  (∀ e,P e)∧(∀ d,Q d)∧(∀ l,P' l)∧∀ l,Q' l:=
 ⟨fun e=>E.rec (motive_1:=P) (motive_2:=Q) (motive_3:=P') (motive_4:=Q') h1 h2 h3 h4 h5 h6 e,
  fun d=>D.rec (motive_1:=P) (motive_2:=Q) (motive_3:=P') (motive_4:=Q') h1 h2 h3 h4 h5 h6 d,
  fun l=>E.rec_1 (motive_1:=P) (motive_2:=Q) (motive_3:=P') (motive_4:=Q') h1 h2 h3 h4 h5 h6 l,
  fun l=>E.rec_2 (motive_1:=P) (motive_2:=Q) (motive_3:=P') (motive_4:=Q') h1 h2 h3 h4 h5 h6 l⟩
def zU8 (c:UInt8):Bool:=(decide (97≤c)&&decide (c≤122))||(decide (65≤c)&&decide (c≤90))
def yH0 (c:UInt8):Bool:=decide (48≤c)&&decide (c≤57)
def wordsI:List Tx:=[[110,117,108,108],[116,114,117,101],[102,97,108,115,101],[98,111,111,108],[105,110,116],[110,117,109,98,101,114],[115,116,114,105,110,103],[108,101,116],[105,102],[102,111,114],[105,110],[112,97,99,107,97,103,101],[105,109,112,111,114,116]]
def zO4:Tx→Tx
 | c ::s=>if c=35∨c=95 then s else c ::s
 | []=>[]
def yP3 (s:Tx):Bool:=s.all fun c=>zU8 c||yH0 c||decide (c=95)
def zY7 (s:Tx):Bool:=decide (s.length≤32)&& !decide (s∈wordsI)&&(match zO4 s with | []=>false | c ::r=>zU8 c&&yP3 (c ::r))
def zY2 (l:List Tx):Bool:=l.any fun s=>decide ((10:UInt8)∈s)
def yY7 (a b:Tx):Bool:=zY7 a&&zY7 b&& !decide (a=b)
def xZ1:List Tx:=[[110,117,108,108],[98,111,111,108],[105,110,116],[110,117,109,98,101,114],[115,116,114,105,110,103]]
def yP4:List Tx:=[[60],[60,61],[62],[62,61],[33,61],[61,126],[33,126]]
def yP5:List Tx:=[[45],[33]]
def zC2:List Tx:=[[43],[45],[42],[47],[37],[61,61],[33,61],[60],[60,61],[62],[62,61],[38,38],[124,124]]
def zM8:Tx:=[102,105,101,108,100]
def wLet:Tx:=[108,101,116]
def zC3:Tx:=[108,111,111,112]
def zT6:Tx:=[112,97,99,107,97,103,101]
def zT7:Tx:=[117,110,107,110,111,119,110]
def countP (k:Int)(m:Nat):Bool:=
 if k=9∨k=11∨k=18∨k=19 then decide (m=1)
 else if k=12∨k=16∨k=20 then decide (m=2)
 else if k=15 then decide (m=2∨m=3)
 else if k=5 then decide (1≤m)
 else if k=17 then decide (2≤m)
 else if k=14∨k=21 then true
 else decide (m=0)
def wordP (k:Int)(t:Tx):Bool:=
 if k=4∨k=11 then true
 else if k=8 then decide (t∈xZ1)
 else if k=9 then decide (t∈yP4)
 else if k=19 then decide (t∈yP5)
 else if k=20 then decide (t∈zC2)
 else if k=10∨k=21 then zY7 t
 else decide (t=[])
def xZ2 (k n:Int)(m:Nat):Bool:=
 if k=2 then decide (n=0∨n=1)
 else if k=14 then decide (n=0∨(n=1∧0 < m))
 else if k=3 then decide (0≤n∧n≤1000000000000000)
 else decide (n=0)
def refP (n:Int)(a b:Tx)(m:Nat):Bool:=
 if a=[] then decide (b=[])&&decide (n=0)&&decide (m=0)
 else decide (a=zM8∨a=wLet∨a=zC3∨a=zT6∨a=zT7)&&decide (b=[])&&decide (0≤n)&&decide (m=if a=wLet then 1 else 0)
def yU0 (k:Int)(t:Tx)(n:Int)(a b:Tx)(m m2:Nat)(tail:List Tx):Bool:=
 decide (1≤k∧k≤22)&&wordP k t&& !zY2 tail&&(decide (k=13∨k=22)||decide (m2=0∧tail=[])) &&
  (if k=10 then refP n a b m else countP k m&&xZ2 k n m&&(if k=15 then yY7 a b else decide (a=[]∧b=[])))
def yP6 (rx:Tx→Bool)(k p:Int)(l a b:Tx)(m m2:Nat)(tail lead:List Tx)(trail:Tx):Bool:=
 decide (1≤k∧k≤8)&& !zY2 lead&& !zY2 [trail]&& !zY2 tail&&decide (m=if k=7 then 2 else if k=8 then 0 else 1) &&
  (if k=1 then decide (1≤p∧p≤3) else decide (p=0))&&(decide (k=5∨k=6)||decide (m2=0∧tail=[])) &&
  (if k=6 then yY7 a b else decide (a=[]∧b=[])) &&
  (if k=1 then true else if k=2 then rx l else if k=4 then zY7 l else decide (l=[]))
mutual
def okE (rx:Tx→Bool):E→Bool→Bool→Bool→Bool
 | .mk k t n a b subs decls tail _,cj,mk,ea=>
   yU0 k t n a b subs.length decls.length tail&& !(decide (k=18)&& !mk)&& !(decide (k=15)&& !ea)&& !(decide (k=13)&& !cj)&& !(decide (k=22)&&cj) &&
    okEs rx (decide ((k=16∧cj=true)∨k=10)) (decide (k=17)) (decide (k=14)) (decide (n=0)) subs&&okDs rx (decide (k=13)) decls
def okEs (rx:Tx→Bool)(cj mk li la:Bool):List E→Bool
 | []=>true
 | e ::r=>okE rx e cj mk (li&&(la|| !r.isEmpty))&&okEs rx cj mk li la r
def okD (rx:Tx→Bool)(top:Bool):D→Bool
 | .mk k p l a b subs body tail lead trail _=>
   yP6 rx k p l a b subs.length body.length tail lead trail&&(top|| !(decide (k=4∨k=8)))&&okDs rx false body&&okDE rx (top&&decide (k=1∨k=2∨k=3∨k=4)) subs
def okDE (rx:Tx→Bool)(cj:Bool):List E→Bool
 | []=>true
 | e ::r=>okE rx e cj false false&&okDE rx cj r
def okDs (rx:Tx→Bool)(top:Bool):List D→Bool
 | []=>true
 | d ::r=>okD rx top d&&okDs rx top r
end
mutual
def dpE:E→Nat
 | .mk _ _ _ _ _ subs decls _ _=>max (dpEs subs) (dpDs decls)+1
def dpEs:List E→Nat
 | []=>0
 | e ::r=>max (dpE e) (dpEs r)
def dpD:D→Nat
 | .mk _ _ _ _ _ subs body _ _ _ _=>max (dpEs subs) (dpDs body)+1
def dpDs:List D→Nat
 | []=>0
 | d ::r=>max (dpD d) (dpDs r)
end
def okF (rx:Tx→Bool)(f:Fl):Bool:=(decide (f.pkg=[])||zY7 f.pkg)&& !zY2 f.tail&&okDs rx true f.decls&&f.imps.all fun x=>zY7 x.name
def errF (rx:Tx→Bool)(f:Fl):Int:=if okF rx f=false then 11 else if 16 < dpDs f.decls then 9 else 0
open Go.RowKit
structure BelowD (B:Nat)(w w':World):Prop extends Below B w w' where
 drawn:w.drawn≤w'.drawn
section
variable {B B':Nat}{a w w':World}
theorem BelowD.refl (B:Nat)(w:World):BelowD B w w:=⟨Below.refl B w,Nat.le_refl _⟩
theorem BelowD.trans (h:BelowD B a w)(k:BelowD B w w'):BelowD B a w':=⟨h.toBelow.trans k.toBelow,Nat.le_trans h.drawn k.drawn⟩
theorem BelowD.mono (h:BelowD B w w')(hB:B'≤B):BelowD B' w w':=⟨h.toBelow.mono hB,h.drawn⟩
theorem BelowD.drew (h:BelowD B a w):BelowD B a w.drew:=⟨h.toBelow.drew,Nat.le_succ_of_le h.drawn⟩
theorem BelowD.drewN (h:BelowD B a w)(n:Nat):BelowD B a (w.drewN n):=⟨⟨h.os,h.tape,h.output,h.size,h.block⟩,Nat.le_add_right_of_le h.drawn⟩
theorem BelowD.alloc (h:BelowD B a w)(hB:B≤w.heap.size)(o:Obj):BelowD B a (w.alloc o):=⟨h.toBelow.alloc hB o,h.drawn⟩
theorem BelowD.setCell (h:BelowD B a w){p:Addr}(hp:B≤p.block)(u:Value):BelowD B a (w.setCell p u):=⟨h.toBelow.setCell hp u,h.drawn⟩
end
def Sl {α:Type}(w:World)(B k:Nat)(enc:α→List Value)(A:Option Addr)(l:List α):Prop:=
 l=[]∨∃ b off,A=some ⟨b,off,none⟩∧b < B∧∀ (i:Nat) (h:i < l.length) (j:Nat) (v:Value),(enc l[i])[j]? = some v→w.cell? ⟨b,off+i*k+j,none⟩=some v
section
variable {α:Type}{w w':World}{B B' k:Nat}{enc:α→List Value}{A:Option Addr}{l:List α}
theorem Sl.nil_:Sl w B k enc A ([]:List α):=.inl rfl
theorem Sl.keep (h:Sl w B k enc A l)(hk:∀ p:Addr,p.block < B→w'.cell? p=w.cell? p):Sl w' B k enc A l:=by
 rcases h with h | ⟨b,off,e,hb,hc⟩
 ·exact .inl h
 ·exact .inr ⟨b,off,e,hb,fun i hi j v hv=>(hk _ hb).trans (hc i hi j v hv)⟩
theorem Sl.more (h:Sl w B k enc A l)(hB:B≤B'):Sl w B' k enc A l:=by
 rcases h with h | ⟨b,off,e,hb,hc⟩
 ·exact .inl h
 ·exact .inr ⟨b,off,e,Nat.lt_of_lt_of_le hb hB,hc⟩
theorem Sl.below (h:Sl w B k enc A l)(hb:Below B w w'):Sl w' B k enc A l:=h.keep fun _ hp=>hb.cell hp
theorem Sl.at_ (h:Sl w B k enc A l){i:Nat}(hi:i < l.length):∃ b off,A=some ⟨b,off,none⟩∧b < B∧∀ (j:Nat)(v:Value),(enc l[i])[j]? = some v→w.cell? ⟨b,off+i*k+j,none⟩=some v:=by
 rcases h with h | ⟨b,off,e,hb,hc⟩
 ·subst h;simp at hi
 ·exact⟨b,off,e,hb,hc i hi⟩
end
theorem yY8 {w w':World}{p:Addr}{v:Value}(hb:Below w.heap.size w w')(h:w.cell? p=some v)(hp:p.block < w.heap.size):w'.cell? p=some v:=(hb.cell hp).trans h
theorem zF3 {w:World}{p:Addr}{v:Value}(h:w.cell? p=some v):p.block < w.heap.size:=by
 rcases Nat.lt_or_ge p.block w.heap.size with hlt | hge
 ·exact hlt
 ·simp[World.cell?,Array.getElem?_eq_none hge] at h
theorem zY1 {w w':World}{p:Addr}{v:Value}(hb:Below w.heap.size w w')(h:w.cell? p=some v):w'.cell? p=some v:=(hb.cell (zF3 h)).trans h
theorem zL9 {a b:Bool}(h:a=b):Ending.returned (.bool a)=.returned (.bool b):=by rw[h]
def encS (s:List UInt8):List Value:=[.string ⟨s.toArray⟩]
theorem Sl.str {w:World}{B:Nat}{A:Option Addr}{l:List (List UInt8)}(h:Sl w B 1 encS A l){i:Nat}(hi:i < l.length) :
  ∃ b off,A=some ⟨b,off,none⟩∧b < B∧w.cell? ⟨b,off+i,none⟩=some (.string ⟨(l[i]).toArray⟩):=by
 obtain⟨b,off,e,hb,hc⟩:=h.at_ hi;exact⟨b,off,e,hb,by simpa using hc 0 _ rfl⟩
def ElT (P:Program)(t e size bytes:Nat):Prop:=
 P.underlying t=some (.slice e)∧0 < size∧∃ i z,P.info? e=some i∧i.zero=some z∧i.size=size∧i.bytes=bytes∧z.cells.size=size
theorem ElT.mk_ {P:Program}{t e size bytes:Nat}{z:Value}(h1:P.underlying t=some (.slice e))(h:(P.info? e).map (fun i=>(i.zero,i.size,i.bytes))=some (some z,size,bytes))
  (hz:z.cells.size=size)(h0:0 < size):ElT P t e size bytes:=by
 obtain⟨i,a,b,c,d⟩:=info_parts h;exact⟨h1,h0,i,z,a,b,c,d,hz⟩
def Acc (w:World)(base e size:Nat)(v:Value)(n:Nat)(xs:List Value):Prop:=
 w.ownsRow base e size v n xs∨(xs.length=n*size∧∃ g off,v=.slice (some ⟨g,off,none⟩) n n∧g < w.heap.size∧∀ j u,xs[j]? = some u→w.cell? ⟨g,off+j,none⟩=some u)
def Src (w:World)(size:Nat)(A:Option Addr)(m:Nat)(news:List Value):Prop:=
 news.length=m*size∧(0 < m→∃ ad,A=some ad∧∀ j u,news[j]? = some u→w.cell? (ad.add j)=some u)
theorem Acc.length {w:World}{base e size n:Nat}{v:Value}{xs:List Value}(h:Acc w base e size v n xs):xs.length=n*size:=by
 rcases h with h | h
 ·exact h.1
 ·exact h.1
theorem Acc.nil_ (w:World)(base e size:Nat):Acc w base e size (.slice none 0 0) 0 []:=.inl (World.ownsRow_nil _ _ _ _)
theorem Acc.kept {w w':World}{base e size n:Nat}{v:Value}{xs:List Value}{row:Option Nat}(h:Acc w base e size v n xs)(hg:w.grownBy w' row)(hne:v.ownBlock=none∨v.ownBlock≠row):Acc w' base e size v n xs:=by
 rcases h with h | ⟨hl,g,off,rfl,hlt,hc⟩
 ·exact .inl (h.kept hg hne)
 ·refine .inr ⟨hl,g,off,rfl,Nat.lt_of_lt_of_le hlt hg.size,fun j u hu=>hg.cell (hc j u hu) ?_⟩;rcases hne with hne | hne
  ·simp[Value.ownBlock] at hne
  ·simpa[Value.ownBlock] using hne
theorem Acc.below {w w':World}{base e size n:Nat}{v:Value}{xs:List Value}(h:Acc w base e size v n xs)(hb:Below w.heap.size w w'):Acc w' base e size v n xs:=
 h.kept (row:=none) ⟨hb.os,hb.tape,hb.output,hb.size,fun k hk _=>hb.block k hk⟩ (by rcases hv:v.ownBlock with _ | _ <;> simp)
theorem Acc.alloc {w:World}{base e size n:Nat}{v:Value}{xs:List Value}(h:Acc w base e size v n xs)(o:Obj):Acc (w.alloc o) base e size v n xs:=
 h.below (qH.alloc qJ _)
theorem Acc.drewN {w:World}{base e size n:Nat}{v:Value}{xs:List Value}(h:Acc w base e size v n xs)(k:Nat):Acc (w.drewN k) base e size v n xs:=h
theorem Acc.shape {w:World}{base e size n:Nat}{v:Value}{xs:List Value}(h:Acc w base e size v n xs):∃ A c,v=.slice A n c:=by
 rcases h with h | ⟨_,g,off,rfl,_⟩
 ·rcases h.2 with ⟨rfl,rfl⟩ | ⟨g,cap,cur,rfl,_⟩
  ·exact⟨_,_,rfl⟩
  ·exact⟨_,_,rfl⟩
 ·exact⟨_,_,rfl⟩
theorem Acc.cells {w:World}{base e size n:Nat}{v:Value}{xs:List Value}(h:Acc w base e size v n xs) :
  n=0∨∃ g off c,v=.slice (some ⟨g,off,none⟩) n c∧g < w.heap.size∧∀ j u,xs[j]? = some u→w.cell? ⟨g,off+j,none⟩=some u:=by
 rcases h with h | ⟨_,g,off,rfl,hlt,hc⟩
 ·have hk:=h;rcases h.2 with ⟨rfl,rfl⟩ | ⟨g,cap,cur,rfl,_,hh,_⟩
  ·exact .inl rfl
  ·refine .inr ⟨g,0,cap,rfl,?_,fun j u hu=>?_⟩
   ·rcases Nat.lt_or_ge g w.heap.size with hlt | hge
    ·exact hlt
    ·rw[Array.getElem?_eq_none hge] at hh;cases hh
   ·have hj:j < n*size:=by rw[←hk.1];exact(List.getElem?_eq_some_iff.1 hu).1
    rw[Nat.zero_add,hk.cellAt j hj];exact hu
 ·exact .inr ⟨g,off,n,rfl,hlt,hc⟩
theorem Acc.marked (w:World)(cs:Array Value)(base e size n:Nat)(f:Nat × Nat)(h:cs.size=n*size):Acc (w.alloc (.cells cs e f)) base e size (.slice (some ⟨w.heap.size,0,none⟩) n n) n cs.toList:=
 .inr ⟨by simpa using h,w.heap.size,0,rfl,by simp,fun j u hu=>by
  have:cs[j]? = some u:=by simpa using hu
  rw[Nat.zero_add,World.cell?_alloc_mark,this]⟩
def u8s (l:List UInt8):List Value:=l.map fun c=>.int .u8 c.toNat
theorem Acc.str {P:Program}{w:World}{base e n c:Nat}{A:Option Addr}{l:List UInt8}(src dst:TypeId)(h:Acc w base e 1 (.slice A n c) n (u8s l))(hs:P.underlying src=some (.slice e))(he:P.underlying e=some (.int .u8))(hd:P.underlying dst=some .string) :
  (convert src dst (.slice A n c)).run P w=.ok (.string ⟨l.toArray⟩) w:=by
 have hl:l.length=n:=by simpa[u8s] using h.length
 rcases h.cells with rfl | ⟨g,off,c',hv,_,hc⟩
 ·obtain rfl:l=[]:=List.eq_nil_of_length_eq_zero hl;rw[run_convert_bytes_string w src dst e A 0 c hs he hd];rcases A with _ | ad
  ·simp[Conv.bytesToString];rfl
  ·rw[run_bytesToString w ad 0 c [] (by simp[loadCells,loadCellsFrom])];rfl
 ·injection hv with h1 h2 h3
  subst h1 h3;subst hl;exact run_convert_bytes_back w src dst e ⟨g,off,none⟩ c l hs he hd (fun j hj=>by
   rw[Addr.add_lit];exact hc j _ (by simp[u8s,hj]))
def strs (l:List (List UInt8)):List Value:=l.map fun s=>.string ⟨s.toArray⟩
theorem Acc.strs_ {w:World}{base e n c:Nat}{A:Option Addr}{l:List (List UInt8)}(h:Acc w base e 1 (.slice A n c) n (strs l)):n=l.length∧Sl w w.heap.size 1 encS A l:=by
 have hl:l.length=n:=by simpa[strs] using h.length
 refine⟨hl.symm,?_⟩;rcases h.cells with h0 | ⟨g,off,c',hv,hlt,hc⟩
 ·exact vW
 ·injection hv with h1 h2 h3
  subst h1;refine .inr ⟨g,off,rfl,hlt,fun i hi j v hv=>?_⟩;match j,hv with
  | 0,hv=>
    simp[encS] at hv;subst hv;have:=hc i (.string ⟨(l[i]).toArray⟩) (by simp[strs,hi]);simpa using this
theorem Src.lit (w:World)(size e:Nat)(cs:Array Value)(m:Nat)(h:cs.size=m*size):Src (w.alloc (.cells cs e)) size (some ⟨w.heap.size,0,none⟩) m cs.toList:=
 ⟨by simpa using h,fun _=>⟨_,rfl,fun j u hu=>by
  rw[Addr.add_lit,Nat.zero_add];simp only[World.cell?,heap_alloc_new];have hj:=(List.getElem?_eq_some_iff.1 hu).1;have:cs[j]? = some u:=by simpa using hu
  simpa using this⟩⟩
theorem World.grownBy_none_any {w w':World}{row:Option Nat}(h:w.grownBy w' none):w.grownBy w' row:=⟨h.os,h.tape,h.output,h.size,fun k hk _=>h.block k hk (by simp)⟩
section
variable {P:Program}(w:World)
theorem run_app (base t ty e size bytes:Nat)(hT:ElT P t e size bytes)(v:Value)(n:Nat)(xs:List Value)(hacc:Acc w base e size v n xs)
  (A:Option Addr)(m c:Nat)(news:List Value)(hsrc:Src w size A m news)(h1:∀ u∈news,u.oneCell'=true)
  (h63:n+m≤maxLen)(hbytes:(n+m)*bytes≤140737488355328)(hbase:base≤w.heap.size) :
  ∃ v' w',(Builtin.append_ #[t,t] ty #[v,.slice A m c]).run P w=.ok v' w'∧Acc w' base e size v' (n+m) (xs++news)∧w.grownBy w' v.ownBlock∧Below base w w'∧
    (v'=.slice none 0 0↔v=.slice none 0 0∧m=0)∧(v'.ownBlock=v.ownBlock∨∃ g,v'.ownBlock=some g∧w.heap.size≤g):=by
 obtain⟨ht,hsz,i,z,hi,hz,hs,hby,hzs⟩:=hT;rcases Nat.eq_zero_or_pos m with rfl | hm
 ·have hn:news=[]:=List.eq_nil_of_length_eq_zero (by simpa using hsrc.1);subst hn;have hrun:(Builtin.append_ #[t,t] ty #[v,.slice A 0 c]).run P w=.ok v w:=by
   rcases hacc with hown | ⟨_,g,off,rfl,_,_⟩
   ·rcases hown.2 with ⟨rfl,rfl⟩ | ⟨g,cap,cur,rfl,_,_,hnc,_⟩
    ·rcases A with _ | ad <;> simp[Builtin.append_,run_underlying ht,sizeOf,typeInfo,hi,Builtin.lenOf,Builtin.firstCells,loadCells,loadCellsFrom]
    ·rcases A with _ | ad <;> simp[Builtin.append_,run_underlying ht,sizeOf,typeInfo,hi,Builtin.lenOf,Builtin.firstCells,loadCells,loadCellsFrom,hnc,storeCells]
   ·rcases A with _ | ad <;> simp[Builtin.append_,run_underlying ht,sizeOf,typeInfo,hi,Builtin.lenOf,Builtin.firstCells,loadCells,loadCellsFrom,storeCells]
  exact⟨v,w,hrun,by simpa using hacc,World.grownBy.refl w _,Below.refl _ _,by simp,.inl rfl⟩
 ·obtain⟨ad,rfl,hc⟩:=hsrc.2 hm;rcases hacc with hown | ⟨hl,g,off,rfl,hlt,hcs⟩
  ·obtain⟨v',w',hr,h2,h3,h4,h5⟩:=run_append_own_at (P:=P) w base t ty e i z size bytes ht hi hz hs hby hzs hsz v n xs hown ad m c news hsrc.1 hc h1 h63 hbytes hbase;refine⟨v',w',hr,.inl h2,h3,qH.grown h3 hbase (fun k hk=>(hown.lt k hk).1),h4,?_⟩;rcases h5 with h5 | h5
   ·exact .inl h5
   ·exact .inr ⟨_,h5,Nat.le_refl _⟩
  ·obtain⟨v',w',hr,r1,r2⟩:=run_append_arg_grows (P:=P) w t ty e i z size bytes ht hi hz hs hby hzs hsz ⟨g,off,none⟩ n n xs hl (fun j u hj=>by rw[Addr.add_lit];exact hcs j u hj) ad m c news hsrc.1 hc qG h63 hbytes;refine⟨v',w',hr,.inl ⟨r1.1,?_⟩,World.grownBy_none_any r2,qH.grown r2 hbase (by simp),?_,?_⟩
   ·rcases r1.2 with h | ⟨g',cap,cur,e1,e2,e3⟩
    ·exact .inl h
    ·exact .inr ⟨g',cap,cur,e1,Nat.le_trans hbase e2,e3⟩
   ·rcases r1.2 with ⟨_,h⟩ | ⟨g',cap,cur,rfl,_⟩
    ·omega
    ·simp
   ·rcases r1.2 with ⟨_,h⟩ | ⟨g',cap,cur,rfl,e2,_⟩
    ·omega
    ·exact .inr ⟨g',rfl,e2⟩
theorem wp_app {o:Oper}{a:Act}{K:Act→World→Prop}{Q:Exit→Act→World→Prop}(s x:Operand)(t:TypeId)
  (ho:o.op=.call {callee:=.builtin .append,args:=#[s,x],argTypes:=#[t,t]})
  (base e size bytes:Nat)(hT:ElT P t e size bytes)(v:Value)(n:Nat)(xs:List Value)(hs:a.eval s=v)(hacc:Acc w base e size v n xs)
  (A:Option Addr)(m c:Nat)(news:List Value)(hx:a.eval x=.slice A m c)(hsrc:Src w size A m news)(h1:∀ u∈news,u.oneCell'=true)
  (h63:n+m≤maxLen)(hbytes:(n+m)*bytes≤140737488355328)(hbase:base≤w.heap.size)
  (h:∀ v' w',Acc w' base e size v' (n+m) (xs++news)→w.grownBy w' v.ownBlock→Below base w w'→(v'=.slice none 0 0↔v=.slice none 0 0∧m=0)→
   (v'.ownBlock=v.ownBlock∨∃ g,v'.ownBlock=some g∧w.heap.size≤g)→K (a.put o.dst v') w'):o.wp P a w K Q:=by
 obtain⟨v',w',hrun,h2,h3,h4,h5,h6⟩:=run_app (P:=P) w base t o.type e size bytes hT v n xs hacc A m c news hsrc h1 h63 hbytes hbase;unfold Oper.wp execOp;simp only[ho,resolve,invoke,builtin,Sem.run_bind,Sem.run_pure,Result.andThen_ok,List.map_toArray,List.map_cons,List.map_nil,hs,hx,hrun];exact h v' w' h2 h3 h4 h5 h6
theorem zT3 {ops:Array Oper}{rest:List Oper}{o:Oper}{a:Act}{Q:Exit→Act→World→Prop}(hgd:o.guard=none)(s x:Operand)(t:TypeId)
  (ho:o.op=.call {callee:=.builtin .append,args:=#[s,x],argTypes:=#[t,t]})
  (base e size bytes:Nat)(hT:ElT P t e size bytes)(v:Value)(n:Nat)(xs:List Value)(hs:a.eval s=v)(hacc:Acc w base e size v n xs)
  (A:Option Addr)(m c:Nat)(news:List Value)(hx:a.eval x=.slice A m c)(hsrc:Src w size A m news)(h1:∀ u∈news,u.oneCell'=true)
  (h63:n+m≤maxLen)(hbytes:(n+m)*bytes≤140737488355328)(hbase:base≤w.heap.size)
  (h:∀ v' w',Acc w' base e size v' (n+m) (xs++news)→w.grownBy w' v.ownBlock→Below base w w'→(v'=.slice none 0 0↔v=.slice none 0 0∧m=0)→
   (v'.ownBlock=v.ownBlock∨∃ g,v'.ownBlock=some g∧w.heap.size≤g)→wpList P ops Q rest (a.put o.dst v') w'):wpList P ops Q (o ::rest) a w:=
 wpList_plain hgd fun _ hK=>wp_app w s x t ho base e size bytes hT v n xs hs hacc A m c news hx hsrc h1 h63 hbytes hbase fun v' w' h2 h3 h4 h5 h6=>hK _ _ (h v' w' h2 h3 h4 h5 h6)
end
theorem zF4 {α:Type}{enc:α→List Value}{k:Nat}(hk:∀ x,(enc x).length=k):∀ (l:List α)(i:Nat)(hi:i < l.length)(j:Nat),j < k→(l.flatMap enc)[i*k+j]? = (enc l[i])[j]?
 | [],i,hi,_,_=>by simp at hi
 | x ::l,0,_,j,hj=>by
   simp only[List.flatMap_cons,Nat.zero_mul,Nat.zero_add];rw[List.getElem?_append_left (by rw[hk];exact hj)];rfl
 | x ::l,i+1,hi,j,hj=>by
   simp only[List.flatMap_cons];have e:(i+1)*k+j=(enc x).length+(i*k+j):=by rw[hk,Nat.succ_mul];omega
   rw[e,List.getElem?_append_right qG,Nat.add_sub_cancel_left,zF4 hk l i (by simpa using hi) j hj];rfl
theorem zH2 {α:Type}{enc:α→List Value}{k:Nat}(hk:∀ x,(enc x).length=k)(l:List α):(l.flatMap enc).length=l.length*k:=by
 induction l with
 | nil=>simp
 | cons x l ih=>simp only[List.flatMap_cons,List.length_append,List.length_cons,hk,ih,Nat.succ_mul];omega
theorem yY9 {n m k:Nat}(h:n < m*k):n / k < m∧n % k < k∧n=(n / k)*k+n % k:=by
 have hk:0 < k:=by
  rcases Nat.eq_zero_or_pos k with h0 | h0
  ·subst h0;simp at h
  ·exact h0
 refine⟨Nat.div_lt_of_lt_mul (by rw[Nat.mul_comm];exact h),Nat.mod_lt _ hk,?_⟩;rw[Nat.mul_comm];exact(Nat.div_add_mod n k).symm
section
variable {α:Type}{w:World}{B k base e n c:Nat}{enc:α→List Value}{A:Option Addr}{l:List α}
theorem Sl.src (h:Sl w B k enc A l)(hk:∀ x,(enc x).length=k):Src w k A l.length (l.flatMap enc):=by
 refine⟨zH2 hk l,fun hpos=>?_⟩;rcases h with rfl | ⟨b,off,rfl,_,hc⟩
 ·simp at hpos
 ·refine⟨_,rfl,fun j u hu=>?_⟩;have hj:j < l.length*k:=by rw[←zH2 hk l];exact(List.getElem?_eq_some_iff.1 hu).1
  obtain⟨h1,h2,h3⟩:=yY9 hj;rw[Addr.add_lit];rw[h3,zF4 hk l _ h1 _ h2] at hu;have:=hc _ h1 _ _ hu;rw[Nat.add_assoc,←h3] at this;exact this
theorem Acc.sl (h:Acc w base e k (.slice A n c) n (l.flatMap enc))(hk:∀ x,(enc x).length=k)(h0:0 < k):n=l.length∧Sl w w.heap.size k enc A l:=by
 have hl:l.length=n:=by
  have:=h.length;rw[zH2 hk] at this;exact Nat.eq_of_mul_eq_mul_right h0 this
 refine⟨hl.symm,?_⟩;rcases h.cells with h0' | ⟨g,off,c',hv,hlt,hc⟩
 ·exact vW
 ·injection hv with h1 h2 h3
  subst h1;refine .inr ⟨g,off,rfl,hlt,fun i hi j v hv=>?_⟩;have hj:j < k:=by rw[←hk l[i]];exact(List.getElem?_eq_some_iff.1 hv).1
  have:=hc (i*k+j) v (by rw[zF4 hk l i hi j hj];exact hv);rw[Nat.add_assoc];exact this
end
def Blk (w:World)(g:Nat)(t:TypeId)(cs:Array Value):Prop:=w.heap[g]? = some (.cells cs t (0,0))
section
variable {w w':World}{g:Nat}{t:TypeId}{cs:Array Value}
theorem Blk.lt (h:Blk w g t cs):g < w.heap.size:=by
 rcases Nat.lt_or_ge g w.heap.size with hlt | hge
 ·exact hlt
 ·unfold Blk at h;rw[Array.getElem?_eq_none hge] at h;cases h
theorem Blk.cell (h:Blk w g t cs)(i:Nat):w.cell? ⟨g,i,none⟩=cs[i]?:=cell_of_row w g i cs t (0,0) h
theorem Blk.free (h:Blk w g t cs)(i:Nat):w.frozen? ⟨g,i,none⟩=false:=by
 unfold Blk at h;simp[World.frozen?,h]
theorem Blk.keep (h:Blk w g t cs)(hb:Below w.heap.size w w'):Blk w' g t cs:=(hb.block g h.lt).trans h
theorem Blk.new (w:World)(t:TypeId)(cs:Array Value):Blk (w.alloc (.cells cs t)) w.heap.size t cs:=heap_alloc_new w _
theorem Blk.set_ (h:Blk w g t cs)(i:Nat)(u:Value):Blk (w.setCell ⟨g,i,none⟩ u) g t (cs.setIfInBounds i u):=by
 unfold Blk at h ⊢;simp[World.setCell,Array.getElem?_modify,h]
theorem Blk.far (h:Blk w g t cs){p:Addr}(hp:g≠p.block)(u:Value):Blk (w.setCell p u) g t cs:=(Below.heap_setCell w p u g hp).trans h
theorem Blk.grown {row:Option Nat}(h:Blk w g t cs)(hg:w.grownBy w' row)(hne:some g≠row):Blk w' g t cs:=(hg.block g h.lt hne).trans h
theorem Blk.alloc (h:Blk w g t cs)(o:Obj):Blk (w.alloc o) g t cs:=h.keep (qH.alloc qJ _)
theorem Blk.inj {t':TypeId}{cs':Array Value}(h:Blk w g t cs)(h':Blk w g t' cs'):t=t'∧cs=cs':=by
 unfold Blk at h h';rw[h] at h';injection h' with h'
 injection h' with h1 h2
 exact⟨h2,h1⟩
end
structure Kp (M:Nat→Prop)(w w':World):Prop where
 os:w'.os=w.os
 tape:w'.tape=w.tape
 output:w'.output=w.output
 size:w.heap.size≤w'.heap.size
 block:∀ k,k < w.heap.size→¬ M k→w'.heap[k]? = w.heap[k]?
section
variable {M M':Nat→Prop}{a w w':World}
theorem Kp.refl (M:Nat→Prop)(w:World):Kp M w w:=⟨rfl,rfl,rfl,Nat.le_refl _,fun _ _ _=>rfl⟩
theorem Kp.trans (h:Kp M a w)(k:Kp M w w'):Kp M a w':=
 ⟨k.os.trans h.os,k.tape.trans h.tape,k.output.trans h.output,Nat.le_trans h.size k.size,fun i hi hM=>(k.block i (Nat.lt_of_lt_of_le hi h.size) hM).trans (h.block i hi hM)⟩
theorem Kp.trans2 (h:Kp M a w)(k:Kp M' w w')(hM:∀ i,i < a.heap.size→M' i→M i):Kp M a w':=
 ⟨k.os.trans h.os,k.tape.trans h.tape,k.output.trans h.output,Nat.le_trans h.size k.size,fun i hi hn=>(k.block i (Nat.lt_of_lt_of_le hi h.size) fun hc=>hn (hM i hi hc)).trans (h.block i hi hn)⟩
theorem Kp.mono (h:Kp M w w')(hM:∀ i,M i→M' i):Kp M' w w':=⟨h.os,h.tape,h.output,h.size,fun i hi hn=>h.block i hi fun hc=>hn (hM i hc)⟩
theorem Kp.alloc (h:Kp M a w)(o:Obj):Kp M a (w.alloc o):=h.trans ⟨rfl,rfl,rfl,by simp,fun k hk _=>Below.heap_alloc _ _ _ hk⟩
theorem Kp.drewN (h:Kp M a w)(n:Nat):Kp M a (w.drewN n):=⟨h.os,h.tape,h.output,h.size,h.block⟩
theorem Kp.drew (h:Kp M a w):Kp M a w.drew:=⟨h.os,h.tape,h.output,h.size,h.block⟩
theorem Kp.setCell (h:Kp M a w){p:Addr}(hp:M p.block)(u:Value):Kp M a (w.setCell p u):=
 h.trans ⟨rfl,rfl,rfl,by simp[World.setCell],fun k _ hn=>Below.heap_setCell _ _ _ _ (fun e=>hn (e▸hp))⟩
theorem Kp.setNew (h:Kp M a w){p:Addr}(hp:a.heap.size≤p.block)(u:Value):Kp M a (w.setCell p u):=
 ⟨h.os,h.tape,h.output,by simpa[World.setCell] using h.size,fun k hk hn=>(Below.heap_setCell _ _ _ _ qG).trans (h.block k hk hn)⟩
theorem Kp.grown {row:Option Nat}(h:Kp M a w)(hg:w.grownBy w' row)(hr:∀ k,row=some k→M k∨a.heap.size≤k):Kp M a w':=
 ⟨hg.os.trans h.os,hg.tape.trans h.tape,hg.output.trans h.output,Nat.le_trans h.size hg.size,fun k hk hn=>
  (hg.block k (Nat.lt_of_lt_of_le hk h.size) fun e=>by rcases hr k e.symm with h1 | h1;exact hn h1;omega).trans (h.block k hk hn)⟩
theorem Kp.ofBelow (h:Below w.heap.size w w')(M:Nat→Prop):Kp M w w':=⟨h.os,h.tape,h.output,h.size,fun k hk _=>h.block k hk⟩
theorem Kp.below (h:Kp M a w)(k:Below w.heap.size w w'):Kp M a w':=h.trans (Kp.ofBelow k M)
theorem Kp.toBelow {B:Nat}(h:Kp M w w')(hB:B≤w.heap.size)(hM:∀ i,i < B→¬ M i):Below B w w':=⟨h.os,h.tape,h.output,h.size,fun k hk=>h.block k qG (hM k hk)⟩
theorem Kp.cell (h:Kp M w w'){p:Addr}(hp:p.block < w.heap.size)(hn:¬ M p.block):w'.cell? p=w.cell? p:=World.cell?_of_block (w:=w) (h.block p.block hp hn)
theorem Kp.frozen (h:Kp M w w'){p:Addr}(hp:p.block < w.heap.size)(hn:¬ M p.block):w'.frozen? p=w.frozen? p:=World.frozen?_of_block (w:=w) (h.block p.block hp hn)
theorem Kp.blk {g:Nat}{t:TypeId}{cs:Array Value}(h:Kp M w w')(hb:Blk w g t cs)(hn:¬ M g):Blk w' g t cs:=(h.block g hb.lt hn).trans hb
theorem Kp.sl {α:Type}{B k:Nat}{enc:α→List Value}{A:Option Addr}{l:List α}(h:Kp M w w')(hs:Sl w B k enc A l)(hB:B≤w.heap.size)(hn:∀ b,A.map (·.block)=some b→¬ M b):Sl w' B k enc A l:=by
 rcases hs with hs | ⟨b,off,rfl,hb,hc⟩
 ·exact .inl hs
 ·exact .inr ⟨b,off,rfl,hb,fun i hi j v hv=>(h.cell (p:=⟨b,_,none⟩) (by show b < _;omega) (hn b rfl)).trans (hc i hi j v hv)⟩
end
def RetIx (q:Prop)(w:World)(e:Ending)(w':World):Prop:=∃ i:Int,(0≤i↔q)∧e=.returned (.int .i64 i)∧w=w'
set_option maxHeartbeats 1000000 in
theorem yD1 (A:Option Addr)(c:Nat)(l:List Tx)(s:Tx)(w:World)(hA:Sl w w.heap.size 1 encS A l)(hl:l.length≤1099511627776) :
  Calls Tryz.prog 166 #[.slice A l.length c,.string ⟨s.toArray⟩] w (RetIx (s∈l) w):=by
 have HA:=qK hA;clear hA;go_enter Tryz.func166,Tryz.ntmps166
 go_wp2
 go_loop [8] (fun i=>∃ k:Nat,k≤l.length∧i=.int .i64 (k:Nat)∧Hid (s∉l.take k)) (fun i=>l.length-(intOf i).toNat)
 case atStart=>exact⟨0,Nat.zero_le _,rfl,qK (by simp)⟩
 case round=>exact vE
theorem zC4 (A:Option Addr)(c:Nat)(l:List Tx)(s:Tx)(w:World)(hA:Sl w w.heap.size 1 encS A l)(hl:l.length≤1099511627776) :
  Calls Tryz.prog 135 #[.slice A l.length c,.string ⟨s.toArray⟩] w fun e w'=>e=.returned (.bool (decide (s∈l)))∧w=w':=by
 have cI:=yD1 A c l s w hA hl;clear hA;go_enter Tryz.func135,Tryz.ntmps135
 go_wp2_with fail
 refine cI.mono ?_;rintro e w1 ⟨i,hi,rfl,rfl⟩;have HI:=qK hi;clear hi cI;go_wp2;go_ret;exact⟨zL9 (by rw[decide_eq_decide];exact HI.out),rfl⟩
def yU1 (b:Bool):List Value:=[.bool b]
set_option maxHeartbeats 1000000 in
theorem yD2 (A:Option Addr)(c:Nat)(l:List Bool)(s:Bool)(w:World)(hA:Sl w w.heap.size 1 yU1 A l)(hl:l.length≤1099511627776) :
  Calls Tryz.prog 165 #[.slice A l.length c,.bool s] w (RetIx (s∈l) w):=by
 have HA:=qK hA;clear hA;go_enter Tryz.func165,Tryz.ntmps165
 go_wp2
 go_loop [8] (fun i=>∃ k:Nat,k≤l.length∧i=.int .i64 (k:Nat)∧Hid (s∉l.take k)) (fun i=>l.length-(intOf i).toNat)
 case atStart=>exact⟨0,Nat.zero_le _,rfl,qK (by simp)⟩
 case round=>exact vE
theorem xZ3 (A:Option Addr)(c:Nat)(l:List Bool)(s:Bool)(w:World)(hA:Sl w w.heap.size 1 yU1 A l)(hl:l.length≤1099511627776) :
  Calls Tryz.prog 134 #[.slice A l.length c,.bool s] w fun e w'=>e=.returned (.bool (decide (s∈l)))∧w=w':=by
 have cI:=yD2 A c l s w hA hl;clear hA;go_enter Tryz.func134,Tryz.ntmps134
 go_wp2_with fail
 refine cI.mono ?_;rintro e w1 ⟨i,hi,rfl,rfl⟩;have HI:=qK hi;clear hi cI;go_wp2;go_ret;exact⟨zL9 (by rw[decide_eq_decide];exact HI.out),rfl⟩
theorem yK1 (c:UInt8):zU8 c=((decide ((97:Int)≤c.toNat)&&decide ((c.toNat:Int)≤122))||(decide ((65:Int)≤c.toNat)&&decide ((c.toNat:Int)≤90))):=by
 unfold zU8;simp only[UInt8.le_iff_toNat_le];rw[Bool.eq_iff_iff];simp;omega
theorem zK0 (c:UInt8)(w:World):Calls Tryz.prog 136 #[.int .u8 (c.toNat:Nat)] w fun e w'=>e=.returned (.bool (zU8 c))∧w=w':=by
 have HL:=qK (yK1 c);go_enter Tryz.func136,Tryz.ntmps136
 go_wp2;all_goals
  go_ret;exact⟨zL9 (by rw[HL.out];simp[*];try omega),rfl⟩
theorem Blk.sl {α:Type}{enc:α→List Value}{w:World}{g k:Nat}{t:TypeId}{cs:Array Value}(h:Blk w g t cs)(hk:∀ x,(enc x).length=k)(l:List α)(he:cs.toList=l.flatMap enc):Sl w w.heap.size k enc (some ⟨g,0,none⟩) l:=by
 refine .inr ⟨g,0,rfl,h.lt,fun i hi j v hv=>?_⟩;have hj:j < k:=by rw[←hk l[i]];exact(List.getElem?_eq_some_iff.1 hv).1
 have h1:=zF4 hk l i hi j hj;rw[hv,←he] at h1;have h2:=h.cell (i*k+j);rw[←Array.getElem?_toList,h1] at h2;simpa using h2
def yK2 (c:UInt8):Bool:=zU8 c||yH0 c||decide (c=95)
theorem yD3 (c:UInt8):yH0 c=(decide ((48:Int)≤c.toNat)&&decide ((c.toNat:Int)≤57)):=by
 unfold yH0;simp only[UInt8.le_iff_toNat_le];rw[Bool.eq_iff_iff];simp;omega
theorem zC5 (c:UInt8)(n:Nat)(h:n < 256):(c=UInt8.ofNat n)↔(c.toNat:Int)=(n:Int):=by
 constructor
 ·rintro rfl;simp;omega
 ·intro e;apply UInt8.toNat_inj.1;have:c.toNat=n:=by omega
  rw[this];simp;omega
theorem yU2 (p:UInt8→Bool)(l:Tx)(k:Nat)(h:k < l.length):(l.take (k+1)).all p=((l.take k).all p&&p l[k]):=by
 rw[List.take_succ_eq_append_getElem h,List.all_append];simp
theorem yP7 {p:UInt8→Bool}{l:Tx}{k:Nat}(h:k < l.length)(hp:p l[k]=false):l.all p=false:=by
 rw[List.all_eq_false];exact⟨_,List.getElem_mem h,by simp[hp]⟩
theorem xZ4 (c:UInt8):yK2 c=(zU8 c||(decide ((48:Int)≤c.toNat)&&decide ((c.toNat:Int)≤57))||decide ((c.toNat:Int)=95)):=by
 unfold yK2;rw[yD3];have:=zC5 c 95 (by decide);congr 1;rw[decide_eq_decide];exact this
def restP (q:Tx):Bool:=match q with | []=>false | c ::r=>zU8 c&&yP3 (c ::r)
theorem yP8 {q:Tx}(h:0 < q.length):restP q=(zU8 q[0]&&q.all yK2):=by
 cases q with
 | nil=>simp at h
 | cons c r=>rfl
theorem zK9 (c:UInt8)(r:Tx):zO4 (c ::r)=if c=35∨c=95 then r else c ::r:=rfl
set_option maxHeartbeats 4000000 in
theorem zW1 (s:Tx)(w:World)(hs:s.length≤maxLen) :
  Calls Tryz.prog 96 #[.string ⟨s.toArray⟩] w fun e w'=>e=.returned (.bool (zY7 s))∧Below w.heap.size w w':=by
 unfold maxLen at hs;have HW:=qK (show Below w.heap.size w (w.alloc (.cells (wordsI.map fun s=>Value.string ⟨s.toArray⟩).toArray 9)) from qH.alloc qJ _);have cC:=zC4 (some ⟨w.heap.size,0,none⟩) 13 wordsI s (w.alloc (.cells (wordsI.map fun s=>Value.string ⟨s.toArray⟩).toArray 9)) ((Blk.new w 9 (wordsI.map fun s=>Value.string ⟨s.toArray⟩).toArray).sl (enc:=encS) (fun _=>rfl) wordsI (by rfl)) (by decide);have HI:=qK (show zY7 s=(decide (s.length≤32)&& !decide (s∈wordsI)&&restP (zO4 s)) from rfl);unfold wordsI at HW;simp only[wordsI,List.map_cons,List.map_nil,List.length_cons,List.length_nil,Nat.zero_add,Nat.reduceAdd] at cC;by_cases h1:s.length≤32
 rotate_left
 ·have h1':¬ (s.length:Int)≤32:=by omega
  have HF:=qK (show zY7 s=false from by rw[HI.out,decide_eq_false h1];rfl);clear HI h1;go_enter Tryz.func96,Tryz.ntmps96
  go_wp2;go_ret;exact⟨by rw[HF.out];rfl,HW.out⟩
 have h1':(s.length:Int)≤32:=by omega
 by_cases h2:s∈wordsI
 ·have HF:=qK (show zY7 s=false from by rw[HI.out,decide_eq_true h2,Bool.not_true,Bool.and_false];rfl);have h2':decide (s∈wordsI)=true:=decide_eq_true h2;simp only[wordsI] at h2';rw[h2'] at cC;have CC:=qK cC;clear HI h1 h2 h2' cC;go_enter Tryz.func96,Tryz.ntmps96
  go_wp2_with fail
  refine CC.out.mono ?_;rintro e w1 ⟨rfl,rfl⟩;go_wp2;go_ret;exact⟨by rw[HF.out];rfl,HW.out⟩
 have h2':decide (s∈wordsI)=false:=decide_eq_false h2;have HF:=qK (show zY7 s=restP (zO4 s) from by rw[HI.out,decide_eq_true h1,h2'];rfl);simp only[wordsI] at h2';rw[h2'] at cC;have CC:=qK cC;clear HI h1 h2 h2' cC;by_cases hz:0 < s.length
 rotate_left
 ·obtain rfl:s=[]:=List.eq_nil_of_length_eq_zero qG;go_enter Tryz.func96,Tryz.ntmps96
  go_wp2_with fail
  refine CC.out.mono ?_;rintro e w1 ⟨rfl,rfl⟩;go_wp2;go_ret;exact⟨by rw[HF.out];rfl,HW.out⟩
 have hz':(0:Int) < s.length:=by omega
 by_cases hh:s[0]=35∨s[0]=95
 ·obtain⟨c,r,rfl⟩:∃ c r,s=c ::r:=by
   cases s with
   | nil=>simp at hz
   | cons c r=>exact⟨c,r,rfl⟩
  have hex:({data:=(c ::r).toArray}:ByteArray).extract 1 (r.length+1)=⟨r.toArray⟩:=by rw[ByteArray.extract_mk];simp
  have hh':c=35∨c=95:=hh;have HQ:=qK (show zO4 (c ::r)=r by rw[zK9,if_pos hh']);have hr:(r.length:Int)≤31:=by simp at h1';omega
  have HEX:=qK hex;clear hex hh hz hz';have ht1:c=35∨((({data:=(c ::r).toArray}:ByteArray)[0]'(by simp[ByteArray.size])).toNat:Int)=95:=by
   rcases hh' with rfl | rfl
   ·exact .inl rfl
   ·exact .inr rfl
  have ht2:((({data:=(c ::r).toArray}:ByteArray)[0]'(by simp[ByteArray.size])).toNat:Int)=35∨c=95:=by
   rcases hh' with rfl | rfl
   ·exact .inl rfl
   ·exact .inr rfl
  have hd:((({data:=(c ::r).toArray}:ByteArray)[0]'(by simp[ByteArray.size])).toNat:Int)=35∨((({data:=(c ::r).toArray}:ByteArray)[0]'(by simp[ByteArray.size])).toNat:Int)=95:=by
   rcases hh' with rfl | rfl
   ·exact .inl rfl
   ·exact .inr rfl
  clear ht1 ht2 hh';rcases hd with hd | hd
  all_goals
   go_enter Tryz.func96,Tryz.ntmps96
   go_wp2_with fail
   refine CC.out.mono ?_;rintro e w1 ⟨rfl,rfl⟩;go_upto_region 6 with fail
   rw[HEX.out];clear h1' hs CC hd;obtain⟨q,hq⟩:∃ q,q=r:=⟨_,rfl⟩;subst hq;by_cases h0:0 < q.length
   rotate_left
   ·exact xI
   have HP:=qK (yP8 h0);have hq0:0 < q.length:=h0;have hb0:(0:Int) < q.length:=by omega
   have hne:((q.length:Int) == 0)=false:=by simp only[beq_eq_false_iff_ne,ne_eq];omega
   cases hl0:zU8 (({data:=q.toArray}:ByteArray)[0])
   ·exact vH
   have cL:=zK0 (({data:=q.toArray}:ByteArray)[0]) (w.alloc (.cells #[.string ⟨#[110,117,108,108]⟩,.string ⟨#[116,114,117,101]⟩,.string ⟨#[102,97,108,115,101]⟩,.string ⟨#[98,111,111,108]⟩,.string ⟨#[105,110,116]⟩,.string ⟨#[110,117,109,98,101,114]⟩,.string ⟨#[115,116,114,105,110,103]⟩,.string ⟨#[108,101,116]⟩,.string ⟨#[105,102]⟩,.string ⟨#[102,111,114]⟩,.string ⟨#[105,110]⟩,.string ⟨#[112,97,99,107,97,103,101]⟩,.string ⟨#[105,109,112,111,114,116]⟩] 9));rw[hl0] at cL;have HL:=qK (show zU8 q[0]=true from hl0);clear hl0;go_wp2_with fail
   refine cL.mono ?_;rintro e w2 ⟨rfl,rfl⟩;clear cL;go_wp2
   go_loop [40] (fun i=>∃ k:Nat,k≤q.length∧i=.int .i64 (k:Nat)∧Hid ((q.take k).all yK2=true)) (fun i=>q.length-(intOf i).toNat)
   case atStart=>exact⟨0,Nat.zero_le _,rfl,qK (by simp)⟩
   case round=>exact yZ
 ·obtain⟨hh1,hh2⟩:=not_or.1 hh;have hc35:((({data:=s.toArray}:ByteArray)[0].toNat:Int) == 35)=false:=by
   have:=zC5 s[0] 35 (by decide);simp only[beq_eq_false_iff_ne,ne_eq];intro e;exact hh1 (this.2 e)
  have hc95:((({data:=s.toArray}:ByteArray)[0].toNat:Int) == 95)=false:=by
   have:=zC5 s[0] 95 (by decide);simp only[beq_eq_false_iff_ne,ne_eq];intro e;exact hh2 (this.2 e)
  have HQ:=qK (show zO4 s=s by
   cases s with
   | nil=>rfl
   | cons c r=>exact(zK9 c r).trans (if_neg hh))
  clear hh hh1 hh2;obtain⟨q,hq⟩:∃ q,q=s:=⟨_,rfl⟩;subst hq;go_enter Tryz.func96,Tryz.ntmps96
  go_wp2_with fail
  refine CC.out.mono ?_;rintro e w1 ⟨rfl,rfl⟩;go_upto_region 6 with fail
  clear hs CC hc35 hc95;by_cases h0:0 < q.length
  rotate_left
  ·exact xI
  have HP:=qK (yP8 h0);have hq0:0 < q.length:=h0;have hb0:(0:Int) < q.length:=by omega
  have hne:((q.length:Int) == 0)=false:=by simp only[beq_eq_false_iff_ne,ne_eq];omega
  cases hl0:zU8 (({data:=q.toArray}:ByteArray)[0])
  ·exact vH
  have cL:=zK0 (({data:=q.toArray}:ByteArray)[0]) (w.alloc (.cells #[.string ⟨#[110,117,108,108]⟩,.string ⟨#[116,114,117,101]⟩,.string ⟨#[102,97,108,115,101]⟩,.string ⟨#[98,111,111,108]⟩,.string ⟨#[105,110,116]⟩,.string ⟨#[110,117,109,98,101,114]⟩,.string ⟨#[115,116,114,105,110,103]⟩,.string ⟨#[108,101,116]⟩,.string ⟨#[105,102]⟩,.string ⟨#[102,111,114]⟩,.string ⟨#[105,110]⟩,.string ⟨#[112,97,99,107,97,103,101]⟩,.string ⟨#[105,109,112,111,114,116]⟩] 9));rw[hl0] at cL;have HL:=qK (show zU8 q[0]=true from hl0);clear hl0;go_wp2_with fail
  refine cL.mono ?_;rintro e w2 ⟨rfl,rfl⟩;clear cL;go_wp2
  go_loop [40] (fun i=>∃ k:Nat,k≤q.length∧i=.int .i64 (k:Nat)∧Hid ((q.take k).all yK2=true)) (fun i=>q.length-(intOf i).toNat)
  case atStart=>exact⟨0,Nat.zero_le _,rfl,qK (by simp)⟩
  case round=>exact yZ
end Go.Proofs.YtdgehhgjgifikaaGreatDoor
