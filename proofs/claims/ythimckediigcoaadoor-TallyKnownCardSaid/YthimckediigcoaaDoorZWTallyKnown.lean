/- What the law's function computes, and that it does, printed by a program of mine. -/
import Derived.Test.YthimckediigcoaaDoorZGWRow
import Derived.KernelRfl
set_option linter.unusedVariables false
set_option linter.unusedSimpArgs false
namespace Go.Proofs.YthimckediigcoaaDoor
open Go Go.Fx Go.Proofs
def law_TallyKnown_l2 (r3:TallyBook) (r13:TallyBook) (r23:TallyBook) (r33:TallyBook) (r43:TallyBook) (r162:TallyCount) (r53:TallyBook) (r170:TallyCount) (r63:TallyBook) (r178:TallyCount) (r73:TallyBook) (r186:TallyCount) (r83:TallyBook) (r194:TallyCount) (r93:TallyBook) (r202:TallyCount) (r103:TallyBook) (r210:TallyCount) (r113:TallyBook) (r218:TallyCount) (r123:TallyBook) (r226:TallyCount) (rec_z_1:Int→Option Bool) (z_1:Int):Option Bool:=
 bif decide (z_1 < ([(TallyBook.mk 0 0 ([]:List TallyCount)),(TallyBook.mk 9 r3.Room r3.Counts),(TallyBook.mk r13.Trips 61 r13.Counts),(TallyBook.mk r23.Trips (-1) r23.Counts),(TallyBook.mk r33.Trips r33.Room (List.replicate 9 (TallyCount.mk 0 0 0 0 0 0 0))),(TallyBook.mk r43.Trips r43.Room (r43.Counts.set (0:Int).toNat (TallyCount.mk 3 r162.From r162.To r162.Told r162.Unit r162.Under r162.Over))),(TallyBook.mk r53.Trips r53.Room (r53.Counts.set (0:Int).toNat (TallyCount.mk r170.Who r170.From 4 r170.Told r170.Unit r170.Under r170.Over))),(TallyBook.mk r63.Trips r63.Room (r63.Counts.set (1:Int).toNat (TallyCount.mk r178.Who 2 r178.To r178.Told r178.Unit r178.Under r178.Over))),(TallyBook.mk r73.Trips r73.Room (r73.Counts.set (0:Int).toNat (TallyCount.mk r186.Who r186.From r186.To 100 r186.Unit r186.Under r186.Over))),(TallyBook.mk r83.Trips r83.Room (r83.Counts.set (0:Int).toNat (TallyCount.mk r194.Who r194.From r194.To r194.Told 0 r194.Under r194.Over))),(TallyBook.mk r93.Trips r93.Room (r93.Counts.set (0:Int).toNat (TallyCount.mk r202.Who r202.From r202.To r202.Told 21 r202.Under r202.Over))),(TallyBook.mk r103.Trips r103.Room (r103.Counts.set (0:Int).toNat (TallyCount.mk r210.Who r210.From r210.To r210.Told r210.Unit 31 r210.Over))),(TallyBook.mk r113.Trips r113.Room (r113.Counts.set (2:Int).toNat (TallyCount.mk r218.Who r218.From r218.To r218.Told r218.Unit r218.Under (-1)))),(TallyBook.mk r123.Trips r123.Room (r123.Counts.set (1:Int).toNat (TallyCount.mk r226.Who r226.From r226.To r226.Told r226.Unit r226.Under 1)))].length:Int)) then ((getI [(TallyBook.mk 0 0 ([]:List TallyCount)),(TallyBook.mk 9 r3.Room r3.Counts),(TallyBook.mk r13.Trips 61 r13.Counts),(TallyBook.mk r23.Trips (-1) r23.Counts),(TallyBook.mk r33.Trips r33.Room (List.replicate 9 (TallyCount.mk 0 0 0 0 0 0 0))),(TallyBook.mk r43.Trips r43.Room (r43.Counts.set (0:Int).toNat (TallyCount.mk 3 r162.From r162.To r162.Told r162.Unit r162.Under r162.Over))),(TallyBook.mk r53.Trips r53.Room (r53.Counts.set (0:Int).toNat (TallyCount.mk r170.Who r170.From 4 r170.Told r170.Unit r170.Under r170.Over))),(TallyBook.mk r63.Trips r63.Room (r63.Counts.set (1:Int).toNat (TallyCount.mk r178.Who 2 r178.To r178.Told r178.Unit r178.Under r178.Over))),(TallyBook.mk r73.Trips r73.Room (r73.Counts.set (0:Int).toNat (TallyCount.mk r186.Who r186.From r186.To 100 r186.Unit r186.Under r186.Over))),(TallyBook.mk r83.Trips r83.Room (r83.Counts.set (0:Int).toNat (TallyCount.mk r194.Who r194.From r194.To r194.Told 0 r194.Under r194.Over))),(TallyBook.mk r93.Trips r93.Room (r93.Counts.set (0:Int).toNat (TallyCount.mk r202.Who r202.From r202.To r202.Told 21 r202.Under r202.Over))),(TallyBook.mk r103.Trips r103.Room (r103.Counts.set (0:Int).toNat (TallyCount.mk r210.Who r210.From r210.To r210.Told r210.Unit 31 r210.Over))),(TallyBook.mk r113.Trips r113.Room (r113.Counts.set (2:Int).toNat (TallyCount.mk r218.Who r218.From r218.To r218.Told r218.Unit r218.Under (-1)))),(TallyBook.mk r123.Trips r123.Room (r123.Counts.set (1:Int).toNat (TallyCount.mk r226.Who r226.From r226.To r226.Told r226.Unit r226.Under 1)))] z_1).bind fun r255=>
 (tally_Right r255).bind fun r260=>
 (getI [(TallyBook.mk 0 0 ([]:List TallyCount)),(TallyBook.mk 9 r3.Room r3.Counts),(TallyBook.mk r13.Trips 61 r13.Counts),(TallyBook.mk r23.Trips (-1) r23.Counts),(TallyBook.mk r33.Trips r33.Room (List.replicate 9 (TallyCount.mk 0 0 0 0 0 0 0))),(TallyBook.mk r43.Trips r43.Room (r43.Counts.set (0:Int).toNat (TallyCount.mk 3 r162.From r162.To r162.Told r162.Unit r162.Under r162.Over))),(TallyBook.mk r53.Trips r53.Room (r53.Counts.set (0:Int).toNat (TallyCount.mk r170.Who r170.From 4 r170.Told r170.Unit r170.Under r170.Over))),(TallyBook.mk r63.Trips r63.Room (r63.Counts.set (1:Int).toNat (TallyCount.mk r178.Who 2 r178.To r178.Told r178.Unit r178.Under r178.Over))),(TallyBook.mk r73.Trips r73.Room (r73.Counts.set (0:Int).toNat (TallyCount.mk r186.Who r186.From r186.To 100 r186.Unit r186.Under r186.Over))),(TallyBook.mk r83.Trips r83.Room (r83.Counts.set (0:Int).toNat (TallyCount.mk r194.Who r194.From r194.To r194.Told 0 r194.Under r194.Over))),(TallyBook.mk r93.Trips r93.Room (r93.Counts.set (0:Int).toNat (TallyCount.mk r202.Who r202.From r202.To r202.Told 21 r202.Under r202.Over))),(TallyBook.mk r103.Trips r103.Room (r103.Counts.set (0:Int).toNat (TallyCount.mk r210.Who r210.From r210.To r210.Told r210.Unit 31 r210.Over))),(TallyBook.mk r113.Trips r113.Room (r113.Counts.set (2:Int).toNat (TallyCount.mk r218.Who r218.From r218.To r218.Told r218.Unit r218.Under (-1)))),(TallyBook.mk r123.Trips r123.Room (r123.Counts.set (1:Int).toNat (TallyCount.mk r226.Who r226.From r226.To r226.Told r226.Unit r226.Under 1)))] z_1).bind fun r264=>
 (tally_Many r264 (-1) 0).bind fun r269=>
 (getI [(TallyBook.mk 0 0 ([]:List TallyCount)),(TallyBook.mk 9 r3.Room r3.Counts),(TallyBook.mk r13.Trips 61 r13.Counts),(TallyBook.mk r23.Trips (-1) r23.Counts),(TallyBook.mk r33.Trips r33.Room (List.replicate 9 (TallyCount.mk 0 0 0 0 0 0 0))),(TallyBook.mk r43.Trips r43.Room (r43.Counts.set (0:Int).toNat (TallyCount.mk 3 r162.From r162.To r162.Told r162.Unit r162.Under r162.Over))),(TallyBook.mk r53.Trips r53.Room (r53.Counts.set (0:Int).toNat (TallyCount.mk r170.Who r170.From 4 r170.Told r170.Unit r170.Under r170.Over))),(TallyBook.mk r63.Trips r63.Room (r63.Counts.set (1:Int).toNat (TallyCount.mk r178.Who 2 r178.To r178.Told r178.Unit r178.Under r178.Over))),(TallyBook.mk r73.Trips r73.Room (r73.Counts.set (0:Int).toNat (TallyCount.mk r186.Who r186.From r186.To 100 r186.Unit r186.Under r186.Over))),(TallyBook.mk r83.Trips r83.Room (r83.Counts.set (0:Int).toNat (TallyCount.mk r194.Who r194.From r194.To r194.Told 0 r194.Under r194.Over))),(TallyBook.mk r93.Trips r93.Room (r93.Counts.set (0:Int).toNat (TallyCount.mk r202.Who r202.From r202.To r202.Told 21 r202.Under r202.Over))),(TallyBook.mk r103.Trips r103.Room (r103.Counts.set (0:Int).toNat (TallyCount.mk r210.Who r210.From r210.To r210.Told r210.Unit 31 r210.Over))),(TallyBook.mk r113.Trips r113.Room (r113.Counts.set (2:Int).toNat (TallyCount.mk r218.Who r218.From r218.To r218.Told r218.Unit r218.Under (-1)))),(TallyBook.mk r123.Trips r123.Room (r123.Counts.set (1:Int).toNat (TallyCount.mk r226.Who r226.From r226.To r226.Told r226.Unit r226.Under 1)))] z_1).bind fun r278=>
 (tally_Can r278 ([]:List _)).bind fun r283=>
 (getI [(TallyBook.mk 0 0 ([]:List TallyCount)),(TallyBook.mk 9 r3.Room r3.Counts),(TallyBook.mk r13.Trips 61 r13.Counts),(TallyBook.mk r23.Trips (-1) r23.Counts),(TallyBook.mk r33.Trips r33.Room (List.replicate 9 (TallyCount.mk 0 0 0 0 0 0 0))),(TallyBook.mk r43.Trips r43.Room (r43.Counts.set (0:Int).toNat (TallyCount.mk 3 r162.From r162.To r162.Told r162.Unit r162.Under r162.Over))),(TallyBook.mk r53.Trips r53.Room (r53.Counts.set (0:Int).toNat (TallyCount.mk r170.Who r170.From 4 r170.Told r170.Unit r170.Under r170.Over))),(TallyBook.mk r63.Trips r63.Room (r63.Counts.set (1:Int).toNat (TallyCount.mk r178.Who 2 r178.To r178.Told r178.Unit r178.Under r178.Over))),(TallyBook.mk r73.Trips r73.Room (r73.Counts.set (0:Int).toNat (TallyCount.mk r186.Who r186.From r186.To 100 r186.Unit r186.Under r186.Over))),(TallyBook.mk r83.Trips r83.Room (r83.Counts.set (0:Int).toNat (TallyCount.mk r194.Who r194.From r194.To r194.Told 0 r194.Under r194.Over))),(TallyBook.mk r93.Trips r93.Room (r93.Counts.set (0:Int).toNat (TallyCount.mk r202.Who r202.From r202.To r202.Told 21 r202.Under r202.Over))),(TallyBook.mk r103.Trips r103.Room (r103.Counts.set (0:Int).toNat (TallyCount.mk r210.Who r210.From r210.To r210.Told r210.Unit 31 r210.Over))),(TallyBook.mk r113.Trips r113.Room (r113.Counts.set (2:Int).toNat (TallyCount.mk r218.Who r218.From r218.To r218.Told r218.Unit r218.Under (-1)))),(TallyBook.mk r123.Trips r123.Room (r123.Counts.set (1:Int).toNat (TallyCount.mk r226.Who r226.From r226.To r226.Told r226.Unit r226.Under 1)))] z_1).bind fun r287=>
 (tally_Pays r287 (-1)).bind fun r292=>
 (getI [(TallyBook.mk 0 0 ([]:List TallyCount)),(TallyBook.mk 9 r3.Room r3.Counts),(TallyBook.mk r13.Trips 61 r13.Counts),(TallyBook.mk r23.Trips (-1) r23.Counts),(TallyBook.mk r33.Trips r33.Room (List.replicate 9 (TallyCount.mk 0 0 0 0 0 0 0))),(TallyBook.mk r43.Trips r43.Room (r43.Counts.set (0:Int).toNat (TallyCount.mk 3 r162.From r162.To r162.Told r162.Unit r162.Under r162.Over))),(TallyBook.mk r53.Trips r53.Room (r53.Counts.set (0:Int).toNat (TallyCount.mk r170.Who r170.From 4 r170.Told r170.Unit r170.Under r170.Over))),(TallyBook.mk r63.Trips r63.Room (r63.Counts.set (1:Int).toNat (TallyCount.mk r178.Who 2 r178.To r178.Told r178.Unit r178.Under r178.Over))),(TallyBook.mk r73.Trips r73.Room (r73.Counts.set (0:Int).toNat (TallyCount.mk r186.Who r186.From r186.To 100 r186.Unit r186.Under r186.Over))),(TallyBook.mk r83.Trips r83.Room (r83.Counts.set (0:Int).toNat (TallyCount.mk r194.Who r194.From r194.To r194.Told 0 r194.Under r194.Over))),(TallyBook.mk r93.Trips r93.Room (r93.Counts.set (0:Int).toNat (TallyCount.mk r202.Who r202.From r202.To r202.Told 21 r202.Under r202.Over))),(TallyBook.mk r103.Trips r103.Room (r103.Counts.set (0:Int).toNat (TallyCount.mk r210.Who r210.From r210.To r210.Told r210.Unit 31 r210.Over))),(TallyBook.mk r113.Trips r113.Room (r113.Counts.set (2:Int).toNat (TallyCount.mk r218.Who r218.From r218.To r218.Told r218.Unit r218.Under (-1)))),(TallyBook.mk r123.Trips r123.Room (r123.Counts.set (1:Int).toNat (TallyCount.mk r226.Who r226.From r226.To r226.Told r226.Unit r226.Under 1)))] z_1).bind fun r301=>
 (law_count 9 0 0 0 1 0 0).bind fun r306=>
 (tally_Fits r301 r306).bind fun r308=>
 (getI [(TallyBook.mk 0 0 ([]:List TallyCount)),(TallyBook.mk 9 r3.Room r3.Counts),(TallyBook.mk r13.Trips 61 r13.Counts),(TallyBook.mk r23.Trips (-1) r23.Counts),(TallyBook.mk r33.Trips r33.Room (List.replicate 9 (TallyCount.mk 0 0 0 0 0 0 0))),(TallyBook.mk r43.Trips r43.Room (r43.Counts.set (0:Int).toNat (TallyCount.mk 3 r162.From r162.To r162.Told r162.Unit r162.Under r162.Over))),(TallyBook.mk r53.Trips r53.Room (r53.Counts.set (0:Int).toNat (TallyCount.mk r170.Who r170.From 4 r170.Told r170.Unit r170.Under r170.Over))),(TallyBook.mk r63.Trips r63.Room (r63.Counts.set (1:Int).toNat (TallyCount.mk r178.Who 2 r178.To r178.Told r178.Unit r178.Under r178.Over))),(TallyBook.mk r73.Trips r73.Room (r73.Counts.set (0:Int).toNat (TallyCount.mk r186.Who r186.From r186.To 100 r186.Unit r186.Under r186.Over))),(TallyBook.mk r83.Trips r83.Room (r83.Counts.set (0:Int).toNat (TallyCount.mk r194.Who r194.From r194.To r194.Told 0 r194.Under r194.Over))),(TallyBook.mk r93.Trips r93.Room (r93.Counts.set (0:Int).toNat (TallyCount.mk r202.Who r202.From r202.To r202.Told 21 r202.Under r202.Over))),(TallyBook.mk r103.Trips r103.Room (r103.Counts.set (0:Int).toNat (TallyCount.mk r210.Who r210.From r210.To r210.Told r210.Unit 31 r210.Over))),(TallyBook.mk r113.Trips r113.Room (r113.Counts.set (2:Int).toNat (TallyCount.mk r218.Who r218.From r218.To r218.Told r218.Unit r218.Under (-1)))),(TallyBook.mk r123.Trips r123.Room (r123.Counts.set (1:Int).toNat (TallyCount.mk r226.Who r226.From r226.To r226.Told r226.Unit r226.Under 1)))] z_1).bind fun r313=>
 (tally_Wrong r313).bind fun r318=>
 (getI [(TallyBook.mk 0 0 ([]:List TallyCount)),(TallyBook.mk 9 r3.Room r3.Counts),(TallyBook.mk r13.Trips 61 r13.Counts),(TallyBook.mk r23.Trips (-1) r23.Counts),(TallyBook.mk r33.Trips r33.Room (List.replicate 9 (TallyCount.mk 0 0 0 0 0 0 0))),(TallyBook.mk r43.Trips r43.Room (r43.Counts.set (0:Int).toNat (TallyCount.mk 3 r162.From r162.To r162.Told r162.Unit r162.Under r162.Over))),(TallyBook.mk r53.Trips r53.Room (r53.Counts.set (0:Int).toNat (TallyCount.mk r170.Who r170.From 4 r170.Told r170.Unit r170.Under r170.Over))),(TallyBook.mk r63.Trips r63.Room (r63.Counts.set (1:Int).toNat (TallyCount.mk r178.Who 2 r178.To r178.Told r178.Unit r178.Under r178.Over))),(TallyBook.mk r73.Trips r73.Room (r73.Counts.set (0:Int).toNat (TallyCount.mk r186.Who r186.From r186.To 100 r186.Unit r186.Under r186.Over))),(TallyBook.mk r83.Trips r83.Room (r83.Counts.set (0:Int).toNat (TallyCount.mk r194.Who r194.From r194.To r194.Told 0 r194.Under r194.Over))),(TallyBook.mk r93.Trips r93.Room (r93.Counts.set (0:Int).toNat (TallyCount.mk r202.Who r202.From r202.To r202.Told 21 r202.Under r202.Over))),(TallyBook.mk r103.Trips r103.Room (r103.Counts.set (0:Int).toNat (TallyCount.mk r210.Who r210.From r210.To r210.Told r210.Unit 31 r210.Over))),(TallyBook.mk r113.Trips r113.Room (r113.Counts.set (2:Int).toNat (TallyCount.mk r218.Who r218.From r218.To r218.Told r218.Unit r218.Under (-1)))),(TallyBook.mk r123.Trips r123.Room (r123.Counts.set (1:Int).toNat (TallyCount.mk r226.Who r226.From r226.To r226.Told r226.Unit r226.Under 1)))] z_1).bind fun r327=>
 (tally_Whose r327).bind fun r332=>
 (getI [(TallyBook.mk 0 0 ([]:List TallyCount)),(TallyBook.mk 9 r3.Room r3.Counts),(TallyBook.mk r13.Trips 61 r13.Counts),(TallyBook.mk r23.Trips (-1) r23.Counts),(TallyBook.mk r33.Trips r33.Room (List.replicate 9 (TallyCount.mk 0 0 0 0 0 0 0))),(TallyBook.mk r43.Trips r43.Room (r43.Counts.set (0:Int).toNat (TallyCount.mk 3 r162.From r162.To r162.Told r162.Unit r162.Under r162.Over))),(TallyBook.mk r53.Trips r53.Room (r53.Counts.set (0:Int).toNat (TallyCount.mk r170.Who r170.From 4 r170.Told r170.Unit r170.Under r170.Over))),(TallyBook.mk r63.Trips r63.Room (r63.Counts.set (1:Int).toNat (TallyCount.mk r178.Who 2 r178.To r178.Told r178.Unit r178.Under r178.Over))),(TallyBook.mk r73.Trips r73.Room (r73.Counts.set (0:Int).toNat (TallyCount.mk r186.Who r186.From r186.To 100 r186.Unit r186.Under r186.Over))),(TallyBook.mk r83.Trips r83.Room (r83.Counts.set (0:Int).toNat (TallyCount.mk r194.Who r194.From r194.To r194.Told 0 r194.Under r194.Over))),(TallyBook.mk r93.Trips r93.Room (r93.Counts.set (0:Int).toNat (TallyCount.mk r202.Who r202.From r202.To r202.Told 21 r202.Under r202.Over))),(TallyBook.mk r103.Trips r103.Room (r103.Counts.set (0:Int).toNat (TallyCount.mk r210.Who r210.From r210.To r210.Told r210.Unit 31 r210.Over))),(TallyBook.mk r113.Trips r113.Room (r113.Counts.set (2:Int).toNat (TallyCount.mk r218.Who r218.From r218.To r218.Told r218.Unit r218.Under (-1)))),(TallyBook.mk r123.Trips r123.Room (r123.Counts.set (1:Int).toNat (TallyCount.mk r226.Who r226.From r226.To r226.Told r226.Unit r226.Under 1)))] z_1).bind fun r341=>
 (tally_Again r341).bind fun r346=>
 (getI [(TallyBook.mk 0 0 ([]:List TallyCount)),(TallyBook.mk 9 r3.Room r3.Counts),(TallyBook.mk r13.Trips 61 r13.Counts),(TallyBook.mk r23.Trips (-1) r23.Counts),(TallyBook.mk r33.Trips r33.Room (List.replicate 9 (TallyCount.mk 0 0 0 0 0 0 0))),(TallyBook.mk r43.Trips r43.Room (r43.Counts.set (0:Int).toNat (TallyCount.mk 3 r162.From r162.To r162.Told r162.Unit r162.Under r162.Over))),(TallyBook.mk r53.Trips r53.Room (r53.Counts.set (0:Int).toNat (TallyCount.mk r170.Who r170.From 4 r170.Told r170.Unit r170.Under r170.Over))),(TallyBook.mk r63.Trips r63.Room (r63.Counts.set (1:Int).toNat (TallyCount.mk r178.Who 2 r178.To r178.Told r178.Unit r178.Under r178.Over))),(TallyBook.mk r73.Trips r73.Room (r73.Counts.set (0:Int).toNat (TallyCount.mk r186.Who r186.From r186.To 100 r186.Unit r186.Under r186.Over))),(TallyBook.mk r83.Trips r83.Room (r83.Counts.set (0:Int).toNat (TallyCount.mk r194.Who r194.From r194.To r194.Told 0 r194.Under r194.Over))),(TallyBook.mk r93.Trips r93.Room (r93.Counts.set (0:Int).toNat (TallyCount.mk r202.Who r202.From r202.To r202.Told 21 r202.Under r202.Over))),(TallyBook.mk r103.Trips r103.Room (r103.Counts.set (0:Int).toNat (TallyCount.mk r210.Who r210.From r210.To r210.Told r210.Unit 31 r210.Over))),(TallyBook.mk r113.Trips r113.Room (r113.Counts.set (2:Int).toNat (TallyCount.mk r218.Who r218.From r218.To r218.Told r218.Unit r218.Under (-1)))),(TallyBook.mk r123.Trips r123.Room (r123.Counts.set (1:Int).toNat (TallyCount.mk r226.Who r226.From r226.To r226.Told r226.Unit r226.Under 1)))] z_1).bind fun r350=>
 (tally_Check r350).bind fun r355=>
 bif (r355 != 50) then (some false)
 else (bif (r260.2 != 50) then (some false)
 else (bif (r269.2 != 50) then (some false)
 else (bif (r283.2 != 50) then (some false)
 else (bif (r292.2 != 50) then (some false)
 else (bif (r308.2 != 50) then (some false)
 else (bif (r318.2 != 50) then (some false)
 else (bif (r332.2 != 50) then (some false)
 else (bif (r346.2 != 50) then (some false)
 else (rec_z_1 (wr (z_1+1))))))))))))
 else ((law_torn).bind fun r379=>
 (tally_Many r379 0 4).bind fun r389=>
 (law_torn).bind fun r398=>
 (tally_Many r398 2 1).bind fun r408=>
 (law_torn).bind fun r418=>
 (tally_Can r418 [1,2,3]).bind fun r433=>
 (law_torn).bind fun r437=>
 (tally_Pays r437 100).bind fun r447=>
 (law_torn).bind fun r457=>
 (law_count 1 0 0 0 1 0 1).bind fun r467=>
 (tally_Fits r457 r467).bind fun r471=>
 (law_torn).bind fun r475=>
 (tally_Many r475 0 0).bind fun r485=>
 (law_torn).bind fun r495=>
 (tally_Pays r495 5).bind fun r505=>
 (law_torn).bind fun r514=>
 (law_count 2 0 0 0 1 0 0).bind fun r524=>
 (tally_Fits r514 r524).bind fun r528=>
 (law_torn).bind fun r533=>
 (tally_Again r533).bind fun r543=>
 (tally_Again (TallyBook.mk 2 0 ([]:List TallyCount))).bind fun r547=>
 bif (r389.2 != 51) then (some false)
 else (bif (r408.2 != 51) then (some false)
 else (bif (r433.2 != 51) then (some false)
 else (bif (r447.2 != 51) then (some false)
 else (bif (r471.2 != 51) then (some false)
 else (bif (r485.2 != 52) then (some false)
 else (bif (r505.2 != 52) then (some false)
 else (bif (r528.2 != 52) then (some false)
 else (bif (r543.2 != 52) then (some false)
 else (bif (r547.2 != 4) then (some false)
 else ((law_own).bind fun r561=>
 (tally_Many r561 0 1).bind fun r571=>
 (law_own).bind fun r581=>
 (tally_Many r581 2 2).bind fun r591=>
 (law_own).bind fun r601=>
 (tally_Many r601 0 0).bind fun r611=>
 (law_own).bind fun r621=>
 (tally_Can r621 [5,3,6,3]).bind fun r636=>
 (law_own).bind fun r641=>
 (tally_Can r641 [5,5,6,11]).bind fun r656=>
 (law_own).bind fun r661=>
 (law_count 2 2 3 3 1 0 0).bind fun r671=>
 (tally_Fits r661 r671).bind fun r675=>
 (law_own).bind fun r680=>
 (tally_Whose r680).bind fun r690=>
 (law_own).bind fun r700=>
 (tally_Wrong r700).bind fun r711=>
 (law_torn).bind fun r721=>
 (tally_Can r721 [5,5,6,3]).bind fun r736=>
 bif (r571.2==0) then ((B_Range 9 11).bind fun r742=>
 bif ((r571.1.Low==r742.Low)&&(r571.1.High==r742.High)) then (bif (r591.2==0) then ((B_Range 5 6).bind fun r746=>
 bif ((r591.1.Low==r746.Low)&&(r591.1.High==r746.High)) then (bif (r611.2==0) then ((B_Range 0 10).bind fun r750=>
 bif ((r611.1.Low==r750.Low)&&(r611.1.High==r750.High)) then (bif (r636.2==0) then (bif !r636.1 then (bif (r656.2==0) then (bif !r656.1 then (bif (r675.2==0) then (bif !r675.1 then (bif (r690.2==0) then ((B_Alike r690.1 [0,1,2]).bind fun r772=>
 bif r772 then (bif (r711.2==0) then (bif ((r711.1.length:Int)==0) then (bif (r736.2==0) then (bif !r736.1 then ((law_counted).bind fun r847=>
 some r847)
 else (some false))
 else (some false))
 else (some false))
 else (some false))
 else (some false))
 else (some false))
 else (some false))
 else (some false))
 else (some false))
 else (some false))
 else (some false))
 else (some false))
 else (some false))
 else (some false))
 else (some false))
 else (some false))
 else (some false))
 else (some false))))))))))))
def law_TallyKnown:Option Bool:=
 (law_own).bind fun r3=>
 (law_own).bind fun r13=>
 (law_own).bind fun r23=>
 (law_own).bind fun r33=>
 (law_own).bind fun r43=>
 (law_own).bind fun r53=>
 (law_own).bind fun r63=>
 (law_own).bind fun r73=>
 (law_own).bind fun r83=>
 (law_own).bind fun r93=>
 (law_own).bind fun r103=>
 (law_own).bind fun r113=>
 (law_own).bind fun r123=>
 (getI r43.Counts 0).bind fun r162=>
 (getI r53.Counts 0).bind fun r170=>
 (getI r63.Counts 1).bind fun r178=>
 (getI r73.Counts 0).bind fun r186=>
 (getI r83.Counts 0).bind fun r194=>
 (getI r93.Counts 0).bind fun r202=>
 (getI r103.Counts 0).bind fun r210=>
 (getI r113.Counts 2).bind fun r218=>
 (getI r123.Counts 1).bind fun r226=>
 loopF (law_TallyKnown_l2 r3 r13 r23 r33 r43 r162 r53 r170 r63 r178 r73 r186 r83 r194 r93 r202 r103 r210 r113 r218 r123 r226) big 0
set_option maxHeartbeats 10000000 in
set_option maxRecDepth 100000 in
theorem law_TallyKnown_ok {w:World}{r:Bool} (H:law_TallyKnown=some r) (hg1:(gW0).ok w) (hg2:(gW1).ok w):Calls Tryd.prog 3 #[] w (RetV w (B r)):=by
 unfold law_TallyKnown at H
 refine fn_of (n:=459) Tryd.func3 rfl rfl (lE rfl) ?_
 have S:=St.start w nF _ (cA hg1 (cA hg2 nM))
 refine c_seq<|reg<|p_aB rfl<|wp_nil<|c_seq<|reg<|p_bld (cs:=[I 0,I 0,SL none 0 0]) st24 (rfl:_=[]) (by kernel_rfl) ?_
 obtain ⟨r3,h4,H⟩:=bindS H
 refine p_cal (law_own_ok h4) fu4 rfl ?_
 rintro _ w5 ⟨A7,c8,rfl,k6,⟨o9,n10⟩,_⟩
 have S12:=S.addNew k6 o9 n10
 obtain ⟨r13,h14,H⟩:=bindS H
 refine p_cal (law_own_ok h14) fu4 rfl ?_
 rintro _ w15 ⟨A17,c18,rfl,k16,⟨o19,n20⟩,_⟩
 have S22:=S12.addNew k16 o19 n20
 try clear S12
 obtain ⟨r23,h24,H⟩:=bindS H
 refine p_cal (law_own_ok h24) fu4 rfl ?_
 rintro _ w25 ⟨A27,c28,rfl,k26,⟨o29,n30⟩,_⟩
 have S32:=S22.addNew k26 o29 n30
 try clear S22
 obtain ⟨r33,h34,H⟩:=bindS H
 refine p_cal (law_own_ok h34) fu4 rfl ?_
 rintro _ w35 ⟨A37,c38,rfl,k36,⟨o39,n40⟩,_⟩
 have S42:=S32.addNew k36 o39 n40
 try clear S32
 obtain ⟨r43,h44,H⟩:=bindS H
 refine p_cal (law_own_ok h44) fu4 rfl ?_
 rintro _ w45 ⟨A47,c48,rfl,k46,⟨o49,n50⟩,_⟩
 have S52:=S42.addNew k46 o49 n50
 try clear S42
 obtain ⟨r53,h54,H⟩:=bindS H
 refine p_cal (law_own_ok h54) fu4 rfl ?_
 rintro _ w55 ⟨A57,c58,rfl,k56,⟨o59,n60⟩,_⟩
 have S62:=S52.addNew k56 o59 n60
 try clear S52
 obtain ⟨r63,h64,H⟩:=bindS H
 refine p_cal (law_own_ok h64) fu4 rfl ?_
 rintro _ w65 ⟨A67,c68,rfl,k66,⟨o69,n70⟩,_⟩
 have S72:=S62.addNew k66 o69 n70
 try clear S62
 obtain ⟨r73,h74,H⟩:=bindS H
 refine p_cal (law_own_ok h74) fu4 rfl ?_
 rintro _ w75 ⟨A77,c78,rfl,k76,⟨o79,n80⟩,_⟩
 have S82:=S72.addNew k76 o79 n80
 try clear S72
 obtain ⟨r83,h84,H⟩:=bindS H
 refine p_cal (law_own_ok h84) fu4 rfl ?_
 rintro _ w85 ⟨A87,c88,rfl,k86,⟨o89,n90⟩,_⟩
 have S92:=S82.addNew k86 o89 n90
 try clear S82
 obtain ⟨r93,h94,H⟩:=bindS H
 refine p_cal (law_own_ok h94) fu4 rfl ?_
 rintro _ w95 ⟨A97,c98,rfl,k96,⟨o99,n100⟩,_⟩
 have S102:=S92.addNew k96 o99 n100
 try clear S92
 obtain ⟨r103,h104,H⟩:=bindS H
 refine p_cal (law_own_ok h104) fu4 rfl ?_
 rintro _ w105 ⟨A107,c108,rfl,k106,⟨o109,n110⟩,_⟩
 have S112:=S102.addNew k106 o109 n110
 try clear S102
 obtain ⟨r113,h114,H⟩:=bindS H
 refine p_cal (law_own_ok h114) fu4 rfl ?_
 rintro _ w115 ⟨A117,c118,rfl,k116,⟨o119,n120⟩,_⟩
 have S122:=S112.addNew k116 o119 n120
 try clear S112
 obtain ⟨r123,h124,H⟩:=bindS H
 refine p_cal (law_own_ok h124) fu4 rfl ?_
 rintro _ w125 ⟨A127,c128,rfl,k126,⟨o129,n130⟩,_⟩
 have S132:=S122.addNew k126 o129 n130
 try clear S122
 refine p_bsl (enc:=nTallyBook) (l:=[((TallyBook.mk 0 0 ([]:List TallyCount)),none,0),(r3,A7,c8),(r13,A17,c18),(r23,A27,c28),(r33,A37,c38),(r43,A47,c48),(r53,A57,c58),(r63,A67,c68),(r73,A77,c78),(r83,A87,c88),(r93,A97,c98),(r103,A107,c108),(r113,A117,c118),(r123,A127,c128)]) (fun h=>AG (nTallyBook h)) (fun _=>rfl) sc26 in24 nTallyBook_len rfl (by decide) (by decide) zr24_14 S132 rfl fun A133 c134 w135 S136=>?_
 try clear S132
 refine p_aS rfl<|wp_nil<|c_seq<|reg<|p_mS rfl ?_
 refine p_ixE sc26 (rfl:getI [((TallyBook.mk 0 0 ([]:List TallyCount)),none,0),(r3,A7,c8),(r13,A17,c18),(r23,A27,c28),(r33,A37,c38),(r43,A47,c48),(r53,A57,c58),(r63,A67,c68),(r73,A77,c78),(r83,A87,c88),(r93,A97,c98),(r103,A107,c108),(r113,A117,c118),(r123,A127,c128)] 1=some (r3,A7,c8)) (gr_sl nTallyBook_len (S136.atX (i:=0) rfl)) rfl rfl rfl ?_
 refine p_fldE fl24_0 (sl_here (gr_sl nTallyBook_len (S136.atX (i:=0) rfl)) (rfl:getI [((TallyBook.mk 0 0 ([]:List TallyCount)),none,0),(r3,A7,c8),(r13,A17,c18),(r23,A27,c28),(r33,A37,c38),(r43,A47,c48),(r53,A57,c58),(r63,A67,c68),(r73,A77,c78),(r83,A87,c88),(r93,A97,c98),(r103,A107,c108),(r113,A117,c118),(r123,A127,c128)] 1=some (r3,A7,c8))) rfl ?_
 refine p_stE (x' :=((TallyBook.mk 9 r3.Room r3.Counts),A7,c8)) (a:=[]) (old:=[I r3.Trips]) (b:=[I r3.Room,SL A7 r3.Counts.length c8]) (vs:=[I 9]) sz3 nTallyBook_len nTallyBook_one S136 (i:=0) rfl (rfl:getI [((TallyBook.mk 0 0 ([]:List TallyCount)),none,0),(r3,A7,c8),(r13,A17,c18),(r23,A27,c28),(r33,A37,c38),(r43,A47,c48),(r53,A57,c58),(r63,A67,c68),(r73,A77,c78),(r83,A87,c88),(r93,A97,c98),(r103,A107,c108),(r113,A117,c118),(r123,A127,c128)] 1=some (r3,A7,c8)) rfl (rfl:_=I 9) rfl rfl rfl rfl rfl rfl fun l140 w141 h138 h139 S142=>?_
 try clear S136
 obtain rfl:l140=[((TallyBook.mk 0 0 ([]:List TallyCount)),none,0),((TallyBook.mk 9 r3.Room r3.Counts),A7,c8),(r13,A17,c18),(r23,A27,c28),(r33,A37,c38),(r43,A47,c48),(r53,A57,c58),(r63,A67,c68),(r73,A77,c78),(r83,A87,c88),(r93,A97,c98),(r103,A107,c108),(r113,A117,c118),(r123,A127,c128)]:=h138
 refine wp_nil<|c_seq<|reg<|p_mS rfl ?_
 refine p_ixE sc26 (rfl:getI [((TallyBook.mk 0 0 ([]:List TallyCount)),none,0),((TallyBook.mk 9 r3.Room r3.Counts),A7,c8),(r13,A17,c18),(r23,A27,c28),(r33,A37,c38),(r43,A47,c48),(r53,A57,c58),(r63,A67,c68),(r73,A77,c78),(r83,A87,c88),(r93,A97,c98),(r103,A107,c108),(r113,A117,c118),(r123,A127,c128)] 2=some (r13,A17,c18)) (gr_sl nTallyBook_len (S142.atX (i:=0) rfl)) rfl rfl rfl ?_
 refine p_fldE fl24_1 (sl_here (gr_sl nTallyBook_len (S142.atX (i:=0) rfl)) (rfl:getI [((TallyBook.mk 0 0 ([]:List TallyCount)),none,0),((TallyBook.mk 9 r3.Room r3.Counts),A7,c8),(r13,A17,c18),(r23,A27,c28),(r33,A37,c38),(r43,A47,c48),(r53,A57,c58),(r63,A67,c68),(r73,A77,c78),(r83,A87,c88),(r93,A97,c98),(r103,A107,c108),(r113,A117,c118),(r123,A127,c128)] 2=some (r13,A17,c18))) rfl ?_
 refine p_stE (x' :=((TallyBook.mk r13.Trips 61 r13.Counts),A17,c18)) (a:=[I r13.Trips]) (old:=[I r13.Room]) (b:=[SL A17 r13.Counts.length c18]) (vs:=[I 61]) sz3 nTallyBook_len nTallyBook_one S142 (i:=0) rfl (rfl:getI [((TallyBook.mk 0 0 ([]:List TallyCount)),none,0),((TallyBook.mk 9 r3.Room r3.Counts),A7,c8),(r13,A17,c18),(r23,A27,c28),(r33,A37,c38),(r43,A47,c48),(r53,A57,c58),(r63,A67,c68),(r73,A77,c78),(r83,A87,c88),(r93,A97,c98),(r103,A107,c108),(r113,A117,c118),(r123,A127,c128)] 2=some (r13,A17,c18)) rfl (rfl:_=I 61) rfl rfl rfl rfl rfl rfl fun l145 w146 h143 h144 S147=>?_
 try clear S142
 obtain rfl:l145=[((TallyBook.mk 0 0 ([]:List TallyCount)),none,0),((TallyBook.mk 9 r3.Room r3.Counts),A7,c8),((TallyBook.mk r13.Trips 61 r13.Counts),A17,c18),(r23,A27,c28),(r33,A37,c38),(r43,A47,c48),(r53,A57,c58),(r63,A67,c68),(r73,A77,c78),(r83,A87,c88),(r93,A97,c98),(r103,A107,c108),(r113,A117,c118),(r123,A127,c128)]:=h143
 refine wp_nil<|c_seq<|reg<|p_mS rfl ?_
 refine p_ixE sc26 (rfl:getI [((TallyBook.mk 0 0 ([]:List TallyCount)),none,0),((TallyBook.mk 9 r3.Room r3.Counts),A7,c8),((TallyBook.mk r13.Trips 61 r13.Counts),A17,c18),(r23,A27,c28),(r33,A37,c38),(r43,A47,c48),(r53,A57,c58),(r63,A67,c68),(r73,A77,c78),(r83,A87,c88),(r93,A97,c98),(r103,A107,c108),(r113,A117,c118),(r123,A127,c128)] 3=some (r23,A27,c28)) (gr_sl nTallyBook_len (S147.atX (i:=0) rfl)) rfl rfl rfl ?_
 refine p_fldE fl24_1 (sl_here (gr_sl nTallyBook_len (S147.atX (i:=0) rfl)) (rfl:getI [((TallyBook.mk 0 0 ([]:List TallyCount)),none,0),((TallyBook.mk 9 r3.Room r3.Counts),A7,c8),((TallyBook.mk r13.Trips 61 r13.Counts),A17,c18),(r23,A27,c28),(r33,A37,c38),(r43,A47,c48),(r53,A57,c58),(r63,A67,c68),(r73,A77,c78),(r83,A87,c88),(r93,A97,c98),(r103,A107,c108),(r113,A117,c118),(r123,A127,c128)] 3=some (r23,A27,c28))) rfl ?_
 refine p_stE (x' :=((TallyBook.mk r23.Trips (-1) r23.Counts),A27,c28)) (a:=[I r23.Trips]) (old:=[I r23.Room]) (b:=[SL A27 r23.Counts.length c28]) (vs:=[I (-1)]) sz3 nTallyBook_len nTallyBook_one S147 (i:=0) rfl (rfl:getI [((TallyBook.mk 0 0 ([]:List TallyCount)),none,0),((TallyBook.mk 9 r3.Room r3.Counts),A7,c8),((TallyBook.mk r13.Trips 61 r13.Counts),A17,c18),(r23,A27,c28),(r33,A37,c38),(r43,A47,c48),(r53,A57,c58),(r63,A67,c68),(r73,A77,c78),(r83,A87,c88),(r93,A97,c98),(r103,A107,c108),(r113,A117,c118),(r123,A127,c128)] 3=some (r23,A27,c28)) rfl (rfl:_=I (-1)) rfl rfl rfl rfl rfl rfl fun l150 w151 h148 h149 S152=>?_
 try clear S147
 obtain rfl:l150=[((TallyBook.mk 0 0 ([]:List TallyCount)),none,0),((TallyBook.mk 9 r3.Room r3.Counts),A7,c8),((TallyBook.mk r13.Trips 61 r13.Counts),A17,c18),((TallyBook.mk r23.Trips (-1) r23.Counts),A27,c28),(r33,A37,c38),(r43,A47,c48),(r53,A57,c58),(r63,A67,c68),(r73,A77,c78),(r83,A87,c88),(r93,A97,c98),(r103,A107,c108),(r113,A117,c118),(r123,A127,c128)]:=h148
 refine wp_nil<|c_seq<|reg<|p_mS rfl<|p_mkS (enc:=eTallyCount) (x0:=(TallyCount.mk 0 0 0 0 0 0 0)) (k:=9) sc22 in28 eTallyCount_len rfl (by decide) (by decide) S152 rfl rfl fun A153 w154 S155=>?_
 try clear S152
 refine p_ixE sc26 (rfl:getI [((TallyBook.mk 0 0 ([]:List TallyCount)),none,0),((TallyBook.mk 9 r3.Room r3.Counts),A7,c8),((TallyBook.mk r13.Trips 61 r13.Counts),A17,c18),((TallyBook.mk r23.Trips (-1) r23.Counts),A27,c28),(r33,A37,c38),(r43,A47,c48),(r53,A57,c58),(r63,A67,c68),(r73,A77,c78),(r83,A87,c88),(r93,A97,c98),(r103,A107,c108),(r113,A117,c118),(r123,A127,c128)] 4=some (r33,A37,c38)) (gr_sl nTallyBook_len (S155.atX (i:=1) rfl)) rfl rfl rfl ?_
 refine p_fldE fl24_2 (sl_here (gr_sl nTallyBook_len (S155.atX (i:=1) rfl)) (rfl:getI [((TallyBook.mk 0 0 ([]:List TallyCount)),none,0),((TallyBook.mk 9 r3.Room r3.Counts),A7,c8),((TallyBook.mk r13.Trips 61 r13.Counts),A17,c18),((TallyBook.mk r23.Trips (-1) r23.Counts),A27,c28),(r33,A37,c38),(r43,A47,c48),(r53,A57,c58),(r63,A67,c68),(r73,A77,c78),(r83,A87,c88),(r93,A97,c98),(r103,A107,c108),(r113,A117,c118),(r123,A127,c128)] 4=some (r33,A37,c38))) rfl ?_
 refine p_stE (x' :=((TallyBook.mk r33.Trips r33.Room (List.replicate 9 (TallyCount.mk 0 0 0 0 0 0 0))),A153,9)) (a:=[I r33.Trips,I r33.Room]) (old:=[SL A37 r33.Counts.length c38]) (b:=[]) (vs:=[SL A153 (List.replicate 9 (TallyCount.mk 0 0 0 0 0 0 0)).length 9]) sz22 nTallyBook_len nTallyBook_one S155 (i:=1) rfl (rfl:getI [((TallyBook.mk 0 0 ([]:List TallyCount)),none,0),((TallyBook.mk 9 r3.Room r3.Counts),A7,c8),((TallyBook.mk r13.Trips 61 r13.Counts),A17,c18),((TallyBook.mk r23.Trips (-1) r23.Counts),A27,c28),(r33,A37,c38),(r43,A47,c48),(r53,A57,c58),(r63,A67,c68),(r73,A77,c78),(r83,A87,c88),(r93,A97,c98),(r103,A107,c108),(r113,A117,c118),(r123,A127,c128)] 4=some (r33,A37,c38)) rfl (rfl:_=SL A153 (List.replicate 9 (TallyCount.mk 0 0 0 0 0 0 0)).length 9) rfl rfl rfl rfl rfl rfl fun l159 w160 h157 h158 S161=>?_
 try clear S155
 obtain rfl:l159=[((TallyBook.mk 0 0 ([]:List TallyCount)),none,0),((TallyBook.mk 9 r3.Room r3.Counts),A7,c8),((TallyBook.mk r13.Trips 61 r13.Counts),A17,c18),((TallyBook.mk r23.Trips (-1) r23.Counts),A27,c28),((TallyBook.mk r33.Trips r33.Room (List.replicate 9 (TallyCount.mk 0 0 0 0 0 0 0))),A153,9),(r43,A47,c48),(r53,A57,c58),(r63,A67,c68),(r73,A77,c78),(r83,A87,c88),(r93,A97,c98),(r103,A107,c108),(r113,A117,c118),(r123,A127,c128)]:=h157
 refine wp_nil<|c_seq<|reg<|p_mS rfl ?_
 refine p_ixE sc26 (rfl:getI [((TallyBook.mk 0 0 ([]:List TallyCount)),none,0),((TallyBook.mk 9 r3.Room r3.Counts),A7,c8),((TallyBook.mk r13.Trips 61 r13.Counts),A17,c18),((TallyBook.mk r23.Trips (-1) r23.Counts),A27,c28),((TallyBook.mk r33.Trips r33.Room (List.replicate 9 (TallyCount.mk 0 0 0 0 0 0 0))),A153,9),(r43,A47,c48),(r53,A57,c58),(r63,A67,c68),(r73,A77,c78),(r83,A87,c88),(r93,A97,c98),(r103,A107,c108),(r113,A117,c118),(r123,A127,c128)] 5=some (r43,A47,c48)) (gr_sl nTallyBook_len (S161.atX (i:=1) rfl)) rfl rfl rfl ?_
 refine p_fldE fl24_2 (sl_here (gr_sl nTallyBook_len (S161.atX (i:=1) rfl)) (rfl:getI [((TallyBook.mk 0 0 ([]:List TallyCount)),none,0),((TallyBook.mk 9 r3.Room r3.Counts),A7,c8),((TallyBook.mk r13.Trips 61 r13.Counts),A17,c18),((TallyBook.mk r23.Trips (-1) r23.Counts),A27,c28),((TallyBook.mk r33.Trips r33.Room (List.replicate 9 (TallyCount.mk 0 0 0 0 0 0 0))),A153,9),(r43,A47,c48),(r53,A57,c58),(r63,A67,c68),(r73,A77,c78),(r83,A87,c88),(r93,A97,c98),(r103,A107,c108),(r113,A117,c118),(r123,A127,c128)] 5=some (r43,A47,c48))) rfl ?_
 refine p_ldE ty22 (rfl:getI [((TallyBook.mk 0 0 ([]:List TallyCount)),none,0),((TallyBook.mk 9 r3.Room r3.Counts),A7,c8),((TallyBook.mk r13.Trips 61 r13.Counts),A17,c18),((TallyBook.mk r23.Trips (-1) r23.Counts),A27,c28),((TallyBook.mk r33.Trips r33.Room (List.replicate 9 (TallyCount.mk 0 0 0 0 0 0 0))),A153,9),(r43,A47,c48),(r53,A57,c58),(r63,A67,c68),(r73,A77,c78),(r83,A87,c88),(r93,A97,c98),(r103,A107,c108),(r113,A117,c118),(r123,A127,c128)] 5=some (r43,A47,c48)) (gr_sl nTallyBook_len (S161.atX (i:=1) rfl)) rfl rfl ?_
 obtain ⟨r162,h163,H⟩:=bindS H
 refine p_ixE sc22 h163 (gr_sl eTallyCount_len (S161.atX (i:=10) rfl)) rfl rfl rfl<|p_fldE fl28_0 (sl_here (gr_sl eTallyCount_len (S161.atX (i:=10) rfl)) h163) rfl ?_
 refine p_stE (x' :=(TallyCount.mk 3 r162.From r162.To r162.Told r162.Unit r162.Under r162.Over)) (a:=[]) (old:=[I r162.Who]) (b:=[I r162.From,I r162.To,I r162.Told,I r162.Unit,I r162.Under,I r162.Over]) (vs:=[I 3]) sz3 eTallyCount_len eTallyCount_one S161 (i:=10) rfl h163 rfl (rfl:_=I 3) rfl rfl rfl rfl rfl rfl fun l166 w167 h164 h165 S168=>?_
 try clear S161
 obtain rfl:l166=(r43.Counts.set (0:Int).toNat (TallyCount.mk 3 r162.From r162.To r162.Told r162.Unit r162.Under r162.Over)):=h164
 try rw [← h165]
 try rw [← h165] at S168
 have S169:=S168.grEq (l' :=[((TallyBook.mk 0 0 ([]:List TallyCount)),none,0),((TallyBook.mk 9 r3.Room r3.Counts),A7,c8),((TallyBook.mk r13.Trips 61 r13.Counts),A17,c18),((TallyBook.mk r23.Trips (-1) r23.Counts),A27,c28),((TallyBook.mk r33.Trips r33.Room (List.replicate 9 (TallyCount.mk 0 0 0 0 0 0 0))),A153,9),((TallyBook.mk r43.Trips r43.Room (r43.Counts.set (0:Int).toNat (TallyCount.mk 3 r162.From r162.To r162.Told r162.Unit r162.Under r162.Over))),A47,c48),(r53,A57,c58),(r63,A67,c68),(r73,A77,c78),(r83,A87,c88),(r93,A97,c98),(r103,A107,c108),(r113,A117,c118),(r123,A127,c128)]) (i:=1) rfl (by simp only [List.flatMap_cons,List.flatMap_nil,nTallyBook,List.length_set]) rfl
 try clear S168
 try simp only [List.set_cons_zero,List.set_cons_succ] at S169
 refine wp_nil<|c_seq<|reg<|p_mS rfl ?_
 refine p_ixE sc26 (rfl:getI [((TallyBook.mk 0 0 ([]:List TallyCount)),none,0),((TallyBook.mk 9 r3.Room r3.Counts),A7,c8),((TallyBook.mk r13.Trips 61 r13.Counts),A17,c18),((TallyBook.mk r23.Trips (-1) r23.Counts),A27,c28),((TallyBook.mk r33.Trips r33.Room (List.replicate 9 (TallyCount.mk 0 0 0 0 0 0 0))),A153,9),((TallyBook.mk r43.Trips r43.Room (r43.Counts.set (0:Int).toNat (TallyCount.mk 3 r162.From r162.To r162.Told r162.Unit r162.Under r162.Over))),A47,c48),(r53,A57,c58),(r63,A67,c68),(r73,A77,c78),(r83,A87,c88),(r93,A97,c98),(r103,A107,c108),(r113,A117,c118),(r123,A127,c128)] 6=some (r53,A57,c58)) (gr_sl nTallyBook_len (S169.atX (i:=1) rfl)) rfl rfl rfl ?_
 refine p_fldE fl24_2 (sl_here (gr_sl nTallyBook_len (S169.atX (i:=1) rfl)) (rfl:getI [((TallyBook.mk 0 0 ([]:List TallyCount)),none,0),((TallyBook.mk 9 r3.Room r3.Counts),A7,c8),((TallyBook.mk r13.Trips 61 r13.Counts),A17,c18),((TallyBook.mk r23.Trips (-1) r23.Counts),A27,c28),((TallyBook.mk r33.Trips r33.Room (List.replicate 9 (TallyCount.mk 0 0 0 0 0 0 0))),A153,9),((TallyBook.mk r43.Trips r43.Room (r43.Counts.set (0:Int).toNat (TallyCount.mk 3 r162.From r162.To r162.Told r162.Unit r162.Under r162.Over))),A47,c48),(r53,A57,c58),(r63,A67,c68),(r73,A77,c78),(r83,A87,c88),(r93,A97,c98),(r103,A107,c108),(r113,A117,c118),(r123,A127,c128)] 6=some (r53,A57,c58))) rfl ?_
 refine p_ldE ty22 (rfl:getI [((TallyBook.mk 0 0 ([]:List TallyCount)),none,0),((TallyBook.mk 9 r3.Room r3.Counts),A7,c8),((TallyBook.mk r13.Trips 61 r13.Counts),A17,c18),((TallyBook.mk r23.Trips (-1) r23.Counts),A27,c28),((TallyBook.mk r33.Trips r33.Room (List.replicate 9 (TallyCount.mk 0 0 0 0 0 0 0))),A153,9),((TallyBook.mk r43.Trips r43.Room (r43.Counts.set (0:Int).toNat (TallyCount.mk 3 r162.From r162.To r162.Told r162.Unit r162.Under r162.Over))),A47,c48),(r53,A57,c58),(r63,A67,c68),(r73,A77,c78),(r83,A87,c88),(r93,A97,c98),(r103,A107,c108),(r113,A117,c118),(r123,A127,c128)] 6=some (r53,A57,c58)) (gr_sl nTallyBook_len (S169.atX (i:=1) rfl)) rfl rfl ?_
 obtain ⟨r170,h171,H⟩:=bindS H
 refine p_ixE sc22 h171 (gr_sl eTallyCount_len (S169.atX (i:=9) rfl)) rfl rfl rfl<|p_fldE fl28_2 (sl_here (gr_sl eTallyCount_len (S169.atX (i:=9) rfl)) h171) rfl ?_
 refine p_stE (x' :=(TallyCount.mk r170.Who r170.From 4 r170.Told r170.Unit r170.Under r170.Over)) (a:=[I r170.Who,I r170.From]) (old:=[I r170.To]) (b:=[I r170.Told,I r170.Unit,I r170.Under,I r170.Over]) (vs:=[I 4]) sz3 eTallyCount_len eTallyCount_one S169 (i:=9) rfl h171 rfl (rfl:_=I 4) rfl rfl rfl rfl rfl rfl fun l174 w175 h172 h173 S176=>?_
 try clear S169
 obtain rfl:l174=(r53.Counts.set (0:Int).toNat (TallyCount.mk r170.Who r170.From 4 r170.Told r170.Unit r170.Under r170.Over)):=h172
 try rw [← h173]
 try rw [← h173] at S176
 have S177:=S176.grEq (l' :=[((TallyBook.mk 0 0 ([]:List TallyCount)),none,0),((TallyBook.mk 9 r3.Room r3.Counts),A7,c8),((TallyBook.mk r13.Trips 61 r13.Counts),A17,c18),((TallyBook.mk r23.Trips (-1) r23.Counts),A27,c28),((TallyBook.mk r33.Trips r33.Room (List.replicate 9 (TallyCount.mk 0 0 0 0 0 0 0))),A153,9),((TallyBook.mk r43.Trips r43.Room (r43.Counts.set (0:Int).toNat (TallyCount.mk 3 r162.From r162.To r162.Told r162.Unit r162.Under r162.Over))),A47,c48),((TallyBook.mk r53.Trips r53.Room (r53.Counts.set (0:Int).toNat (TallyCount.mk r170.Who r170.From 4 r170.Told r170.Unit r170.Under r170.Over))),A57,c58),(r63,A67,c68),(r73,A77,c78),(r83,A87,c88),(r93,A97,c98),(r103,A107,c108),(r113,A117,c118),(r123,A127,c128)]) (i:=1) rfl (by simp only [List.flatMap_cons,List.flatMap_nil,nTallyBook,List.length_set]) rfl
 try clear S176
 try simp only [List.set_cons_zero,List.set_cons_succ] at S177
 refine wp_nil<|c_seq<|reg<|p_mS rfl ?_
 refine p_ixE sc26 (rfl:getI [((TallyBook.mk 0 0 ([]:List TallyCount)),none,0),((TallyBook.mk 9 r3.Room r3.Counts),A7,c8),((TallyBook.mk r13.Trips 61 r13.Counts),A17,c18),((TallyBook.mk r23.Trips (-1) r23.Counts),A27,c28),((TallyBook.mk r33.Trips r33.Room (List.replicate 9 (TallyCount.mk 0 0 0 0 0 0 0))),A153,9),((TallyBook.mk r43.Trips r43.Room (r43.Counts.set (0:Int).toNat (TallyCount.mk 3 r162.From r162.To r162.Told r162.Unit r162.Under r162.Over))),A47,c48),((TallyBook.mk r53.Trips r53.Room (r53.Counts.set (0:Int).toNat (TallyCount.mk r170.Who r170.From 4 r170.Told r170.Unit r170.Under r170.Over))),A57,c58),(r63,A67,c68),(r73,A77,c78),(r83,A87,c88),(r93,A97,c98),(r103,A107,c108),(r113,A117,c118),(r123,A127,c128)] 7=some (r63,A67,c68)) (gr_sl nTallyBook_len (S177.atX (i:=1) rfl)) rfl rfl rfl ?_
 refine p_fldE fl24_2 (sl_here (gr_sl nTallyBook_len (S177.atX (i:=1) rfl)) (rfl:getI [((TallyBook.mk 0 0 ([]:List TallyCount)),none,0),((TallyBook.mk 9 r3.Room r3.Counts),A7,c8),((TallyBook.mk r13.Trips 61 r13.Counts),A17,c18),((TallyBook.mk r23.Trips (-1) r23.Counts),A27,c28),((TallyBook.mk r33.Trips r33.Room (List.replicate 9 (TallyCount.mk 0 0 0 0 0 0 0))),A153,9),((TallyBook.mk r43.Trips r43.Room (r43.Counts.set (0:Int).toNat (TallyCount.mk 3 r162.From r162.To r162.Told r162.Unit r162.Under r162.Over))),A47,c48),((TallyBook.mk r53.Trips r53.Room (r53.Counts.set (0:Int).toNat (TallyCount.mk r170.Who r170.From 4 r170.Told r170.Unit r170.Under r170.Over))),A57,c58),(r63,A67,c68),(r73,A77,c78),(r83,A87,c88),(r93,A97,c98),(r103,A107,c108),(r113,A117,c118),(r123,A127,c128)] 7=some (r63,A67,c68))) rfl ?_
 refine p_ldE ty22 (rfl:getI [((TallyBook.mk 0 0 ([]:List TallyCount)),none,0),((TallyBook.mk 9 r3.Room r3.Counts),A7,c8),((TallyBook.mk r13.Trips 61 r13.Counts),A17,c18),((TallyBook.mk r23.Trips (-1) r23.Counts),A27,c28),((TallyBook.mk r33.Trips r33.Room (List.replicate 9 (TallyCount.mk 0 0 0 0 0 0 0))),A153,9),((TallyBook.mk r43.Trips r43.Room (r43.Counts.set (0:Int).toNat (TallyCount.mk 3 r162.From r162.To r162.Told r162.Unit r162.Under r162.Over))),A47,c48),((TallyBook.mk r53.Trips r53.Room (r53.Counts.set (0:Int).toNat (TallyCount.mk r170.Who r170.From 4 r170.Told r170.Unit r170.Under r170.Over))),A57,c58),(r63,A67,c68),(r73,A77,c78),(r83,A87,c88),(r93,A97,c98),(r103,A107,c108),(r113,A117,c118),(r123,A127,c128)] 7=some (r63,A67,c68)) (gr_sl nTallyBook_len (S177.atX (i:=1) rfl)) rfl rfl ?_
 obtain ⟨r178,h179,H⟩:=bindS H
 refine p_ixE sc22 h179 (gr_sl eTallyCount_len (S177.atX (i:=8) rfl)) rfl rfl rfl<|p_fldE fl28_1 (sl_here (gr_sl eTallyCount_len (S177.atX (i:=8) rfl)) h179) rfl ?_
 refine p_stE (x' :=(TallyCount.mk r178.Who 2 r178.To r178.Told r178.Unit r178.Under r178.Over)) (a:=[I r178.Who]) (old:=[I r178.From]) (b:=[I r178.To,I r178.Told,I r178.Unit,I r178.Under,I r178.Over]) (vs:=[I 2]) sz3 eTallyCount_len eTallyCount_one S177 (i:=8) rfl h179 rfl (rfl:_=I 2) rfl rfl rfl rfl rfl rfl fun l182 w183 h180 h181 S184=>?_
 try clear S177
 obtain rfl:l182=(r63.Counts.set (1:Int).toNat (TallyCount.mk r178.Who 2 r178.To r178.Told r178.Unit r178.Under r178.Over)):=h180
 try rw [← h181]
 try rw [← h181] at S184
 have S185:=S184.grEq (l' :=[((TallyBook.mk 0 0 ([]:List TallyCount)),none,0),((TallyBook.mk 9 r3.Room r3.Counts),A7,c8),((TallyBook.mk r13.Trips 61 r13.Counts),A17,c18),((TallyBook.mk r23.Trips (-1) r23.Counts),A27,c28),((TallyBook.mk r33.Trips r33.Room (List.replicate 9 (TallyCount.mk 0 0 0 0 0 0 0))),A153,9),((TallyBook.mk r43.Trips r43.Room (r43.Counts.set (0:Int).toNat (TallyCount.mk 3 r162.From r162.To r162.Told r162.Unit r162.Under r162.Over))),A47,c48),((TallyBook.mk r53.Trips r53.Room (r53.Counts.set (0:Int).toNat (TallyCount.mk r170.Who r170.From 4 r170.Told r170.Unit r170.Under r170.Over))),A57,c58),((TallyBook.mk r63.Trips r63.Room (r63.Counts.set (1:Int).toNat (TallyCount.mk r178.Who 2 r178.To r178.Told r178.Unit r178.Under r178.Over))),A67,c68),(r73,A77,c78),(r83,A87,c88),(r93,A97,c98),(r103,A107,c108),(r113,A117,c118),(r123,A127,c128)]) (i:=1) rfl (by simp only [List.flatMap_cons,List.flatMap_nil,nTallyBook,List.length_set]) rfl
 try clear S184
 try simp only [List.set_cons_zero,List.set_cons_succ] at S185
 refine wp_nil<|c_seq<|reg<|p_mS rfl ?_
 refine p_ixE sc26 (rfl:getI [((TallyBook.mk 0 0 ([]:List TallyCount)),none,0),((TallyBook.mk 9 r3.Room r3.Counts),A7,c8),((TallyBook.mk r13.Trips 61 r13.Counts),A17,c18),((TallyBook.mk r23.Trips (-1) r23.Counts),A27,c28),((TallyBook.mk r33.Trips r33.Room (List.replicate 9 (TallyCount.mk 0 0 0 0 0 0 0))),A153,9),((TallyBook.mk r43.Trips r43.Room (r43.Counts.set (0:Int).toNat (TallyCount.mk 3 r162.From r162.To r162.Told r162.Unit r162.Under r162.Over))),A47,c48),((TallyBook.mk r53.Trips r53.Room (r53.Counts.set (0:Int).toNat (TallyCount.mk r170.Who r170.From 4 r170.Told r170.Unit r170.Under r170.Over))),A57,c58),((TallyBook.mk r63.Trips r63.Room (r63.Counts.set (1:Int).toNat (TallyCount.mk r178.Who 2 r178.To r178.Told r178.Unit r178.Under r178.Over))),A67,c68),(r73,A77,c78),(r83,A87,c88),(r93,A97,c98),(r103,A107,c108),(r113,A117,c118),(r123,A127,c128)] 8=some (r73,A77,c78)) (gr_sl nTallyBook_len (S185.atX (i:=1) rfl)) rfl rfl rfl ?_
 refine p_fldE fl24_2 (sl_here (gr_sl nTallyBook_len (S185.atX (i:=1) rfl)) (rfl:getI [((TallyBook.mk 0 0 ([]:List TallyCount)),none,0),((TallyBook.mk 9 r3.Room r3.Counts),A7,c8),((TallyBook.mk r13.Trips 61 r13.Counts),A17,c18),((TallyBook.mk r23.Trips (-1) r23.Counts),A27,c28),((TallyBook.mk r33.Trips r33.Room (List.replicate 9 (TallyCount.mk 0 0 0 0 0 0 0))),A153,9),((TallyBook.mk r43.Trips r43.Room (r43.Counts.set (0:Int).toNat (TallyCount.mk 3 r162.From r162.To r162.Told r162.Unit r162.Under r162.Over))),A47,c48),((TallyBook.mk r53.Trips r53.Room (r53.Counts.set (0:Int).toNat (TallyCount.mk r170.Who r170.From 4 r170.Told r170.Unit r170.Under r170.Over))),A57,c58),((TallyBook.mk r63.Trips r63.Room (r63.Counts.set (1:Int).toNat (TallyCount.mk r178.Who 2 r178.To r178.Told r178.Unit r178.Under r178.Over))),A67,c68),(r73,A77,c78),(r83,A87,c88),(r93,A97,c98),(r103,A107,c108),(r113,A117,c118),(r123,A127,c128)] 8=some (r73,A77,c78))) rfl ?_
 refine p_ldE ty22 (rfl:getI [((TallyBook.mk 0 0 ([]:List TallyCount)),none,0),((TallyBook.mk 9 r3.Room r3.Counts),A7,c8),((TallyBook.mk r13.Trips 61 r13.Counts),A17,c18),((TallyBook.mk r23.Trips (-1) r23.Counts),A27,c28),((TallyBook.mk r33.Trips r33.Room (List.replicate 9 (TallyCount.mk 0 0 0 0 0 0 0))),A153,9),((TallyBook.mk r43.Trips r43.Room (r43.Counts.set (0:Int).toNat (TallyCount.mk 3 r162.From r162.To r162.Told r162.Unit r162.Under r162.Over))),A47,c48),((TallyBook.mk r53.Trips r53.Room (r53.Counts.set (0:Int).toNat (TallyCount.mk r170.Who r170.From 4 r170.Told r170.Unit r170.Under r170.Over))),A57,c58),((TallyBook.mk r63.Trips r63.Room (r63.Counts.set (1:Int).toNat (TallyCount.mk r178.Who 2 r178.To r178.Told r178.Unit r178.Under r178.Over))),A67,c68),(r73,A77,c78),(r83,A87,c88),(r93,A97,c98),(r103,A107,c108),(r113,A117,c118),(r123,A127,c128)] 8=some (r73,A77,c78)) (gr_sl nTallyBook_len (S185.atX (i:=1) rfl)) rfl rfl ?_
 obtain ⟨r186,h187,H⟩:=bindS H
 refine p_ixE sc22 h187 (gr_sl eTallyCount_len (S185.atX (i:=7) rfl)) rfl rfl rfl<|p_fldE fl28_3 (sl_here (gr_sl eTallyCount_len (S185.atX (i:=7) rfl)) h187) rfl ?_
 refine p_stE (x' :=(TallyCount.mk r186.Who r186.From r186.To 100 r186.Unit r186.Under r186.Over)) (a:=[I r186.Who,I r186.From,I r186.To]) (old:=[I r186.Told]) (b:=[I r186.Unit,I r186.Under,I r186.Over]) (vs:=[I 100]) sz3 eTallyCount_len eTallyCount_one S185 (i:=7) rfl h187 rfl (rfl:_=I 100) rfl rfl rfl rfl rfl rfl fun l190 w191 h188 h189 S192=>?_
 try clear S185
 obtain rfl:l190=(r73.Counts.set (0:Int).toNat (TallyCount.mk r186.Who r186.From r186.To 100 r186.Unit r186.Under r186.Over)):=h188
 try rw [← h189]
 try rw [← h189] at S192
 have S193:=S192.grEq (l' :=[((TallyBook.mk 0 0 ([]:List TallyCount)),none,0),((TallyBook.mk 9 r3.Room r3.Counts),A7,c8),((TallyBook.mk r13.Trips 61 r13.Counts),A17,c18),((TallyBook.mk r23.Trips (-1) r23.Counts),A27,c28),((TallyBook.mk r33.Trips r33.Room (List.replicate 9 (TallyCount.mk 0 0 0 0 0 0 0))),A153,9),((TallyBook.mk r43.Trips r43.Room (r43.Counts.set (0:Int).toNat (TallyCount.mk 3 r162.From r162.To r162.Told r162.Unit r162.Under r162.Over))),A47,c48),((TallyBook.mk r53.Trips r53.Room (r53.Counts.set (0:Int).toNat (TallyCount.mk r170.Who r170.From 4 r170.Told r170.Unit r170.Under r170.Over))),A57,c58),((TallyBook.mk r63.Trips r63.Room (r63.Counts.set (1:Int).toNat (TallyCount.mk r178.Who 2 r178.To r178.Told r178.Unit r178.Under r178.Over))),A67,c68),((TallyBook.mk r73.Trips r73.Room (r73.Counts.set (0:Int).toNat (TallyCount.mk r186.Who r186.From r186.To 100 r186.Unit r186.Under r186.Over))),A77,c78),(r83,A87,c88),(r93,A97,c98),(r103,A107,c108),(r113,A117,c118),(r123,A127,c128)]) (i:=1) rfl (by simp only [List.flatMap_cons,List.flatMap_nil,nTallyBook,List.length_set]) rfl
 try clear S192
 try simp only [List.set_cons_zero,List.set_cons_succ] at S193
 refine wp_nil<|c_seq<|reg<|p_mS rfl ?_
 refine p_ixE sc26 (rfl:getI [((TallyBook.mk 0 0 ([]:List TallyCount)),none,0),((TallyBook.mk 9 r3.Room r3.Counts),A7,c8),((TallyBook.mk r13.Trips 61 r13.Counts),A17,c18),((TallyBook.mk r23.Trips (-1) r23.Counts),A27,c28),((TallyBook.mk r33.Trips r33.Room (List.replicate 9 (TallyCount.mk 0 0 0 0 0 0 0))),A153,9),((TallyBook.mk r43.Trips r43.Room (r43.Counts.set (0:Int).toNat (TallyCount.mk 3 r162.From r162.To r162.Told r162.Unit r162.Under r162.Over))),A47,c48),((TallyBook.mk r53.Trips r53.Room (r53.Counts.set (0:Int).toNat (TallyCount.mk r170.Who r170.From 4 r170.Told r170.Unit r170.Under r170.Over))),A57,c58),((TallyBook.mk r63.Trips r63.Room (r63.Counts.set (1:Int).toNat (TallyCount.mk r178.Who 2 r178.To r178.Told r178.Unit r178.Under r178.Over))),A67,c68),((TallyBook.mk r73.Trips r73.Room (r73.Counts.set (0:Int).toNat (TallyCount.mk r186.Who r186.From r186.To 100 r186.Unit r186.Under r186.Over))),A77,c78),(r83,A87,c88),(r93,A97,c98),(r103,A107,c108),(r113,A117,c118),(r123,A127,c128)] 9=some (r83,A87,c88)) (gr_sl nTallyBook_len (S193.atX (i:=1) rfl)) rfl rfl rfl ?_
 refine p_fldE fl24_2 (sl_here (gr_sl nTallyBook_len (S193.atX (i:=1) rfl)) (rfl:getI [((TallyBook.mk 0 0 ([]:List TallyCount)),none,0),((TallyBook.mk 9 r3.Room r3.Counts),A7,c8),((TallyBook.mk r13.Trips 61 r13.Counts),A17,c18),((TallyBook.mk r23.Trips (-1) r23.Counts),A27,c28),((TallyBook.mk r33.Trips r33.Room (List.replicate 9 (TallyCount.mk 0 0 0 0 0 0 0))),A153,9),((TallyBook.mk r43.Trips r43.Room (r43.Counts.set (0:Int).toNat (TallyCount.mk 3 r162.From r162.To r162.Told r162.Unit r162.Under r162.Over))),A47,c48),((TallyBook.mk r53.Trips r53.Room (r53.Counts.set (0:Int).toNat (TallyCount.mk r170.Who r170.From 4 r170.Told r170.Unit r170.Under r170.Over))),A57,c58),((TallyBook.mk r63.Trips r63.Room (r63.Counts.set (1:Int).toNat (TallyCount.mk r178.Who 2 r178.To r178.Told r178.Unit r178.Under r178.Over))),A67,c68),((TallyBook.mk r73.Trips r73.Room (r73.Counts.set (0:Int).toNat (TallyCount.mk r186.Who r186.From r186.To 100 r186.Unit r186.Under r186.Over))),A77,c78),(r83,A87,c88),(r93,A97,c98),(r103,A107,c108),(r113,A117,c118),(r123,A127,c128)] 9=some (r83,A87,c88))) rfl ?_
 refine p_ldE ty22 (rfl:getI [((TallyBook.mk 0 0 ([]:List TallyCount)),none,0),((TallyBook.mk 9 r3.Room r3.Counts),A7,c8),((TallyBook.mk r13.Trips 61 r13.Counts),A17,c18),((TallyBook.mk r23.Trips (-1) r23.Counts),A27,c28),((TallyBook.mk r33.Trips r33.Room (List.replicate 9 (TallyCount.mk 0 0 0 0 0 0 0))),A153,9),((TallyBook.mk r43.Trips r43.Room (r43.Counts.set (0:Int).toNat (TallyCount.mk 3 r162.From r162.To r162.Told r162.Unit r162.Under r162.Over))),A47,c48),((TallyBook.mk r53.Trips r53.Room (r53.Counts.set (0:Int).toNat (TallyCount.mk r170.Who r170.From 4 r170.Told r170.Unit r170.Under r170.Over))),A57,c58),((TallyBook.mk r63.Trips r63.Room (r63.Counts.set (1:Int).toNat (TallyCount.mk r178.Who 2 r178.To r178.Told r178.Unit r178.Under r178.Over))),A67,c68),((TallyBook.mk r73.Trips r73.Room (r73.Counts.set (0:Int).toNat (TallyCount.mk r186.Who r186.From r186.To 100 r186.Unit r186.Under r186.Over))),A77,c78),(r83,A87,c88),(r93,A97,c98),(r103,A107,c108),(r113,A117,c118),(r123,A127,c128)] 9=some (r83,A87,c88)) (gr_sl nTallyBook_len (S193.atX (i:=1) rfl)) rfl rfl ?_
 obtain ⟨r194,h195,H⟩:=bindS H
 refine p_ixE sc22 h195 (gr_sl eTallyCount_len (S193.atX (i:=6) rfl)) rfl rfl rfl<|p_fldE fl28_4 (sl_here (gr_sl eTallyCount_len (S193.atX (i:=6) rfl)) h195) rfl ?_
 refine p_stE (x' :=(TallyCount.mk r194.Who r194.From r194.To r194.Told 0 r194.Under r194.Over)) (a:=[I r194.Who,I r194.From,I r194.To,I r194.Told]) (old:=[I r194.Unit]) (b:=[I r194.Under,I r194.Over]) (vs:=[I 0]) sz3 eTallyCount_len eTallyCount_one S193 (i:=6) rfl h195 rfl (rfl:_=I 0) rfl rfl rfl rfl rfl rfl fun l198 w199 h196 h197 S200=>?_
 try clear S193
 obtain rfl:l198=(r83.Counts.set (0:Int).toNat (TallyCount.mk r194.Who r194.From r194.To r194.Told 0 r194.Under r194.Over)):=h196
 try rw [← h197]
 try rw [← h197] at S200
 have S201:=S200.grEq (l' :=[((TallyBook.mk 0 0 ([]:List TallyCount)),none,0),((TallyBook.mk 9 r3.Room r3.Counts),A7,c8),((TallyBook.mk r13.Trips 61 r13.Counts),A17,c18),((TallyBook.mk r23.Trips (-1) r23.Counts),A27,c28),((TallyBook.mk r33.Trips r33.Room (List.replicate 9 (TallyCount.mk 0 0 0 0 0 0 0))),A153,9),((TallyBook.mk r43.Trips r43.Room (r43.Counts.set (0:Int).toNat (TallyCount.mk 3 r162.From r162.To r162.Told r162.Unit r162.Under r162.Over))),A47,c48),((TallyBook.mk r53.Trips r53.Room (r53.Counts.set (0:Int).toNat (TallyCount.mk r170.Who r170.From 4 r170.Told r170.Unit r170.Under r170.Over))),A57,c58),((TallyBook.mk r63.Trips r63.Room (r63.Counts.set (1:Int).toNat (TallyCount.mk r178.Who 2 r178.To r178.Told r178.Unit r178.Under r178.Over))),A67,c68),((TallyBook.mk r73.Trips r73.Room (r73.Counts.set (0:Int).toNat (TallyCount.mk r186.Who r186.From r186.To 100 r186.Unit r186.Under r186.Over))),A77,c78),((TallyBook.mk r83.Trips r83.Room (r83.Counts.set (0:Int).toNat (TallyCount.mk r194.Who r194.From r194.To r194.Told 0 r194.Under r194.Over))),A87,c88),(r93,A97,c98),(r103,A107,c108),(r113,A117,c118),(r123,A127,c128)]) (i:=1) rfl (by simp only [List.flatMap_cons,List.flatMap_nil,nTallyBook,List.length_set]) rfl
 try clear S200
 try simp only [List.set_cons_zero,List.set_cons_succ] at S201
 refine wp_nil<|c_seq<|reg<|p_mS rfl ?_
 refine p_ixE sc26 (rfl:getI [((TallyBook.mk 0 0 ([]:List TallyCount)),none,0),((TallyBook.mk 9 r3.Room r3.Counts),A7,c8),((TallyBook.mk r13.Trips 61 r13.Counts),A17,c18),((TallyBook.mk r23.Trips (-1) r23.Counts),A27,c28),((TallyBook.mk r33.Trips r33.Room (List.replicate 9 (TallyCount.mk 0 0 0 0 0 0 0))),A153,9),((TallyBook.mk r43.Trips r43.Room (r43.Counts.set (0:Int).toNat (TallyCount.mk 3 r162.From r162.To r162.Told r162.Unit r162.Under r162.Over))),A47,c48),((TallyBook.mk r53.Trips r53.Room (r53.Counts.set (0:Int).toNat (TallyCount.mk r170.Who r170.From 4 r170.Told r170.Unit r170.Under r170.Over))),A57,c58),((TallyBook.mk r63.Trips r63.Room (r63.Counts.set (1:Int).toNat (TallyCount.mk r178.Who 2 r178.To r178.Told r178.Unit r178.Under r178.Over))),A67,c68),((TallyBook.mk r73.Trips r73.Room (r73.Counts.set (0:Int).toNat (TallyCount.mk r186.Who r186.From r186.To 100 r186.Unit r186.Under r186.Over))),A77,c78),((TallyBook.mk r83.Trips r83.Room (r83.Counts.set (0:Int).toNat (TallyCount.mk r194.Who r194.From r194.To r194.Told 0 r194.Under r194.Over))),A87,c88),(r93,A97,c98),(r103,A107,c108),(r113,A117,c118),(r123,A127,c128)] 10=some (r93,A97,c98)) (gr_sl nTallyBook_len (S201.atX (i:=1) rfl)) rfl rfl rfl ?_
 refine p_fldE fl24_2 (sl_here (gr_sl nTallyBook_len (S201.atX (i:=1) rfl)) (rfl:getI [((TallyBook.mk 0 0 ([]:List TallyCount)),none,0),((TallyBook.mk 9 r3.Room r3.Counts),A7,c8),((TallyBook.mk r13.Trips 61 r13.Counts),A17,c18),((TallyBook.mk r23.Trips (-1) r23.Counts),A27,c28),((TallyBook.mk r33.Trips r33.Room (List.replicate 9 (TallyCount.mk 0 0 0 0 0 0 0))),A153,9),((TallyBook.mk r43.Trips r43.Room (r43.Counts.set (0:Int).toNat (TallyCount.mk 3 r162.From r162.To r162.Told r162.Unit r162.Under r162.Over))),A47,c48),((TallyBook.mk r53.Trips r53.Room (r53.Counts.set (0:Int).toNat (TallyCount.mk r170.Who r170.From 4 r170.Told r170.Unit r170.Under r170.Over))),A57,c58),((TallyBook.mk r63.Trips r63.Room (r63.Counts.set (1:Int).toNat (TallyCount.mk r178.Who 2 r178.To r178.Told r178.Unit r178.Under r178.Over))),A67,c68),((TallyBook.mk r73.Trips r73.Room (r73.Counts.set (0:Int).toNat (TallyCount.mk r186.Who r186.From r186.To 100 r186.Unit r186.Under r186.Over))),A77,c78),((TallyBook.mk r83.Trips r83.Room (r83.Counts.set (0:Int).toNat (TallyCount.mk r194.Who r194.From r194.To r194.Told 0 r194.Under r194.Over))),A87,c88),(r93,A97,c98),(r103,A107,c108),(r113,A117,c118),(r123,A127,c128)] 10=some (r93,A97,c98))) rfl ?_
 refine p_ldE ty22 (rfl:getI [((TallyBook.mk 0 0 ([]:List TallyCount)),none,0),((TallyBook.mk 9 r3.Room r3.Counts),A7,c8),((TallyBook.mk r13.Trips 61 r13.Counts),A17,c18),((TallyBook.mk r23.Trips (-1) r23.Counts),A27,c28),((TallyBook.mk r33.Trips r33.Room (List.replicate 9 (TallyCount.mk 0 0 0 0 0 0 0))),A153,9),((TallyBook.mk r43.Trips r43.Room (r43.Counts.set (0:Int).toNat (TallyCount.mk 3 r162.From r162.To r162.Told r162.Unit r162.Under r162.Over))),A47,c48),((TallyBook.mk r53.Trips r53.Room (r53.Counts.set (0:Int).toNat (TallyCount.mk r170.Who r170.From 4 r170.Told r170.Unit r170.Under r170.Over))),A57,c58),((TallyBook.mk r63.Trips r63.Room (r63.Counts.set (1:Int).toNat (TallyCount.mk r178.Who 2 r178.To r178.Told r178.Unit r178.Under r178.Over))),A67,c68),((TallyBook.mk r73.Trips r73.Room (r73.Counts.set (0:Int).toNat (TallyCount.mk r186.Who r186.From r186.To 100 r186.Unit r186.Under r186.Over))),A77,c78),((TallyBook.mk r83.Trips r83.Room (r83.Counts.set (0:Int).toNat (TallyCount.mk r194.Who r194.From r194.To r194.Told 0 r194.Under r194.Over))),A87,c88),(r93,A97,c98),(r103,A107,c108),(r113,A117,c118),(r123,A127,c128)] 10=some (r93,A97,c98)) (gr_sl nTallyBook_len (S201.atX (i:=1) rfl)) rfl rfl ?_
 obtain ⟨r202,h203,H⟩:=bindS H
 refine p_ixE sc22 h203 (gr_sl eTallyCount_len (S201.atX (i:=5) rfl)) rfl rfl rfl<|p_fldE fl28_4 (sl_here (gr_sl eTallyCount_len (S201.atX (i:=5) rfl)) h203) rfl ?_
 refine p_stE (x' :=(TallyCount.mk r202.Who r202.From r202.To r202.Told 21 r202.Under r202.Over)) (a:=[I r202.Who,I r202.From,I r202.To,I r202.Told]) (old:=[I r202.Unit]) (b:=[I r202.Under,I r202.Over]) (vs:=[I 21]) sz3 eTallyCount_len eTallyCount_one S201 (i:=5) rfl h203 rfl (rfl:_=I 21) rfl rfl rfl rfl rfl rfl fun l206 w207 h204 h205 S208=>?_
 try clear S201
 obtain rfl:l206=(r93.Counts.set (0:Int).toNat (TallyCount.mk r202.Who r202.From r202.To r202.Told 21 r202.Under r202.Over)):=h204
 try rw [← h205]
 try rw [← h205] at S208
 have S209:=S208.grEq (l' :=[((TallyBook.mk 0 0 ([]:List TallyCount)),none,0),((TallyBook.mk 9 r3.Room r3.Counts),A7,c8),((TallyBook.mk r13.Trips 61 r13.Counts),A17,c18),((TallyBook.mk r23.Trips (-1) r23.Counts),A27,c28),((TallyBook.mk r33.Trips r33.Room (List.replicate 9 (TallyCount.mk 0 0 0 0 0 0 0))),A153,9),((TallyBook.mk r43.Trips r43.Room (r43.Counts.set (0:Int).toNat (TallyCount.mk 3 r162.From r162.To r162.Told r162.Unit r162.Under r162.Over))),A47,c48),((TallyBook.mk r53.Trips r53.Room (r53.Counts.set (0:Int).toNat (TallyCount.mk r170.Who r170.From 4 r170.Told r170.Unit r170.Under r170.Over))),A57,c58),((TallyBook.mk r63.Trips r63.Room (r63.Counts.set (1:Int).toNat (TallyCount.mk r178.Who 2 r178.To r178.Told r178.Unit r178.Under r178.Over))),A67,c68),((TallyBook.mk r73.Trips r73.Room (r73.Counts.set (0:Int).toNat (TallyCount.mk r186.Who r186.From r186.To 100 r186.Unit r186.Under r186.Over))),A77,c78),((TallyBook.mk r83.Trips r83.Room (r83.Counts.set (0:Int).toNat (TallyCount.mk r194.Who r194.From r194.To r194.Told 0 r194.Under r194.Over))),A87,c88),((TallyBook.mk r93.Trips r93.Room (r93.Counts.set (0:Int).toNat (TallyCount.mk r202.Who r202.From r202.To r202.Told 21 r202.Under r202.Over))),A97,c98),(r103,A107,c108),(r113,A117,c118),(r123,A127,c128)]) (i:=1) rfl (by simp only [List.flatMap_cons,List.flatMap_nil,nTallyBook,List.length_set]) rfl
 try clear S208
 try simp only [List.set_cons_zero,List.set_cons_succ] at S209
 refine wp_nil<|c_seq<|reg<|p_mS rfl ?_
 refine p_ixE sc26 (rfl:getI [((TallyBook.mk 0 0 ([]:List TallyCount)),none,0),((TallyBook.mk 9 r3.Room r3.Counts),A7,c8),((TallyBook.mk r13.Trips 61 r13.Counts),A17,c18),((TallyBook.mk r23.Trips (-1) r23.Counts),A27,c28),((TallyBook.mk r33.Trips r33.Room (List.replicate 9 (TallyCount.mk 0 0 0 0 0 0 0))),A153,9),((TallyBook.mk r43.Trips r43.Room (r43.Counts.set (0:Int).toNat (TallyCount.mk 3 r162.From r162.To r162.Told r162.Unit r162.Under r162.Over))),A47,c48),((TallyBook.mk r53.Trips r53.Room (r53.Counts.set (0:Int).toNat (TallyCount.mk r170.Who r170.From 4 r170.Told r170.Unit r170.Under r170.Over))),A57,c58),((TallyBook.mk r63.Trips r63.Room (r63.Counts.set (1:Int).toNat (TallyCount.mk r178.Who 2 r178.To r178.Told r178.Unit r178.Under r178.Over))),A67,c68),((TallyBook.mk r73.Trips r73.Room (r73.Counts.set (0:Int).toNat (TallyCount.mk r186.Who r186.From r186.To 100 r186.Unit r186.Under r186.Over))),A77,c78),((TallyBook.mk r83.Trips r83.Room (r83.Counts.set (0:Int).toNat (TallyCount.mk r194.Who r194.From r194.To r194.Told 0 r194.Under r194.Over))),A87,c88),((TallyBook.mk r93.Trips r93.Room (r93.Counts.set (0:Int).toNat (TallyCount.mk r202.Who r202.From r202.To r202.Told 21 r202.Under r202.Over))),A97,c98),(r103,A107,c108),(r113,A117,c118),(r123,A127,c128)] 11=some (r103,A107,c108)) (gr_sl nTallyBook_len (S209.atX (i:=1) rfl)) rfl rfl rfl ?_
 refine p_fldE fl24_2 (sl_here (gr_sl nTallyBook_len (S209.atX (i:=1) rfl)) (rfl:getI [((TallyBook.mk 0 0 ([]:List TallyCount)),none,0),((TallyBook.mk 9 r3.Room r3.Counts),A7,c8),((TallyBook.mk r13.Trips 61 r13.Counts),A17,c18),((TallyBook.mk r23.Trips (-1) r23.Counts),A27,c28),((TallyBook.mk r33.Trips r33.Room (List.replicate 9 (TallyCount.mk 0 0 0 0 0 0 0))),A153,9),((TallyBook.mk r43.Trips r43.Room (r43.Counts.set (0:Int).toNat (TallyCount.mk 3 r162.From r162.To r162.Told r162.Unit r162.Under r162.Over))),A47,c48),((TallyBook.mk r53.Trips r53.Room (r53.Counts.set (0:Int).toNat (TallyCount.mk r170.Who r170.From 4 r170.Told r170.Unit r170.Under r170.Over))),A57,c58),((TallyBook.mk r63.Trips r63.Room (r63.Counts.set (1:Int).toNat (TallyCount.mk r178.Who 2 r178.To r178.Told r178.Unit r178.Under r178.Over))),A67,c68),((TallyBook.mk r73.Trips r73.Room (r73.Counts.set (0:Int).toNat (TallyCount.mk r186.Who r186.From r186.To 100 r186.Unit r186.Under r186.Over))),A77,c78),((TallyBook.mk r83.Trips r83.Room (r83.Counts.set (0:Int).toNat (TallyCount.mk r194.Who r194.From r194.To r194.Told 0 r194.Under r194.Over))),A87,c88),((TallyBook.mk r93.Trips r93.Room (r93.Counts.set (0:Int).toNat (TallyCount.mk r202.Who r202.From r202.To r202.Told 21 r202.Under r202.Over))),A97,c98),(r103,A107,c108),(r113,A117,c118),(r123,A127,c128)] 11=some (r103,A107,c108))) rfl ?_
 refine p_ldE ty22 (rfl:getI [((TallyBook.mk 0 0 ([]:List TallyCount)),none,0),((TallyBook.mk 9 r3.Room r3.Counts),A7,c8),((TallyBook.mk r13.Trips 61 r13.Counts),A17,c18),((TallyBook.mk r23.Trips (-1) r23.Counts),A27,c28),((TallyBook.mk r33.Trips r33.Room (List.replicate 9 (TallyCount.mk 0 0 0 0 0 0 0))),A153,9),((TallyBook.mk r43.Trips r43.Room (r43.Counts.set (0:Int).toNat (TallyCount.mk 3 r162.From r162.To r162.Told r162.Unit r162.Under r162.Over))),A47,c48),((TallyBook.mk r53.Trips r53.Room (r53.Counts.set (0:Int).toNat (TallyCount.mk r170.Who r170.From 4 r170.Told r170.Unit r170.Under r170.Over))),A57,c58),((TallyBook.mk r63.Trips r63.Room (r63.Counts.set (1:Int).toNat (TallyCount.mk r178.Who 2 r178.To r178.Told r178.Unit r178.Under r178.Over))),A67,c68),((TallyBook.mk r73.Trips r73.Room (r73.Counts.set (0:Int).toNat (TallyCount.mk r186.Who r186.From r186.To 100 r186.Unit r186.Under r186.Over))),A77,c78),((TallyBook.mk r83.Trips r83.Room (r83.Counts.set (0:Int).toNat (TallyCount.mk r194.Who r194.From r194.To r194.Told 0 r194.Under r194.Over))),A87,c88),((TallyBook.mk r93.Trips r93.Room (r93.Counts.set (0:Int).toNat (TallyCount.mk r202.Who r202.From r202.To r202.Told 21 r202.Under r202.Over))),A97,c98),(r103,A107,c108),(r113,A117,c118),(r123,A127,c128)] 11=some (r103,A107,c108)) (gr_sl nTallyBook_len (S209.atX (i:=1) rfl)) rfl rfl ?_
 obtain ⟨r210,h211,H⟩:=bindS H
 refine p_ixE sc22 h211 (gr_sl eTallyCount_len (S209.atX (i:=4) rfl)) rfl rfl rfl<|p_fldE fl28_5 (sl_here (gr_sl eTallyCount_len (S209.atX (i:=4) rfl)) h211) rfl ?_
 refine p_stE (x' :=(TallyCount.mk r210.Who r210.From r210.To r210.Told r210.Unit 31 r210.Over)) (a:=[I r210.Who,I r210.From,I r210.To,I r210.Told,I r210.Unit]) (old:=[I r210.Under]) (b:=[I r210.Over]) (vs:=[I 31]) sz3 eTallyCount_len eTallyCount_one S209 (i:=4) rfl h211 rfl (rfl:_=I 31) rfl rfl rfl rfl rfl rfl fun l214 w215 h212 h213 S216=>?_
 try clear S209
 obtain rfl:l214=(r103.Counts.set (0:Int).toNat (TallyCount.mk r210.Who r210.From r210.To r210.Told r210.Unit 31 r210.Over)):=h212
 try rw [← h213]
 try rw [← h213] at S216
 have S217:=S216.grEq (l' :=[((TallyBook.mk 0 0 ([]:List TallyCount)),none,0),((TallyBook.mk 9 r3.Room r3.Counts),A7,c8),((TallyBook.mk r13.Trips 61 r13.Counts),A17,c18),((TallyBook.mk r23.Trips (-1) r23.Counts),A27,c28),((TallyBook.mk r33.Trips r33.Room (List.replicate 9 (TallyCount.mk 0 0 0 0 0 0 0))),A153,9),((TallyBook.mk r43.Trips r43.Room (r43.Counts.set (0:Int).toNat (TallyCount.mk 3 r162.From r162.To r162.Told r162.Unit r162.Under r162.Over))),A47,c48),((TallyBook.mk r53.Trips r53.Room (r53.Counts.set (0:Int).toNat (TallyCount.mk r170.Who r170.From 4 r170.Told r170.Unit r170.Under r170.Over))),A57,c58),((TallyBook.mk r63.Trips r63.Room (r63.Counts.set (1:Int).toNat (TallyCount.mk r178.Who 2 r178.To r178.Told r178.Unit r178.Under r178.Over))),A67,c68),((TallyBook.mk r73.Trips r73.Room (r73.Counts.set (0:Int).toNat (TallyCount.mk r186.Who r186.From r186.To 100 r186.Unit r186.Under r186.Over))),A77,c78),((TallyBook.mk r83.Trips r83.Room (r83.Counts.set (0:Int).toNat (TallyCount.mk r194.Who r194.From r194.To r194.Told 0 r194.Under r194.Over))),A87,c88),((TallyBook.mk r93.Trips r93.Room (r93.Counts.set (0:Int).toNat (TallyCount.mk r202.Who r202.From r202.To r202.Told 21 r202.Under r202.Over))),A97,c98),((TallyBook.mk r103.Trips r103.Room (r103.Counts.set (0:Int).toNat (TallyCount.mk r210.Who r210.From r210.To r210.Told r210.Unit 31 r210.Over))),A107,c108),(r113,A117,c118),(r123,A127,c128)]) (i:=1) rfl (by simp only [List.flatMap_cons,List.flatMap_nil,nTallyBook,List.length_set]) rfl
 try clear S216
 try simp only [List.set_cons_zero,List.set_cons_succ] at S217
 refine wp_nil<|c_seq<|reg<|p_mS rfl ?_
 refine p_ixE sc26 (rfl:getI [((TallyBook.mk 0 0 ([]:List TallyCount)),none,0),((TallyBook.mk 9 r3.Room r3.Counts),A7,c8),((TallyBook.mk r13.Trips 61 r13.Counts),A17,c18),((TallyBook.mk r23.Trips (-1) r23.Counts),A27,c28),((TallyBook.mk r33.Trips r33.Room (List.replicate 9 (TallyCount.mk 0 0 0 0 0 0 0))),A153,9),((TallyBook.mk r43.Trips r43.Room (r43.Counts.set (0:Int).toNat (TallyCount.mk 3 r162.From r162.To r162.Told r162.Unit r162.Under r162.Over))),A47,c48),((TallyBook.mk r53.Trips r53.Room (r53.Counts.set (0:Int).toNat (TallyCount.mk r170.Who r170.From 4 r170.Told r170.Unit r170.Under r170.Over))),A57,c58),((TallyBook.mk r63.Trips r63.Room (r63.Counts.set (1:Int).toNat (TallyCount.mk r178.Who 2 r178.To r178.Told r178.Unit r178.Under r178.Over))),A67,c68),((TallyBook.mk r73.Trips r73.Room (r73.Counts.set (0:Int).toNat (TallyCount.mk r186.Who r186.From r186.To 100 r186.Unit r186.Under r186.Over))),A77,c78),((TallyBook.mk r83.Trips r83.Room (r83.Counts.set (0:Int).toNat (TallyCount.mk r194.Who r194.From r194.To r194.Told 0 r194.Under r194.Over))),A87,c88),((TallyBook.mk r93.Trips r93.Room (r93.Counts.set (0:Int).toNat (TallyCount.mk r202.Who r202.From r202.To r202.Told 21 r202.Under r202.Over))),A97,c98),((TallyBook.mk r103.Trips r103.Room (r103.Counts.set (0:Int).toNat (TallyCount.mk r210.Who r210.From r210.To r210.Told r210.Unit 31 r210.Over))),A107,c108),(r113,A117,c118),(r123,A127,c128)] 12=some (r113,A117,c118)) (gr_sl nTallyBook_len (S217.atX (i:=1) rfl)) rfl rfl rfl ?_
 refine p_fldE fl24_2 (sl_here (gr_sl nTallyBook_len (S217.atX (i:=1) rfl)) (rfl:getI [((TallyBook.mk 0 0 ([]:List TallyCount)),none,0),((TallyBook.mk 9 r3.Room r3.Counts),A7,c8),((TallyBook.mk r13.Trips 61 r13.Counts),A17,c18),((TallyBook.mk r23.Trips (-1) r23.Counts),A27,c28),((TallyBook.mk r33.Trips r33.Room (List.replicate 9 (TallyCount.mk 0 0 0 0 0 0 0))),A153,9),((TallyBook.mk r43.Trips r43.Room (r43.Counts.set (0:Int).toNat (TallyCount.mk 3 r162.From r162.To r162.Told r162.Unit r162.Under r162.Over))),A47,c48),((TallyBook.mk r53.Trips r53.Room (r53.Counts.set (0:Int).toNat (TallyCount.mk r170.Who r170.From 4 r170.Told r170.Unit r170.Under r170.Over))),A57,c58),((TallyBook.mk r63.Trips r63.Room (r63.Counts.set (1:Int).toNat (TallyCount.mk r178.Who 2 r178.To r178.Told r178.Unit r178.Under r178.Over))),A67,c68),((TallyBook.mk r73.Trips r73.Room (r73.Counts.set (0:Int).toNat (TallyCount.mk r186.Who r186.From r186.To 100 r186.Unit r186.Under r186.Over))),A77,c78),((TallyBook.mk r83.Trips r83.Room (r83.Counts.set (0:Int).toNat (TallyCount.mk r194.Who r194.From r194.To r194.Told 0 r194.Under r194.Over))),A87,c88),((TallyBook.mk r93.Trips r93.Room (r93.Counts.set (0:Int).toNat (TallyCount.mk r202.Who r202.From r202.To r202.Told 21 r202.Under r202.Over))),A97,c98),((TallyBook.mk r103.Trips r103.Room (r103.Counts.set (0:Int).toNat (TallyCount.mk r210.Who r210.From r210.To r210.Told r210.Unit 31 r210.Over))),A107,c108),(r113,A117,c118),(r123,A127,c128)] 12=some (r113,A117,c118))) rfl ?_
 refine p_ldE ty22 (rfl:getI [((TallyBook.mk 0 0 ([]:List TallyCount)),none,0),((TallyBook.mk 9 r3.Room r3.Counts),A7,c8),((TallyBook.mk r13.Trips 61 r13.Counts),A17,c18),((TallyBook.mk r23.Trips (-1) r23.Counts),A27,c28),((TallyBook.mk r33.Trips r33.Room (List.replicate 9 (TallyCount.mk 0 0 0 0 0 0 0))),A153,9),((TallyBook.mk r43.Trips r43.Room (r43.Counts.set (0:Int).toNat (TallyCount.mk 3 r162.From r162.To r162.Told r162.Unit r162.Under r162.Over))),A47,c48),((TallyBook.mk r53.Trips r53.Room (r53.Counts.set (0:Int).toNat (TallyCount.mk r170.Who r170.From 4 r170.Told r170.Unit r170.Under r170.Over))),A57,c58),((TallyBook.mk r63.Trips r63.Room (r63.Counts.set (1:Int).toNat (TallyCount.mk r178.Who 2 r178.To r178.Told r178.Unit r178.Under r178.Over))),A67,c68),((TallyBook.mk r73.Trips r73.Room (r73.Counts.set (0:Int).toNat (TallyCount.mk r186.Who r186.From r186.To 100 r186.Unit r186.Under r186.Over))),A77,c78),((TallyBook.mk r83.Trips r83.Room (r83.Counts.set (0:Int).toNat (TallyCount.mk r194.Who r194.From r194.To r194.Told 0 r194.Under r194.Over))),A87,c88),((TallyBook.mk r93.Trips r93.Room (r93.Counts.set (0:Int).toNat (TallyCount.mk r202.Who r202.From r202.To r202.Told 21 r202.Under r202.Over))),A97,c98),((TallyBook.mk r103.Trips r103.Room (r103.Counts.set (0:Int).toNat (TallyCount.mk r210.Who r210.From r210.To r210.Told r210.Unit 31 r210.Over))),A107,c108),(r113,A117,c118),(r123,A127,c128)] 12=some (r113,A117,c118)) (gr_sl nTallyBook_len (S217.atX (i:=1) rfl)) rfl rfl ?_
 obtain ⟨r218,h219,H⟩:=bindS H
 refine p_ixE sc22 h219 (gr_sl eTallyCount_len (S217.atX (i:=3) rfl)) rfl rfl rfl<|p_fldE fl28_6 (sl_here (gr_sl eTallyCount_len (S217.atX (i:=3) rfl)) h219) rfl ?_
 refine p_stE (x' :=(TallyCount.mk r218.Who r218.From r218.To r218.Told r218.Unit r218.Under (-1))) (a:=[I r218.Who,I r218.From,I r218.To,I r218.Told,I r218.Unit,I r218.Under]) (old:=[I r218.Over]) (b:=[]) (vs:=[I (-1)]) sz3 eTallyCount_len eTallyCount_one S217 (i:=3) rfl h219 rfl (rfl:_=I (-1)) rfl rfl rfl rfl rfl rfl fun l222 w223 h220 h221 S224=>?_
 try clear S217
 obtain rfl:l222=(r113.Counts.set (2:Int).toNat (TallyCount.mk r218.Who r218.From r218.To r218.Told r218.Unit r218.Under (-1))):=h220
 try rw [← h221]
 try rw [← h221] at S224
 have S225:=S224.grEq (l' :=[((TallyBook.mk 0 0 ([]:List TallyCount)),none,0),((TallyBook.mk 9 r3.Room r3.Counts),A7,c8),((TallyBook.mk r13.Trips 61 r13.Counts),A17,c18),((TallyBook.mk r23.Trips (-1) r23.Counts),A27,c28),((TallyBook.mk r33.Trips r33.Room (List.replicate 9 (TallyCount.mk 0 0 0 0 0 0 0))),A153,9),((TallyBook.mk r43.Trips r43.Room (r43.Counts.set (0:Int).toNat (TallyCount.mk 3 r162.From r162.To r162.Told r162.Unit r162.Under r162.Over))),A47,c48),((TallyBook.mk r53.Trips r53.Room (r53.Counts.set (0:Int).toNat (TallyCount.mk r170.Who r170.From 4 r170.Told r170.Unit r170.Under r170.Over))),A57,c58),((TallyBook.mk r63.Trips r63.Room (r63.Counts.set (1:Int).toNat (TallyCount.mk r178.Who 2 r178.To r178.Told r178.Unit r178.Under r178.Over))),A67,c68),((TallyBook.mk r73.Trips r73.Room (r73.Counts.set (0:Int).toNat (TallyCount.mk r186.Who r186.From r186.To 100 r186.Unit r186.Under r186.Over))),A77,c78),((TallyBook.mk r83.Trips r83.Room (r83.Counts.set (0:Int).toNat (TallyCount.mk r194.Who r194.From r194.To r194.Told 0 r194.Under r194.Over))),A87,c88),((TallyBook.mk r93.Trips r93.Room (r93.Counts.set (0:Int).toNat (TallyCount.mk r202.Who r202.From r202.To r202.Told 21 r202.Under r202.Over))),A97,c98),((TallyBook.mk r103.Trips r103.Room (r103.Counts.set (0:Int).toNat (TallyCount.mk r210.Who r210.From r210.To r210.Told r210.Unit 31 r210.Over))),A107,c108),((TallyBook.mk r113.Trips r113.Room (r113.Counts.set (2:Int).toNat (TallyCount.mk r218.Who r218.From r218.To r218.Told r218.Unit r218.Under (-1)))),A117,c118),(r123,A127,c128)]) (i:=1) rfl (by simp only [List.flatMap_cons,List.flatMap_nil,nTallyBook,List.length_set]) rfl
 try clear S224
 try simp only [List.set_cons_zero,List.set_cons_succ] at S225
 refine wp_nil<|c_seq<|reg<|p_mS rfl ?_
 refine p_ixE sc26 (rfl:getI [((TallyBook.mk 0 0 ([]:List TallyCount)),none,0),((TallyBook.mk 9 r3.Room r3.Counts),A7,c8),((TallyBook.mk r13.Trips 61 r13.Counts),A17,c18),((TallyBook.mk r23.Trips (-1) r23.Counts),A27,c28),((TallyBook.mk r33.Trips r33.Room (List.replicate 9 (TallyCount.mk 0 0 0 0 0 0 0))),A153,9),((TallyBook.mk r43.Trips r43.Room (r43.Counts.set (0:Int).toNat (TallyCount.mk 3 r162.From r162.To r162.Told r162.Unit r162.Under r162.Over))),A47,c48),((TallyBook.mk r53.Trips r53.Room (r53.Counts.set (0:Int).toNat (TallyCount.mk r170.Who r170.From 4 r170.Told r170.Unit r170.Under r170.Over))),A57,c58),((TallyBook.mk r63.Trips r63.Room (r63.Counts.set (1:Int).toNat (TallyCount.mk r178.Who 2 r178.To r178.Told r178.Unit r178.Under r178.Over))),A67,c68),((TallyBook.mk r73.Trips r73.Room (r73.Counts.set (0:Int).toNat (TallyCount.mk r186.Who r186.From r186.To 100 r186.Unit r186.Under r186.Over))),A77,c78),((TallyBook.mk r83.Trips r83.Room (r83.Counts.set (0:Int).toNat (TallyCount.mk r194.Who r194.From r194.To r194.Told 0 r194.Under r194.Over))),A87,c88),((TallyBook.mk r93.Trips r93.Room (r93.Counts.set (0:Int).toNat (TallyCount.mk r202.Who r202.From r202.To r202.Told 21 r202.Under r202.Over))),A97,c98),((TallyBook.mk r103.Trips r103.Room (r103.Counts.set (0:Int).toNat (TallyCount.mk r210.Who r210.From r210.To r210.Told r210.Unit 31 r210.Over))),A107,c108),((TallyBook.mk r113.Trips r113.Room (r113.Counts.set (2:Int).toNat (TallyCount.mk r218.Who r218.From r218.To r218.Told r218.Unit r218.Under (-1)))),A117,c118),(r123,A127,c128)] 13=some (r123,A127,c128)) (gr_sl nTallyBook_len (S225.atX (i:=1) rfl)) rfl rfl rfl ?_
 refine p_fldE fl24_2 (sl_here (gr_sl nTallyBook_len (S225.atX (i:=1) rfl)) (rfl:getI [((TallyBook.mk 0 0 ([]:List TallyCount)),none,0),((TallyBook.mk 9 r3.Room r3.Counts),A7,c8),((TallyBook.mk r13.Trips 61 r13.Counts),A17,c18),((TallyBook.mk r23.Trips (-1) r23.Counts),A27,c28),((TallyBook.mk r33.Trips r33.Room (List.replicate 9 (TallyCount.mk 0 0 0 0 0 0 0))),A153,9),((TallyBook.mk r43.Trips r43.Room (r43.Counts.set (0:Int).toNat (TallyCount.mk 3 r162.From r162.To r162.Told r162.Unit r162.Under r162.Over))),A47,c48),((TallyBook.mk r53.Trips r53.Room (r53.Counts.set (0:Int).toNat (TallyCount.mk r170.Who r170.From 4 r170.Told r170.Unit r170.Under r170.Over))),A57,c58),((TallyBook.mk r63.Trips r63.Room (r63.Counts.set (1:Int).toNat (TallyCount.mk r178.Who 2 r178.To r178.Told r178.Unit r178.Under r178.Over))),A67,c68),((TallyBook.mk r73.Trips r73.Room (r73.Counts.set (0:Int).toNat (TallyCount.mk r186.Who r186.From r186.To 100 r186.Unit r186.Under r186.Over))),A77,c78),((TallyBook.mk r83.Trips r83.Room (r83.Counts.set (0:Int).toNat (TallyCount.mk r194.Who r194.From r194.To r194.Told 0 r194.Under r194.Over))),A87,c88),((TallyBook.mk r93.Trips r93.Room (r93.Counts.set (0:Int).toNat (TallyCount.mk r202.Who r202.From r202.To r202.Told 21 r202.Under r202.Over))),A97,c98),((TallyBook.mk r103.Trips r103.Room (r103.Counts.set (0:Int).toNat (TallyCount.mk r210.Who r210.From r210.To r210.Told r210.Unit 31 r210.Over))),A107,c108),((TallyBook.mk r113.Trips r113.Room (r113.Counts.set (2:Int).toNat (TallyCount.mk r218.Who r218.From r218.To r218.Told r218.Unit r218.Under (-1)))),A117,c118),(r123,A127,c128)] 13=some (r123,A127,c128))) rfl ?_
 refine p_ldE ty22 (rfl:getI [((TallyBook.mk 0 0 ([]:List TallyCount)),none,0),((TallyBook.mk 9 r3.Room r3.Counts),A7,c8),((TallyBook.mk r13.Trips 61 r13.Counts),A17,c18),((TallyBook.mk r23.Trips (-1) r23.Counts),A27,c28),((TallyBook.mk r33.Trips r33.Room (List.replicate 9 (TallyCount.mk 0 0 0 0 0 0 0))),A153,9),((TallyBook.mk r43.Trips r43.Room (r43.Counts.set (0:Int).toNat (TallyCount.mk 3 r162.From r162.To r162.Told r162.Unit r162.Under r162.Over))),A47,c48),((TallyBook.mk r53.Trips r53.Room (r53.Counts.set (0:Int).toNat (TallyCount.mk r170.Who r170.From 4 r170.Told r170.Unit r170.Under r170.Over))),A57,c58),((TallyBook.mk r63.Trips r63.Room (r63.Counts.set (1:Int).toNat (TallyCount.mk r178.Who 2 r178.To r178.Told r178.Unit r178.Under r178.Over))),A67,c68),((TallyBook.mk r73.Trips r73.Room (r73.Counts.set (0:Int).toNat (TallyCount.mk r186.Who r186.From r186.To 100 r186.Unit r186.Under r186.Over))),A77,c78),((TallyBook.mk r83.Trips r83.Room (r83.Counts.set (0:Int).toNat (TallyCount.mk r194.Who r194.From r194.To r194.Told 0 r194.Under r194.Over))),A87,c88),((TallyBook.mk r93.Trips r93.Room (r93.Counts.set (0:Int).toNat (TallyCount.mk r202.Who r202.From r202.To r202.Told 21 r202.Under r202.Over))),A97,c98),((TallyBook.mk r103.Trips r103.Room (r103.Counts.set (0:Int).toNat (TallyCount.mk r210.Who r210.From r210.To r210.Told r210.Unit 31 r210.Over))),A107,c108),((TallyBook.mk r113.Trips r113.Room (r113.Counts.set (2:Int).toNat (TallyCount.mk r218.Who r218.From r218.To r218.Told r218.Unit r218.Under (-1)))),A117,c118),(r123,A127,c128)] 13=some (r123,A127,c128)) (gr_sl nTallyBook_len (S225.atX (i:=1) rfl)) rfl rfl ?_
 obtain ⟨r226,h227,H⟩:=bindS H
 refine p_ixE sc22 h227 (gr_sl eTallyCount_len (S225.atX (i:=2) rfl)) rfl rfl rfl<|p_fldE fl28_6 (sl_here (gr_sl eTallyCount_len (S225.atX (i:=2) rfl)) h227) rfl ?_
 refine p_stE (x' :=(TallyCount.mk r226.Who r226.From r226.To r226.Told r226.Unit r226.Under 1)) (a:=[I r226.Who,I r226.From,I r226.To,I r226.Told,I r226.Unit,I r226.Under]) (old:=[I r226.Over]) (b:=[]) (vs:=[I 1]) sz3 eTallyCount_len eTallyCount_one S225 (i:=2) rfl h227 rfl (rfl:_=I 1) rfl rfl rfl rfl rfl rfl fun l230 w231 h228 h229 S232=>?_
 try clear S225
 obtain rfl:l230=(r123.Counts.set (1:Int).toNat (TallyCount.mk r226.Who r226.From r226.To r226.Told r226.Unit r226.Under 1)):=h228
 try rw [← h229]
 try rw [← h229] at S232
 have S233:=S232.grEq (l' :=[((TallyBook.mk 0 0 ([]:List TallyCount)),none,0),((TallyBook.mk 9 r3.Room r3.Counts),A7,c8),((TallyBook.mk r13.Trips 61 r13.Counts),A17,c18),((TallyBook.mk r23.Trips (-1) r23.Counts),A27,c28),((TallyBook.mk r33.Trips r33.Room (List.replicate 9 (TallyCount.mk 0 0 0 0 0 0 0))),A153,9),((TallyBook.mk r43.Trips r43.Room (r43.Counts.set (0:Int).toNat (TallyCount.mk 3 r162.From r162.To r162.Told r162.Unit r162.Under r162.Over))),A47,c48),((TallyBook.mk r53.Trips r53.Room (r53.Counts.set (0:Int).toNat (TallyCount.mk r170.Who r170.From 4 r170.Told r170.Unit r170.Under r170.Over))),A57,c58),((TallyBook.mk r63.Trips r63.Room (r63.Counts.set (1:Int).toNat (TallyCount.mk r178.Who 2 r178.To r178.Told r178.Unit r178.Under r178.Over))),A67,c68),((TallyBook.mk r73.Trips r73.Room (r73.Counts.set (0:Int).toNat (TallyCount.mk r186.Who r186.From r186.To 100 r186.Unit r186.Under r186.Over))),A77,c78),((TallyBook.mk r83.Trips r83.Room (r83.Counts.set (0:Int).toNat (TallyCount.mk r194.Who r194.From r194.To r194.Told 0 r194.Under r194.Over))),A87,c88),((TallyBook.mk r93.Trips r93.Room (r93.Counts.set (0:Int).toNat (TallyCount.mk r202.Who r202.From r202.To r202.Told 21 r202.Under r202.Over))),A97,c98),((TallyBook.mk r103.Trips r103.Room (r103.Counts.set (0:Int).toNat (TallyCount.mk r210.Who r210.From r210.To r210.Told r210.Unit 31 r210.Over))),A107,c108),((TallyBook.mk r113.Trips r113.Room (r113.Counts.set (2:Int).toNat (TallyCount.mk r218.Who r218.From r218.To r218.Told r218.Unit r218.Under (-1)))),A117,c118),((TallyBook.mk r123.Trips r123.Room (r123.Counts.set (1:Int).toNat (TallyCount.mk r226.Who r226.From r226.To r226.Told r226.Unit r226.Under 1))),A127,c128)]) (i:=1) rfl (by simp only [List.flatMap_cons,List.flatMap_nil,nTallyBook,List.length_set]) rfl
 try clear S232
 try simp only [List.set_cons_zero,List.set_cons_succ] at S233
 refine wp_nil<|c_seq<|c_seq<|reg<|p_aI rfl<|wp_nil<|c_block ?_
 have S234:=S233.fixRd eTallyCount_len (i:=14) rfl
 try clear S233
 have S235:=S234.fixRd eTallyCount_len (i:=13) rfl
 try clear S234
 have S236:=S235.fixRd eTallyCount_len (i:=12) rfl
 try clear S235
 have S237:=S236.fixRd eTallyCount_len (i:=0) rfl
 try clear S236
 have S238:=S237.fixRd eTallyCount_len (i:=9) rfl
 try clear S237
 have S239:=S238.fixRd eTallyCount_len (i:=8) rfl
 try clear S238
 have S240:=S239.fixRd eTallyCount_len (i:=7) rfl
 try clear S239
 have S241:=S240.fixRd eTallyCount_len (i:=6) rfl
 try clear S240
 have S242:=S241.fixRd eTallyCount_len (i:=5) rfl
 try clear S241
 have S243:=S242.fixRd eTallyCount_len (i:=4) rfl
 try clear S242
 have S244:=S243.fixRd eTallyCount_len (i:=3) rfl
 try clear S243
 have S245:=S244.fixRd eTallyCount_len (i:=2) rfl
 try clear S244
 have S246:=S245.fixRd eTallyCount_len (i:=1) rfl
 try clear S245
 have S247:=S246.addL' (p:=rd eTallyCount 7 none 0 ([]:List TallyCount)) (rd_nil (Nat.zero_le _)) (fun _ h_=>(h_.1 rfl).elim)
 try clear S246
 have S248:=S247.riL (inner:=nTallyBookI) (xs:=[(TallyBook.mk 0 0 ([]:List TallyCount)),(TallyBook.mk 9 r3.Room r3.Counts),(TallyBook.mk r13.Trips 61 r13.Counts),(TallyBook.mk r23.Trips (-1) r23.Counts),(TallyBook.mk r33.Trips r33.Room (List.replicate 9 (TallyCount.mk 0 0 0 0 0 0 0))),(TallyBook.mk r43.Trips r43.Room (r43.Counts.set (0:Int).toNat (TallyCount.mk 3 r162.From r162.To r162.Told r162.Unit r162.Under r162.Over))),(TallyBook.mk r53.Trips r53.Room (r53.Counts.set (0:Int).toNat (TallyCount.mk r170.Who r170.From 4 r170.Told r170.Unit r170.Under r170.Over))),(TallyBook.mk r63.Trips r63.Room (r63.Counts.set (1:Int).toNat (TallyCount.mk r178.Who 2 r178.To r178.Told r178.Unit r178.Under r178.Over))),(TallyBook.mk r73.Trips r73.Room (r73.Counts.set (0:Int).toNat (TallyCount.mk r186.Who r186.From r186.To 100 r186.Unit r186.Under r186.Over))),(TallyBook.mk r83.Trips r83.Room (r83.Counts.set (0:Int).toNat (TallyCount.mk r194.Who r194.From r194.To r194.Told 0 r194.Under r194.Over))),(TallyBook.mk r93.Trips r93.Room (r93.Counts.set (0:Int).toNat (TallyCount.mk r202.Who r202.From r202.To r202.Told 21 r202.Under r202.Over))),(TallyBook.mk r103.Trips r103.Room (r103.Counts.set (0:Int).toNat (TallyCount.mk r210.Who r210.From r210.To r210.Told r210.Unit 31 r210.Over))),(TallyBook.mk r113.Trips r113.Room (r113.Counts.set (2:Int).toNat (TallyCount.mk r218.Who r218.From r218.To r218.Told r218.Unit r218.Under (-1)))),(TallyBook.mk r123.Trips r123.Room (r123.Counts.set (1:Int).toNat (TallyCount.mk r226.Who r226.From r226.To r226.Told r226.Unit r226.Under 1)))]) [((TallyBook.mk 0 0 ([]:List TallyCount)),none,0),((TallyBook.mk 9 r3.Room r3.Counts),A7,c8),((TallyBook.mk r13.Trips 61 r13.Counts),A17,c18),((TallyBook.mk r23.Trips (-1) r23.Counts),A27,c28),((TallyBook.mk r33.Trips r33.Room (List.replicate 9 (TallyCount.mk 0 0 0 0 0 0 0))),A153,9),((TallyBook.mk r43.Trips r43.Room (r43.Counts.set (0:Int).toNat (TallyCount.mk 3 r162.From r162.To r162.Told r162.Unit r162.Under r162.Over))),A47,c48),((TallyBook.mk r53.Trips r53.Room (r53.Counts.set (0:Int).toNat (TallyCount.mk r170.Who r170.From 4 r170.Told r170.Unit r170.Under r170.Over))),A57,c58),((TallyBook.mk r63.Trips r63.Room (r63.Counts.set (1:Int).toNat (TallyCount.mk r178.Who 2 r178.To r178.Told r178.Unit r178.Under r178.Over))),A67,c68),((TallyBook.mk r73.Trips r73.Room (r73.Counts.set (0:Int).toNat (TallyCount.mk r186.Who r186.From r186.To 100 r186.Unit r186.Under r186.Over))),A77,c78),((TallyBook.mk r83.Trips r83.Room (r83.Counts.set (0:Int).toNat (TallyCount.mk r194.Who r194.From r194.To r194.Told 0 r194.Under r194.Over))),A87,c88),((TallyBook.mk r93.Trips r93.Room (r93.Counts.set (0:Int).toNat (TallyCount.mk r202.Who r202.From r202.To r202.Told 21 r202.Under r202.Over))),A97,c98),((TallyBook.mk r103.Trips r103.Room (r103.Counts.set (0:Int).toNat (TallyCount.mk r210.Who r210.From r210.To r210.Told r210.Unit 31 r210.Over))),A107,c108),((TallyBook.mk r113.Trips r113.Room (r113.Counts.set (2:Int).toNat (TallyCount.mk r218.Who r218.From r218.To r218.Told r218.Unit r218.Under (-1)))),A117,c118),((TallyBook.mk r123.Trips r123.Room (r123.Counts.set (1:Int).toNat (TallyCount.mk r226.Who r226.From r226.To r226.Told r226.Unit r226.Under 1))),A127,c128)] rfl (cA (cA (mE (i:=0) rfl) nM) (cA (cA (mE (i:=13) rfl) nM) (cA (cA (mE (i:=12) rfl) nM) (cA (cA (mE (i:=11) rfl) nM) (cA (cA (mE (i:=10) rfl) nM) (cA (cA (mE (i:=9) rfl) nM) (cA (cA (mE (i:=8) rfl) nM) (cA (cA (mE (i:=7) rfl) nM) (cA (cA (mE (i:=6) rfl) nM) (cA (cA (mE (i:=5) rfl) nM) (cA (cA (mE (i:=4) rfl) nM) (cA (cA (mE (i:=3) rfl) nM) (cA (cA (mE (i:=2) rfl) nM) (cA (cA (mE (i:=1) rfl) nM) nM))))))))))))))
 try clear S247
 have S249:=S248.pk [0] (by decide) [0,1,2,3,4,5,6,7,8,9,10,11,12,13,14,15,16] rfl rfl
 try clear S248
 refine c_lop (α:=Int) (β:=Unit) (law_TallyKnown_l2 r3 r13 r23 r33 r43 r162 r53 r170 r63 r178 r73 r186 r83 r194 r93 r202 r103 r210 r113 r218 r123 r226) (fun z_1 y_1=>[(1,SL A133 [((TallyBook.mk 0 0 ([]:List TallyCount)),none,0),((TallyBook.mk 9 r3.Room r3.Counts),A7,c8),((TallyBook.mk r13.Trips 61 r13.Counts),A17,c18),((TallyBook.mk r23.Trips (-1) r23.Counts),A27,c28),((TallyBook.mk r33.Trips r33.Room (List.replicate 9 (TallyCount.mk 0 0 0 0 0 0 0))),A153,9),((TallyBook.mk r43.Trips r43.Room (r43.Counts.set (0:Int).toNat (TallyCount.mk 3 r162.From r162.To r162.Told r162.Unit r162.Under r162.Over))),A47,c48),((TallyBook.mk r53.Trips r53.Room (r53.Counts.set (0:Int).toNat (TallyCount.mk r170.Who r170.From 4 r170.Told r170.Unit r170.Under r170.Over))),A57,c58),((TallyBook.mk r63.Trips r63.Room (r63.Counts.set (1:Int).toNat (TallyCount.mk r178.Who 2 r178.To r178.Told r178.Unit r178.Under r178.Over))),A67,c68),((TallyBook.mk r73.Trips r73.Room (r73.Counts.set (0:Int).toNat (TallyCount.mk r186.Who r186.From r186.To 100 r186.Unit r186.Under r186.Over))),A77,c78),((TallyBook.mk r83.Trips r83.Room (r83.Counts.set (0:Int).toNat (TallyCount.mk r194.Who r194.From r194.To r194.Told 0 r194.Under r194.Over))),A87,c88),((TallyBook.mk r93.Trips r93.Room (r93.Counts.set (0:Int).toNat (TallyCount.mk r202.Who r202.From r202.To r202.Told 21 r202.Under r202.Over))),A97,c98),((TallyBook.mk r103.Trips r103.Room (r103.Counts.set (0:Int).toNat (TallyCount.mk r210.Who r210.From r210.To r210.Told r210.Unit 31 r210.Over))),A107,c108),((TallyBook.mk r113.Trips r113.Room (r113.Counts.set (2:Int).toNat (TallyCount.mk r218.Who r218.From r218.To r218.Told r218.Unit r218.Under (-1)))),A117,c118),((TallyBook.mk r123.Trips r123.Room (r123.Counts.set (1:Int).toNat (TallyCount.mk r226.Who r226.From r226.To r226.Told r226.Unit r226.Under 1))),A127,c128)].length c134),(2,I z_1)]) (fun z_1 y_1 w_=>St w nF w_ [gr nTallyBook 3 24 A133 c134 [((TallyBook.mk 0 0 ([]:List TallyCount)),none,0),((TallyBook.mk 9 r3.Room r3.Counts),A7,c8),((TallyBook.mk r13.Trips 61 r13.Counts),A17,c18),((TallyBook.mk r23.Trips (-1) r23.Counts),A27,c28),((TallyBook.mk r33.Trips r33.Room (List.replicate 9 (TallyCount.mk 0 0 0 0 0 0 0))),A153,9),((TallyBook.mk r43.Trips r43.Room (r43.Counts.set (0:Int).toNat (TallyCount.mk 3 r162.From r162.To r162.Told r162.Unit r162.Under r162.Over))),A47,c48),((TallyBook.mk r53.Trips r53.Room (r53.Counts.set (0:Int).toNat (TallyCount.mk r170.Who r170.From 4 r170.Told r170.Unit r170.Under r170.Over))),A57,c58),((TallyBook.mk r63.Trips r63.Room (r63.Counts.set (1:Int).toNat (TallyCount.mk r178.Who 2 r178.To r178.Told r178.Unit r178.Under r178.Over))),A67,c68),((TallyBook.mk r73.Trips r73.Room (r73.Counts.set (0:Int).toNat (TallyCount.mk r186.Who r186.From r186.To 100 r186.Unit r186.Under r186.Over))),A77,c78),((TallyBook.mk r83.Trips r83.Room (r83.Counts.set (0:Int).toNat (TallyCount.mk r194.Who r194.From r194.To r194.Told 0 r194.Under r194.Over))),A87,c88),((TallyBook.mk r93.Trips r93.Room (r93.Counts.set (0:Int).toNat (TallyCount.mk r202.Who r202.From r202.To r202.Told 21 r202.Under r202.Over))),A97,c98),((TallyBook.mk r103.Trips r103.Room (r103.Counts.set (0:Int).toNat (TallyCount.mk r210.Who r210.From r210.To r210.Told r210.Unit 31 r210.Over))),A107,c108),((TallyBook.mk r113.Trips r113.Room (r113.Counts.set (2:Int).toNat (TallyCount.mk r218.Who r218.From r218.To r218.Told r218.Unit r218.Under (-1)))),A117,c118),((TallyBook.mk r123.Trips r123.Room (r123.Counts.set (1:Int).toNat (TallyCount.mk r226.Who r226.From r226.To r226.Told r226.Unit r226.Under 1))),A127,c128)]] [ri nTallyBookI [((TallyBook.mk 0 0 ([]:List TallyCount)),none,0),((TallyBook.mk 9 r3.Room r3.Counts),A7,c8),((TallyBook.mk r13.Trips 61 r13.Counts),A17,c18),((TallyBook.mk r23.Trips (-1) r23.Counts),A27,c28),((TallyBook.mk r33.Trips r33.Room (List.replicate 9 (TallyCount.mk 0 0 0 0 0 0 0))),A153,9),((TallyBook.mk r43.Trips r43.Room (r43.Counts.set (0:Int).toNat (TallyCount.mk 3 r162.From r162.To r162.Told r162.Unit r162.Under r162.Over))),A47,c48),((TallyBook.mk r53.Trips r53.Room (r53.Counts.set (0:Int).toNat (TallyCount.mk r170.Who r170.From 4 r170.Told r170.Unit r170.Under r170.Over))),A57,c58),((TallyBook.mk r63.Trips r63.Room (r63.Counts.set (1:Int).toNat (TallyCount.mk r178.Who 2 r178.To r178.Told r178.Unit r178.Under r178.Over))),A67,c68),((TallyBook.mk r73.Trips r73.Room (r73.Counts.set (0:Int).toNat (TallyCount.mk r186.Who r186.From r186.To 100 r186.Unit r186.Under r186.Over))),A77,c78),((TallyBook.mk r83.Trips r83.Room (r83.Counts.set (0:Int).toNat (TallyCount.mk r194.Who r194.From r194.To r194.Told 0 r194.Under r194.Over))),A87,c88),((TallyBook.mk r93.Trips r93.Room (r93.Counts.set (0:Int).toNat (TallyCount.mk r202.Who r202.From r202.To r202.Told 21 r202.Under r202.Over))),A97,c98),((TallyBook.mk r103.Trips r103.Room (r103.Counts.set (0:Int).toNat (TallyCount.mk r210.Who r210.From r210.To r210.Told r210.Unit 31 r210.Over))),A107,c108),((TallyBook.mk r113.Trips r113.Room (r113.Counts.set (2:Int).toNat (TallyCount.mk r218.Who r218.From r218.To r218.Told r218.Unit r218.Under (-1)))),A117,c118),((TallyBook.mk r123.Trips r123.Room (r123.Counts.set (1:Int).toNat (TallyCount.mk r226.Who r226.From r226.To r226.Told r226.Unit r226.Under 1))),A127,c128)] [(TallyBook.mk 0 0 ([]:List TallyCount)),(TallyBook.mk 9 r3.Room r3.Counts),(TallyBook.mk r13.Trips 61 r13.Counts),(TallyBook.mk r23.Trips (-1) r23.Counts),(TallyBook.mk r33.Trips r33.Room (List.replicate 9 (TallyCount.mk 0 0 0 0 0 0 0))),(TallyBook.mk r43.Trips r43.Room (r43.Counts.set (0:Int).toNat (TallyCount.mk 3 r162.From r162.To r162.Told r162.Unit r162.Under r162.Over))),(TallyBook.mk r53.Trips r53.Room (r53.Counts.set (0:Int).toNat (TallyCount.mk r170.Who r170.From 4 r170.Told r170.Unit r170.Under r170.Over))),(TallyBook.mk r63.Trips r63.Room (r63.Counts.set (1:Int).toNat (TallyCount.mk r178.Who 2 r178.To r178.Told r178.Unit r178.Under r178.Over))),(TallyBook.mk r73.Trips r73.Room (r73.Counts.set (0:Int).toNat (TallyCount.mk r186.Who r186.From r186.To 100 r186.Unit r186.Under r186.Over))),(TallyBook.mk r83.Trips r83.Room (r83.Counts.set (0:Int).toNat (TallyCount.mk r194.Who r194.From r194.To r194.Told 0 r194.Under r194.Over))),(TallyBook.mk r93.Trips r93.Room (r93.Counts.set (0:Int).toNat (TallyCount.mk r202.Who r202.From r202.To r202.Told 21 r202.Under r202.Over))),(TallyBook.mk r103.Trips r103.Room (r103.Counts.set (0:Int).toNat (TallyCount.mk r210.Who r210.From r210.To r210.Told r210.Unit 31 r210.Over))),(TallyBook.mk r113.Trips r113.Room (r113.Counts.set (2:Int).toNat (TallyCount.mk r218.Who r218.From r218.To r218.Told r218.Unit r218.Under (-1)))),(TallyBook.mk r123.Trips r123.Room (r123.Counts.set (1:Int).toNat (TallyCount.mk r226.Who r226.From r226.To r226.Told r226.Unit r226.Under 1)))],rd eTallyCount 7 none 0 ([]:List TallyCount),rd eTallyCount 7 A127 c128 (r123.Counts.set (1:Int).toNat (TallyCount.mk r226.Who r226.From r226.To r226.Told r226.Unit r226.Under 1)),rd eTallyCount 7 A117 c118 (r113.Counts.set (2:Int).toNat (TallyCount.mk r218.Who r218.From r218.To r218.Told r218.Unit r218.Under (-1))),rd eTallyCount 7 A107 c108 (r103.Counts.set (0:Int).toNat (TallyCount.mk r210.Who r210.From r210.To r210.Told r210.Unit 31 r210.Over)),rd eTallyCount 7 A97 c98 (r93.Counts.set (0:Int).toNat (TallyCount.mk r202.Who r202.From r202.To r202.Told 21 r202.Under r202.Over)),rd eTallyCount 7 A87 c88 (r83.Counts.set (0:Int).toNat (TallyCount.mk r194.Who r194.From r194.To r194.Told 0 r194.Under r194.Over)),rd eTallyCount 7 A77 c78 (r73.Counts.set (0:Int).toNat (TallyCount.mk r186.Who r186.From r186.To 100 r186.Unit r186.Under r186.Over)),rd eTallyCount 7 A67 c68 (r63.Counts.set (1:Int).toNat (TallyCount.mk r178.Who 2 r178.To r178.Told r178.Unit r178.Under r178.Over)),rd eTallyCount 7 A57 c58 (r53.Counts.set (0:Int).toNat (TallyCount.mk r170.Who r170.From 4 r170.Told r170.Unit r170.Under r170.Over)),rd eTallyCount 7 A47 c48 (r43.Counts.set (0:Int).toNat (TallyCount.mk 3 r162.From r162.To r162.Told r162.Unit r162.Under r162.Over)),rd eTallyCount 7 A153 9 (List.replicate 9 (TallyCount.mk 0 0 0 0 0 0 0)),rd eTallyCount 7 A27 c28 r23.Counts,rd eTallyCount 7 A17 c18 r13.Counts,rd eTallyCount 7 A7 c8 r3.Counts,gW0,gW1]) 0 () H ⟨rfl,rfl,trivial⟩ S249 ?_
 try clear S249
 intro m250 z_1 y_1 e251 w252 H S253
 unfold law_TallyKnown_l2 at H
 refine c_seq<|c_seq<|reg<|p_mI rfl<|p_mS rfl<|p_lenN rfl sc26 (ri_len (S253.atP (i:=0) rfl))<|p_cmp rfl rfl rfl<|wp_nil ?_
 refine c_cond rfl (fun c254=>?_) (fun c254=>?_)
 ·replace H:=condT c254 H
  refine c_skip<|c_seq<|c_block<|c_seq<|reg<|p_mS rfl<|p_mI rfl ?_
  obtain ⟨r255,h256,H⟩:=bindS H
  obtain ⟨d257,h258⟩:=ri_at (S253.atP (i:=0) rfl) h256
  refine p_ixE sc26 h258 (gr_sl nTallyBook_len (S253.atX (i:=0) rfl)) rfl rfl rfl<|p_ldEA ty24 sz24 rfl h258 (gr_sl nTallyBook_len (S253.atX (i:=0) rfl)) rfl ?_
  have S259:=S253.riIn (j:=0) (k:=0) rfl h258 rfl
  obtain ⟨r260,h261,H⟩:=bindS H
  refine p_cv (tally_Right_ok h261 (S259.atP (i:=0) rfl) (S259.atP (i:=16) rfl) (S259.atP (i:=17) rfl)) fu5 rfl S259 fun w262 S263=>?_
  try clear S259
  refine p_mT rfl<|p_ext rfl rfl<|p_ext rfl rfl<|p_aB rfl<|p_aI rfl<|wp_nil<|c_seq<|reg<|p_mS rfl<|p_mI rfl ?_
  obtain ⟨r264,h265,H⟩:=bindS H
  obtain ⟨d266,h267⟩:=ri_at (S263.atP (i:=1) rfl) h265
  refine p_ixE sc26 h267 (gr_sl nTallyBook_len (S263.atX (i:=0) rfl)) rfl rfl rfl<|p_ldEA ty24 sz24 rfl h267 (gr_sl nTallyBook_len (S263.atX (i:=0) rfl)) rfl ?_
  have S268:=S263.riIn (j:=1) (k:=0) rfl h267 rfl
  try clear S263
  obtain ⟨r269,h270,H⟩:=bindS H
  refine p_cv (tally_Many_ok h270 (S268.atP (i:=0) rfl) (S268.atP (i:=17) rfl) (S268.atP (i:=18) rfl)) fu6 rfl S268 fun w271 S272=>?_
  try clear S268
  refine p_mT rfl<|p_ext rfl rfl<|p_ext rfl rfl<|p_allA in33 S272 fun b273 w274 S275=>?_
  try clear S272
  refine p_stP (pre:=[]) (old:=[I 0,I 0]) (post:=[]) (vs:=[I r269.1.Low,I r269.1.High]) sz33 S275 (i:=0) rfl rfl rfl rfl (rfl:_=AG [I r269.1.Low,I r269.1.High]) rfl rfl rfl rfl fun w276 S277=>?_
  try clear S275
  refine p_aI rfl<|wp_nil<|c_seq<|reg<|p_mS rfl<|p_mI rfl ?_
  obtain ⟨r278,h279,H⟩:=bindS H
  obtain ⟨d280,h281⟩:=ri_at (S277.atP (i:=2) rfl) h279
  refine p_ixE sc26 h281 (gr_sl nTallyBook_len (S277.atX (i:=1) rfl)) rfl rfl rfl<|p_ldEA ty24 sz24 rfl h281 (gr_sl nTallyBook_len (S277.atX (i:=1) rfl)) rfl ?_
  have S282:=S277.riIn (j:=2) (k:=0) rfl h281 rfl
  try clear S277
  obtain ⟨r283,h284,H⟩:=bindS H
  refine p_cv (tally_Can_ok h284 (S282.atP (i:=0) rfl) (rd_nil (Nat.zero_le _)) (S282.atP (i:=18) rfl)) fu7 rfl S282 fun w285 S286=>?_
  try clear S282
  refine p_mT rfl<|p_ext rfl rfl<|p_ext rfl rfl<|p_aB rfl<|p_aI rfl<|wp_nil<|c_seq<|reg<|p_mS rfl<|p_mI rfl ?_
  obtain ⟨r287,h288,H⟩:=bindS H
  obtain ⟨d289,h290⟩:=ri_at (S286.atP (i:=3) rfl) h288
  refine p_ixE sc26 h290 (gr_sl nTallyBook_len (S286.atX (i:=1) rfl)) rfl rfl rfl<|p_ldEA ty24 sz24 rfl h290 (gr_sl nTallyBook_len (S286.atX (i:=1) rfl)) rfl ?_
  have S291:=S286.riIn (j:=3) (k:=0) rfl h290 rfl
  try clear S286
  obtain ⟨r292,h293,H⟩:=bindS H
  refine p_cv (tally_Pays_ok h293 (S291.atP (i:=0) rfl) (S291.atP (i:=19) rfl) (S291.atP (i:=20) rfl)) fu8 rfl S291 fun w294 S295=>?_
  try clear S291
  refine p_mT rfl<|p_ext rfl rfl<|p_ext rfl rfl<|p_allA in33 S295 fun b296 w297 S298=>?_
  try clear S295
  refine p_stP (pre:=[]) (old:=[I 0,I 0]) (post:=[]) (vs:=[I r292.1.Low,I r292.1.High]) sz33 S298 (i:=0) rfl rfl rfl rfl (rfl:_=AG [I r292.1.Low,I r292.1.High]) rfl rfl rfl rfl fun w299 S300=>?_
  try clear S298
  refine p_aI rfl<|wp_nil<|c_seq ?_
  obtain ⟨r301,h302,H⟩:=bindS H
  obtain ⟨d303,h304⟩:=ri_at (S300.atP (i:=4) rfl) h302
  have S305:=S300.riIn (j:=4) (k:=0) rfl h304 rfl
  obtain ⟨r306,h307,H⟩:=bindS H
  obtain ⟨r308,h309,H⟩:=bindS H
  refine reg_q mixed 11 (by kernel_rfl) ?_
  refine dS (fun _ k_=>p_mS rfl dn)<|dS (fun _ k_=>p_mI rfl dn)<|dS (fun _ k_=>p_ixE sc26 h304 (gr_sl nTallyBook_len (aS (S300.atX (i:=2) rfl) k_)) rfl rfl rfl dn)<|dS (fun _ k_=>p_ldEA ty24 sz24 rfl h304 (gr_sl nTallyBook_len (aS (S300.atX (i:=2) rfl) k_)) rfl dn) ?_
  try clear S300
  refine dS (fun _ k_=>p_cvD (law_count_ok h307) fu10 rfl)<|dS (fun _ k_=>p_cvD (tally_Fits_ok h309 (aS (S305.atP (i:=0) rfl) k_) (aS (S305.atP (i:=20) rfl) k_) (aS (S305.atP (i:=21) rfl) k_)) fu9 rfl)<|dS (fun _ k_=>p_mT rfl dn)<|dS (fun _ k_=>p_ext rfl rfl dn)<|dS (fun _ k_=>p_ext rfl rfl dn)<|dS (fun _ k_=>p_aB rfl dn)<|dS (fun _ k_=>p_aI rfl dn) ?_
  intro w310 k311; have S312:=S305.call k311
  try clear S305
  refine wp_nil<|c_seq<|reg<|p_mS rfl<|p_mI rfl ?_
  obtain ⟨r313,h314,H⟩:=bindS H
  obtain ⟨d315,h316⟩:=ri_at (S312.atP (i:=5) rfl) h314
  refine p_ixE sc26 h316 (gr_sl nTallyBook_len (S312.atX (i:=2) rfl)) rfl rfl rfl<|p_ldEA ty24 sz24 rfl h316 (gr_sl nTallyBook_len (S312.atX (i:=2) rfl)) rfl ?_
  have S317:=S312.riIn (j:=5) (k:=0) rfl h316 rfl
  try clear S312
  obtain ⟨r318,h319,H⟩:=bindS H
  refine p_cal (tally_Wrong_ok h319 (S317.atP (i:=0) rfl) (S317.atP (i:=21) rfl) (S317.atP (i:=22) rfl)) fu11 rfl ?_
  rintro _ w320 ⟨A322,c323,rfl,k321,⟨o324,n325⟩,_⟩
  have S326:=S317.callN k321 [rd intE 1 A322 c323 r318.1] (cA ⟨o324,Al.inL n325 ((cA (fp_mem (i:=0) rfl) nM))⟩ nM)
  try clear S317
  refine p_mT rfl<|p_ext rfl rfl<|p_ext rfl rfl<|p_aS rfl<|p_aI rfl<|wp_nil<|c_seq<|reg<|p_mS rfl<|p_mI rfl ?_
  obtain ⟨r327,h328,H⟩:=bindS H
  obtain ⟨d329,h330⟩:=ri_at (S326.atP (i:=7) rfl) h328
  refine p_ixE sc26 h330 (gr_sl nTallyBook_len (S326.atX (i:=2) rfl)) rfl rfl rfl<|p_ldEA ty24 sz24 rfl h330 (gr_sl nTallyBook_len (S326.atX (i:=2) rfl)) rfl ?_
  have S331:=S326.riIn (j:=7) (k:=0) rfl h330 rfl
  try clear S326
  obtain ⟨r332,h333,H⟩:=bindS H
  refine p_cal (tally_Whose_ok h333 (S331.atP (i:=0) rfl) (S331.atP (i:=23) rfl) (S331.atP (i:=24) rfl)) fu12 rfl ?_
  rintro _ w334 ⟨A336,c337,rfl,k335,⟨o338,n339⟩,_⟩
  have S340:=S331.callN k335 [rd intE 1 A336 c337 r332.1] (cA ⟨o338,New.inL n339⟩ nM)
  try clear S331
  refine p_mT rfl<|p_ext rfl rfl<|p_ext rfl rfl<|p_aS rfl<|p_aI rfl<|wp_nil<|c_seq<|reg<|p_mS rfl<|p_mI rfl ?_
  obtain ⟨r341,h342,H⟩:=bindS H
  obtain ⟨d343,h344⟩:=ri_at (S340.atP (i:=9) rfl) h342
  refine p_ixE sc26 h344 (gr_sl nTallyBook_len (S340.atX (i:=2) rfl)) rfl rfl rfl<|p_ldEA ty24 sz24 rfl h344 (gr_sl nTallyBook_len (S340.atX (i:=2) rfl)) rfl ?_
  have S345:=S340.riIn (j:=9) (k:=0) rfl h344 rfl
  try clear S340
  obtain ⟨r346,h347,H⟩:=bindS H
  refine p_cv (tally_Again_ok h347 (S345.atP (i:=0) rfl) (S345.atP (i:=25) rfl) (S345.atP (i:=26) rfl)) fu13 rfl S345 fun w348 S349=>?_
  try clear S345
  refine p_mT rfl<|p_ext rfl rfl<|p_ext rfl rfl<|p_aI rfl<|p_aI rfl<|wp_nil<|c_seq<|reg<|p_mS rfl<|p_mI rfl ?_
  obtain ⟨r350,h351,H⟩:=bindS H
  obtain ⟨d352,h353⟩:=ri_at (S349.atP (i:=10) rfl) h351
  refine p_ixE sc26 h353 (gr_sl nTallyBook_len (S349.atX (i:=2) rfl)) rfl rfl rfl<|p_ldEA ty24 sz24 rfl h353 (gr_sl nTallyBook_len (S349.atX (i:=2) rfl)) rfl ?_
  have S354:=S349.riIn (j:=10) (k:=0) rfl h353 rfl
  try clear S349
  obtain ⟨r355,h356,H⟩:=bindS H
  refine p_cv (tally_Check_ok h356 (S354.atP (i:=0) rfl)) fu14 rfl S354 fun w357 S358=>?_
  try clear S354
  refine p_cmp rfl rfl rfl<|p_mB rfl ?_
  rcases bE ((r355 != 50)) with c359 | c359
  ·replace H:=condT c359 H
   refine eB c359<|gF rfl rfl<|gF rfl rfl<|p_pkT rfl (rfl:_=B true)<|p_mB rfl<|gF rfl rfl<|gF rfl rfl<|p_pkT rfl (rfl:_=B true)<|p_mB rfl<|gF rfl rfl<|gF rfl rfl<|p_pkT rfl (rfl:_=B true)<|p_mB rfl<|gF rfl rfl<|gF rfl rfl<|p_pkT rfl (rfl:_=B true)<|p_mB rfl<|gF rfl rfl<|gF rfl rfl<|p_pkT rfl (rfl:_=B true)<|p_mB rfl<|gF rfl rfl<|gF rfl rfl<|p_pkT rfl (rfl:_=B true)<|p_mB rfl<|gF rfl rfl<|gF rfl rfl<|p_pkT rfl (rfl:_=B true)<|p_mB rfl ?_
   refine gF rfl rfl<|gF rfl rfl<|p_pkT rfl (rfl:_=B true)<|wp_nil<|c_true rfl<|c_seq<|reg<|p_aB rfl<|wp_nil ?_
   have S360:St w nF w357 [] [rd eTallyCount 7 none 0 ([]:List TallyCount),gW0,gW1]:=S358.pk [] (by decide) [12,26,27] rfl rfl
   obtain rfl:=sJ H
   exact c_ret (rT Tryd.f3 S360.keep rfl rfl)
  ·replace H:=condF c359 H
   refine eB c359 ?_
   refine gT rfl rfl (p_mI rfl ?_)
   refine gT rfl rfl (p_cmp rfl rfl rfl ?_)
   refine p_pkF rfl (rfl:_=B (r260.2 != 50))<|p_mB rfl ?_
   rcases bE ((r260.2 != 50)) with c361 | c361
   ·replace H:=condT c361 H
    refine eB c361<|gF rfl rfl<|gF rfl rfl<|p_pkT rfl (rfl:_=B true)<|p_mB rfl<|gF rfl rfl<|gF rfl rfl<|p_pkT rfl (rfl:_=B true)<|p_mB rfl<|gF rfl rfl<|gF rfl rfl<|p_pkT rfl (rfl:_=B true)<|p_mB rfl<|gF rfl rfl<|gF rfl rfl<|p_pkT rfl (rfl:_=B true)<|p_mB rfl<|gF rfl rfl<|gF rfl rfl<|p_pkT rfl (rfl:_=B true)<|p_mB rfl<|gF rfl rfl<|gF rfl rfl<|p_pkT rfl (rfl:_=B true)<|p_mB rfl<|gF rfl rfl<|gF rfl rfl<|p_pkT rfl (rfl:_=B true)<|wp_nil ?_
    refine c_true rfl<|c_seq<|reg<|p_aB rfl<|wp_nil ?_
    have S362:St w nF w357 [] [rd eTallyCount 7 none 0 ([]:List TallyCount),gW0,gW1]:=S358.pk [] (by decide) [12,26,27] rfl rfl
    obtain rfl:=sJ H
    exact c_ret (rT Tryd.f3 S362.keep rfl rfl)
   ·replace H:=condF c361 H
    refine eB c361 ?_
    refine gT rfl rfl (p_mI rfl ?_)
    refine gT rfl rfl (p_cmp rfl rfl rfl ?_)
    refine p_pkF rfl (rfl:_=B (r269.2 != 50))<|p_mB rfl ?_
    rcases bE ((r269.2 != 50)) with c363 | c363
    ·replace H:=condT c363 H
     refine eB c363<|gF rfl rfl<|gF rfl rfl<|p_pkT rfl (rfl:_=B true)<|p_mB rfl<|gF rfl rfl<|gF rfl rfl<|p_pkT rfl (rfl:_=B true)<|p_mB rfl<|gF rfl rfl<|gF rfl rfl<|p_pkT rfl (rfl:_=B true)<|p_mB rfl<|gF rfl rfl<|gF rfl rfl<|p_pkT rfl (rfl:_=B true)<|p_mB rfl<|gF rfl rfl<|gF rfl rfl<|p_pkT rfl (rfl:_=B true)<|p_mB rfl<|gF rfl rfl<|gF rfl rfl<|p_pkT rfl (rfl:_=B true)<|wp_nil<|c_true rfl<|c_seq<|reg<|p_aB rfl<|wp_nil ?_
     have S364:St w nF w357 [] [rd eTallyCount 7 none 0 ([]:List TallyCount),gW0,gW1]:=S358.pk [] (by decide) [12,26,27] rfl rfl
     obtain rfl:=sJ H
     exact c_ret (rT Tryd.f3 S364.keep rfl rfl)
    ·replace H:=condF c363 H
     refine eB c363 ?_
     refine gT rfl rfl (p_mI rfl ?_)
     refine gT rfl rfl (p_cmp rfl rfl rfl ?_)
     refine p_pkF rfl (rfl:_=B (r283.2 != 50))<|p_mB rfl ?_
     rcases bE ((r283.2 != 50)) with c365 | c365
     ·replace H:=condT c365 H
      refine eB c365<|gF rfl rfl<|gF rfl rfl<|p_pkT rfl (rfl:_=B true)<|p_mB rfl<|gF rfl rfl<|gF rfl rfl<|p_pkT rfl (rfl:_=B true)<|p_mB rfl<|gF rfl rfl<|gF rfl rfl<|p_pkT rfl (rfl:_=B true)<|p_mB rfl<|gF rfl rfl<|gF rfl rfl<|p_pkT rfl (rfl:_=B true)<|p_mB rfl<|gF rfl rfl<|gF rfl rfl<|p_pkT rfl (rfl:_=B true)<|wp_nil<|c_true rfl<|c_seq<|reg<|p_aB rfl<|wp_nil ?_
      have S366:St w nF w357 [] [rd eTallyCount 7 none 0 ([]:List TallyCount),gW0,gW1]:=S358.pk [] (by decide) [12,26,27] rfl rfl
      obtain rfl:=sJ H
      exact c_ret (rT Tryd.f3 S366.keep rfl rfl)
     ·replace H:=condF c365 H
      refine eB c365 ?_
      refine gT rfl rfl (p_mI rfl ?_)
      refine gT rfl rfl (p_cmp rfl rfl rfl ?_)
      refine p_pkF rfl (rfl:_=B (r292.2 != 50))<|p_mB rfl ?_
      rcases bE ((r292.2 != 50)) with c367 | c367
      ·replace H:=condT c367 H
       refine eB c367<|gF rfl rfl<|gF rfl rfl<|p_pkT rfl (rfl:_=B true)<|p_mB rfl<|gF rfl rfl<|gF rfl rfl<|p_pkT rfl (rfl:_=B true)<|p_mB rfl<|gF rfl rfl<|gF rfl rfl<|p_pkT rfl (rfl:_=B true)<|p_mB rfl<|gF rfl rfl<|gF rfl rfl<|p_pkT rfl (rfl:_=B true)<|wp_nil<|c_true rfl<|c_seq<|reg<|p_aB rfl<|wp_nil ?_
       have S368:St w nF w357 [] [rd eTallyCount 7 none 0 ([]:List TallyCount),gW0,gW1]:=S358.pk [] (by decide) [12,26,27] rfl rfl
       obtain rfl:=sJ H
       exact c_ret (rT Tryd.f3 S368.keep rfl rfl)
      ·replace H:=condF c367 H
       refine eB c367 ?_
       refine gT rfl rfl (p_mI rfl ?_)
       refine gT rfl rfl (p_cmp rfl rfl rfl ?_)
       refine p_pkF rfl (rfl:_=B (r308.2 != 50))<|p_mB rfl ?_
       rcases bE ((r308.2 != 50)) with c369 | c369
       ·replace H:=condT c369 H
        refine eB c369<|gF rfl rfl<|gF rfl rfl<|p_pkT rfl (rfl:_=B true)<|p_mB rfl<|gF rfl rfl<|gF rfl rfl<|p_pkT rfl (rfl:_=B true)<|p_mB rfl<|gF rfl rfl<|gF rfl rfl<|p_pkT rfl (rfl:_=B true)<|wp_nil<|c_true rfl<|c_seq<|reg<|p_aB rfl<|wp_nil ?_
        have S370:St w nF w357 [] [rd eTallyCount 7 none 0 ([]:List TallyCount),gW0,gW1]:=S358.pk [] (by decide) [12,26,27] rfl rfl
        obtain rfl:=sJ H
        exact c_ret (rT Tryd.f3 S370.keep rfl rfl)
       ·replace H:=condF c369 H
        refine eB c369 ?_
        refine gT rfl rfl (p_mI rfl ?_)
        refine gT rfl rfl (p_cmp rfl rfl rfl ?_)
        refine p_pkF rfl (rfl:_=B (r318.2 != 50))<|p_mB rfl ?_
        rcases bE ((r318.2 != 50)) with c371 | c371
        ·replace H:=condT c371 H
         refine eB c371<|gF rfl rfl<|gF rfl rfl<|p_pkT rfl (rfl:_=B true)<|p_mB rfl<|gF rfl rfl<|gF rfl rfl<|p_pkT rfl (rfl:_=B true)<|wp_nil<|c_true rfl<|c_seq<|reg<|p_aB rfl<|wp_nil ?_
         have S372:St w nF w357 [] [rd eTallyCount 7 none 0 ([]:List TallyCount),gW0,gW1]:=S358.pk [] (by decide) [12,26,27] rfl rfl
         obtain rfl:=sJ H
         exact c_ret (rT Tryd.f3 S372.keep rfl rfl)
        ·replace H:=condF c371 H
         refine eB c371 ?_
         refine gT rfl rfl (p_mI rfl ?_)
         refine gT rfl rfl (p_cmp rfl rfl rfl ?_)
         refine p_pkF rfl (rfl:_=B (r332.2 != 50))<|p_mB rfl ?_
         rcases bE ((r332.2 != 50)) with c373 | c373
         ·replace H:=condT c373 H
          refine eB c373<|gF rfl rfl<|gF rfl rfl<|p_pkT rfl (rfl:_=B true)<|wp_nil<|c_true rfl<|c_seq<|reg<|p_aB rfl<|wp_nil ?_
          have S374:St w nF w357 [] [rd eTallyCount 7 none 0 ([]:List TallyCount),gW0,gW1]:=S358.pk [] (by decide) [12,26,27] rfl rfl
          obtain rfl:=sJ H
          exact c_ret (rT Tryd.f3 S374.keep rfl rfl)
         ·replace H:=condF c373 H
          refine eB c373 ?_
          refine gT rfl rfl (p_mI rfl ?_)
          refine gT rfl rfl (p_cmp rfl rfl rfl ?_)
          refine p_pkF rfl (rfl:_=B (r346.2 != 50))<|wp_nil ?_
          refine c_cond rfl (fun c375=>?_) (fun c375=>?_)
          ·replace H:=condT c375 H
           refine c_seq<|reg<|p_aB rfl<|wp_nil ?_
           have S376:St w nF w357 [] [rd eTallyCount 7 none 0 ([]:List TallyCount),gW0,gW1]:=S358.pk [] (by decide) [12,26,27] rfl rfl
           obtain rfl:=sJ H
           exact c_ret (rT Tryd.f3 S376.keep rfl rfl)
          ·replace H:=condF c375 H
           refine c_skip<|reg<|p_mI rfl<|p_add rfl rfl<|p_aI rfl<|wp_nil ?_
           have S377:=S358.pk [2] (by decide) [11,12,13,14,15,16,17,18,19,20,21,22,23,24,25,26,27] rfl rfl
           try clear S358
           exact ⟨wr (z_1+1),(),_,rfl,⟨rfl,rfl,trivial⟩,H,S377⟩
 ·replace H:=condF c254 H
  refine c_exit ?_
  have S378:St w nF w252 [] [rd eTallyCount 7 none 0 ([]:List TallyCount),gW0,gW1]:=S253.pk [] (by decide) [1,15,16] rfl rfl
  try clear S253
  refine c_seq<|reg ?_
  obtain ⟨r379,h380,H⟩:=bindS H
  refine p_cal (law_torn_ok h380) fu15 rfl ?_
  rintro _ w381 ⟨A383,c384,rfl,k382,⟨o385,n386⟩,_⟩
  have S388:=S378.addNew k382 o385 n386
  try clear S378
  obtain ⟨r389,h390,H⟩:=bindS H
  refine p_cv (tally_Many_ok h390 (gr_rd eTallyCount_len (S388.atX (i:=0) rfl)) (S388.atP (i:=1) rfl) (S388.atP (i:=2) rfl)) fu6 rfl S388 fun w391 S392=>?_
  try clear S388
  refine p_mT rfl<|p_ext rfl rfl<|p_ext rfl rfl<|p_allA in33 S392 fun b393 w394 S395=>?_
  try clear S392
  refine p_stP (pre:=[]) (old:=[I 0,I 0]) (post:=[]) (vs:=[I r389.1.Low,I r389.1.High]) sz33 S395 (i:=0) rfl rfl rfl rfl (rfl:_=AG [I r389.1.Low,I r389.1.High]) rfl rfl rfl rfl fun w396 S397=>?_
  try clear S395
  refine p_aI rfl<|wp_nil<|c_seq<|reg ?_
  obtain ⟨r398,h399,H⟩:=bindS H
  refine p_cal (law_torn_ok h399) fu15 rfl ?_
  rintro _ w400 ⟨A402,c403,rfl,k401,⟨o404,n405⟩,_⟩
  have S407:=S397.addNew k401 o404 n405
  try clear S397
  obtain ⟨r408,h409,H⟩:=bindS H
  refine p_cv (tally_Many_ok h409 (gr_rd eTallyCount_len (S407.atX (i:=0) rfl)) (S407.atP (i:=1) rfl) (S407.atP (i:=2) rfl)) fu6 rfl S407 fun w410 S411=>?_
  try clear S407
  refine p_mT rfl<|p_ext rfl rfl<|p_ext rfl rfl<|p_allA in33 S411 fun b412 w413 S414=>?_
  try clear S411
  refine p_stP (pre:=[]) (old:=[I 0,I 0]) (post:=[]) (vs:=[I r408.1.Low,I r408.1.High]) sz33 S414 (i:=0) rfl rfl rfl rfl (rfl:_=AG [I r408.1.Low,I r408.1.High]) rfl rfl rfl rfl fun w415 S416=>?_
  try clear S414
  refine p_aI rfl<|wp_nil ?_
  have S417:St w nF w415 [] [rd eTallyCount 7 none 0 ([]:List TallyCount),gW0,gW1]:=S416.pk [] (by decide) [0,1,2] rfl rfl
  try clear S416
  refine c_seq<|reg ?_
  obtain ⟨r418,h419,H⟩:=bindS H
  refine p_cal (law_torn_ok h419) fu15 rfl ?_
  rintro _ w420 ⟨A422,c423,rfl,k421,⟨o424,n425⟩,_⟩
  have S427:=S417.addNew k421 o424 n425
  try clear S417
  refine p_bsl (enc:=intE) (l:=[1,2,3]) I (fun _=>rfl) sc40 in3 intE_len rfl (by decide) (by decide) zr3_3 S427 rfl fun A428 c429 w430 S431=>?_
  try clear S427
  obtain ⟨r433,h434,H⟩:=bindS H
  refine p_cv (tally_Can_ok h434 (gr_rd eTallyCount_len (S431.atX (i:=1) rfl)) (gr_rd intE_len (S431.atX (i:=0) rfl)) (S431.atP (i:=1) rfl)) fu7 rfl S431 fun w435 S436=>?_
  try clear S431
  refine p_mT rfl<|p_ext rfl rfl<|p_ext rfl rfl<|p_aB rfl<|p_aI rfl<|wp_nil<|c_seq<|reg ?_
  obtain ⟨r437,h438,H⟩:=bindS H
  refine p_cal (law_torn_ok h438) fu15 rfl ?_
  rintro _ w439 ⟨A441,c442,rfl,k440,⟨o443,n444⟩,_⟩
  have S446:=S436.addNew k440 o443 n444
  try clear S436
  obtain ⟨r447,h448,H⟩:=bindS H
  refine p_cv (tally_Pays_ok h448 (gr_rd eTallyCount_len (S446.atX (i:=0) rfl)) (S446.atP (i:=1) rfl) (S446.atP (i:=2) rfl)) fu8 rfl S446 fun w449 S450=>?_
  try clear S446
  refine p_mT rfl<|p_ext rfl rfl<|p_ext rfl rfl<|p_allA in33 S450 fun b451 w452 S453=>?_
  try clear S450
  refine p_stP (pre:=[]) (old:=[I 0,I 0]) (post:=[]) (vs:=[I r447.1.Low,I r447.1.High]) sz33 S453 (i:=0) rfl rfl rfl rfl (rfl:_=AG [I r447.1.Low,I r447.1.High]) rfl rfl rfl rfl fun w454 S455=>?_
  try clear S453
  refine p_aI rfl<|wp_nil ?_
  have S456:St w nF w454 [] [rd eTallyCount 7 none 0 ([]:List TallyCount),gW0,gW1]:=S455.pk [] (by decide) [0,1,2] rfl rfl
  try clear S455
  refine c_seq<|reg ?_
  obtain ⟨r457,h458,H⟩:=bindS H
  refine p_cal (law_torn_ok h458) fu15 rfl ?_
  rintro _ w459 ⟨A461,c462,rfl,k460,⟨o463,n464⟩,_⟩
  have S466:=S456.addNew k460 o463 n464
  try clear S456
  obtain ⟨r467,h468,H⟩:=bindS H
  refine p_cv (law_count_ok h468) fu10 rfl S466 fun w469 S470=>?_
  try clear S466
  obtain ⟨r471,h472,H⟩:=bindS H
  refine p_cv (tally_Fits_ok h472 (gr_rd eTallyCount_len (S470.atX (i:=0) rfl)) (S470.atP (i:=1) rfl) (S470.atP (i:=2) rfl)) fu9 rfl S470 fun w473 S474=>?_
  try clear S470
  refine p_mT rfl<|p_ext rfl rfl<|p_ext rfl rfl<|p_aB rfl<|p_aI rfl<|wp_nil<|c_seq<|reg ?_
  obtain ⟨r475,h476,H⟩:=bindS H
  refine p_cal (law_torn_ok h476) fu15 rfl ?_
  rintro _ w477 ⟨A479,c480,rfl,k478,⟨o481,n482⟩,_⟩
  have S484:=S474.addNew k478 o481 n482
  try clear S474
  obtain ⟨r485,h486,H⟩:=bindS H
  refine p_cv (tally_Many_ok h486 (gr_rd eTallyCount_len (S484.atX (i:=0) rfl)) (S484.atP (i:=1) rfl) (S484.atP (i:=2) rfl)) fu6 rfl S484 fun w487 S488=>?_
  try clear S484
  refine p_mT rfl<|p_ext rfl rfl<|p_ext rfl rfl<|p_allA in33 S488 fun b489 w490 S491=>?_
  try clear S488
  refine p_stP (pre:=[]) (old:=[I 0,I 0]) (post:=[]) (vs:=[I r485.1.Low,I r485.1.High]) sz33 S491 (i:=0) rfl rfl rfl rfl (rfl:_=AG [I r485.1.Low,I r485.1.High]) rfl rfl rfl rfl fun w492 S493=>?_
  try clear S491
  refine p_aI rfl<|wp_nil ?_
  have S494:St w nF w492 [] [rd eTallyCount 7 none 0 ([]:List TallyCount),gW0,gW1]:=S493.pk [] (by decide) [0,1,2] rfl rfl
  try clear S493
  refine c_seq<|reg ?_
  obtain ⟨r495,h496,H⟩:=bindS H
  refine p_cal (law_torn_ok h496) fu15 rfl ?_
  rintro _ w497 ⟨A499,c500,rfl,k498,⟨o501,n502⟩,_⟩
  have S504:=S494.addNew k498 o501 n502
  try clear S494
  obtain ⟨r505,h506,H⟩:=bindS H
  refine p_cv (tally_Pays_ok h506 (gr_rd eTallyCount_len (S504.atX (i:=0) rfl)) (S504.atP (i:=1) rfl) (S504.atP (i:=2) rfl)) fu8 rfl S504 fun w507 S508=>?_
  try clear S504
  refine p_mT rfl<|p_ext rfl rfl<|p_ext rfl rfl<|p_allA in33 S508 fun b509 w510 S511=>?_
  try clear S508
  refine p_stP (pre:=[]) (old:=[I 0,I 0]) (post:=[]) (vs:=[I r505.1.Low,I r505.1.High]) sz33 S511 (i:=0) rfl rfl rfl rfl (rfl:_=AG [I r505.1.Low,I r505.1.High]) rfl rfl rfl rfl fun w512 S513=>?_
  try clear S511
  refine p_aI rfl<|wp_nil<|c_seq<|reg ?_
  obtain ⟨r514,h515,H⟩:=bindS H
  refine p_cal (law_torn_ok h515) fu15 rfl ?_
  rintro _ w516 ⟨A518,c519,rfl,k517,⟨o520,n521⟩,_⟩
  have S523:=S513.addNew k517 o520 n521
  try clear S513
  obtain ⟨r524,h525,H⟩:=bindS H
  refine p_cv (law_count_ok h525) fu10 rfl S523 fun w526 S527=>?_
  try clear S523
  obtain ⟨r528,h529,H⟩:=bindS H
  refine p_cv (tally_Fits_ok h529 (gr_rd eTallyCount_len (S527.atX (i:=0) rfl)) (S527.atP (i:=1) rfl) (S527.atP (i:=2) rfl)) fu9 rfl S527 fun w530 S531=>?_
  try clear S527
  refine p_mT rfl<|p_ext rfl rfl<|p_ext rfl rfl<|p_aB rfl<|p_aI rfl<|wp_nil ?_
  have S532:St w nF w530 [] [rd eTallyCount 7 none 0 ([]:List TallyCount),gW0,gW1]:=S531.pk [] (by decide) [0,1,2] rfl rfl
  try clear S531
  refine c_seq<|reg ?_
  obtain ⟨r533,h534,H⟩:=bindS H
  refine p_cal (law_torn_ok h534) fu15 rfl ?_
  rintro _ w535 ⟨A537,c538,rfl,k536,⟨o539,n540⟩,_⟩
  have S542:=S532.addNew k536 o539 n540
  try clear S532
  obtain ⟨r543,h544,H⟩:=bindS H
  refine p_cv (tally_Again_ok h544 (gr_rd eTallyCount_len (S542.atX (i:=0) rfl)) (S542.atP (i:=1) rfl) (S542.atP (i:=2) rfl)) fu13 rfl S542 fun w545 S546=>?_
  try clear S542
  refine p_mT rfl<|p_ext rfl rfl<|p_ext rfl rfl<|p_aI rfl<|p_aI rfl<|wp_nil<|c_seq<|reg<|p_bld (cs:=[I 2,I 0,SL none 0 0]) st24 (rfl:_=[(0,I 2)]) (by kernel_rfl) ?_
  obtain ⟨r547,h548,H⟩:=bindS H
  refine p_cv (tally_Again_ok h548 (S546.atP (i:=0) rfl) (S546.atP (i:=1) rfl) (S546.atP (i:=2) rfl)) fu13 rfl S546 fun w549 S550=>?_
  try clear S546
  refine p_mT rfl<|p_ext rfl rfl<|p_ext rfl rfl<|p_aI rfl<|p_aI rfl<|wp_nil<|c_seq<|c_seq<|reg<|p_mI rfl<|p_cmp rfl rfl rfl<|p_mB rfl ?_
  rcases bE ((r389.2 != 51)) with c551 | c551
  ·replace H:=condT c551 H
   refine eB c551<|gF rfl rfl<|gF rfl rfl<|p_pkT rfl (rfl:_=B true)<|p_mB rfl<|gF rfl rfl<|gF rfl rfl<|p_pkT rfl (rfl:_=B true)<|p_mB rfl<|gF rfl rfl<|gF rfl rfl<|p_pkT rfl (rfl:_=B true)<|p_mB rfl<|gF rfl rfl<|gF rfl rfl<|p_pkT rfl (rfl:_=B true)<|p_mB rfl<|gF rfl rfl<|gF rfl rfl<|p_pkT rfl (rfl:_=B true)<|p_mB rfl<|gF rfl rfl<|gF rfl rfl<|p_pkT rfl (rfl:_=B true)<|p_mB rfl<|gF rfl rfl<|gF rfl rfl<|p_pkT rfl (rfl:_=B true)<|p_mB rfl ?_
   refine gF rfl rfl<|gF rfl rfl<|p_pkT rfl (rfl:_=B true)<|p_mB rfl<|gF rfl rfl<|gF rfl rfl<|p_pkT rfl (rfl:_=B true)<|wp_nil<|c_true rfl<|c_seq<|reg<|p_aB rfl<|wp_nil ?_
   obtain rfl:=sJ H
   exact c_ret (rT Tryd.f3 S550.keep rfl rfl)
  ·replace H:=condF c551 H
   refine eB c551 ?_
   refine gT rfl rfl (p_mI rfl ?_)
   refine gT rfl rfl (p_cmp rfl rfl rfl ?_)
   refine p_pkF rfl (rfl:_=B (r408.2 != 51))<|p_mB rfl ?_
   rcases bE ((r408.2 != 51)) with c552 | c552
   ·replace H:=condT c552 H
    refine eB c552<|gF rfl rfl<|gF rfl rfl<|p_pkT rfl (rfl:_=B true)<|p_mB rfl<|gF rfl rfl<|gF rfl rfl<|p_pkT rfl (rfl:_=B true)<|p_mB rfl<|gF rfl rfl<|gF rfl rfl<|p_pkT rfl (rfl:_=B true)<|p_mB rfl<|gF rfl rfl<|gF rfl rfl<|p_pkT rfl (rfl:_=B true)<|p_mB rfl<|gF rfl rfl<|gF rfl rfl<|p_pkT rfl (rfl:_=B true)<|p_mB rfl<|gF rfl rfl<|gF rfl rfl<|p_pkT rfl (rfl:_=B true)<|p_mB rfl<|gF rfl rfl<|gF rfl rfl<|p_pkT rfl (rfl:_=B true)<|p_mB rfl ?_
    refine gF rfl rfl<|gF rfl rfl<|p_pkT rfl (rfl:_=B true)<|wp_nil<|c_true rfl<|c_seq<|reg<|p_aB rfl<|wp_nil ?_
    obtain rfl:=sJ H
    exact c_ret (rT Tryd.f3 S550.keep rfl rfl)
   ·replace H:=condF c552 H
    refine eB c552 ?_
    refine gT rfl rfl (p_mI rfl ?_)
    refine gT rfl rfl (p_cmp rfl rfl rfl ?_)
    refine p_pkF rfl (rfl:_=B (r433.2 != 51))<|p_mB rfl ?_
    rcases bE ((r433.2 != 51)) with c553 | c553
    ·replace H:=condT c553 H
     refine eB c553<|gF rfl rfl<|gF rfl rfl<|p_pkT rfl (rfl:_=B true)<|p_mB rfl<|gF rfl rfl<|gF rfl rfl<|p_pkT rfl (rfl:_=B true)<|p_mB rfl<|gF rfl rfl<|gF rfl rfl<|p_pkT rfl (rfl:_=B true)<|p_mB rfl<|gF rfl rfl<|gF rfl rfl<|p_pkT rfl (rfl:_=B true)<|p_mB rfl<|gF rfl rfl<|gF rfl rfl<|p_pkT rfl (rfl:_=B true)<|p_mB rfl<|gF rfl rfl<|gF rfl rfl<|p_pkT rfl (rfl:_=B true)<|p_mB rfl<|gF rfl rfl<|gF rfl rfl<|p_pkT rfl (rfl:_=B true)<|wp_nil ?_
     refine c_true rfl<|c_seq<|reg<|p_aB rfl<|wp_nil ?_
     obtain rfl:=sJ H
     exact c_ret (rT Tryd.f3 S550.keep rfl rfl)
    ·replace H:=condF c553 H
     refine eB c553 ?_
     refine gT rfl rfl (p_mI rfl ?_)
     refine gT rfl rfl (p_cmp rfl rfl rfl ?_)
     refine p_pkF rfl (rfl:_=B (r447.2 != 51))<|p_mB rfl ?_
     rcases bE ((r447.2 != 51)) with c554 | c554
     ·replace H:=condT c554 H
      refine eB c554<|gF rfl rfl<|gF rfl rfl<|p_pkT rfl (rfl:_=B true)<|p_mB rfl<|gF rfl rfl<|gF rfl rfl<|p_pkT rfl (rfl:_=B true)<|p_mB rfl<|gF rfl rfl<|gF rfl rfl<|p_pkT rfl (rfl:_=B true)<|p_mB rfl<|gF rfl rfl<|gF rfl rfl<|p_pkT rfl (rfl:_=B true)<|p_mB rfl<|gF rfl rfl<|gF rfl rfl<|p_pkT rfl (rfl:_=B true)<|p_mB rfl<|gF rfl rfl<|gF rfl rfl<|p_pkT rfl (rfl:_=B true)<|wp_nil<|c_true rfl<|c_seq<|reg<|p_aB rfl<|wp_nil ?_
      obtain rfl:=sJ H
      exact c_ret (rT Tryd.f3 S550.keep rfl rfl)
     ·replace H:=condF c554 H
      refine eB c554 ?_
      refine gT rfl rfl (p_mI rfl ?_)
      refine gT rfl rfl (p_cmp rfl rfl rfl ?_)
      refine p_pkF rfl (rfl:_=B (r471.2 != 51))<|p_mB rfl ?_
      rcases bE ((r471.2 != 51)) with c555 | c555
      ·replace H:=condT c555 H
       refine eB c555<|gF rfl rfl<|gF rfl rfl<|p_pkT rfl (rfl:_=B true)<|p_mB rfl<|gF rfl rfl<|gF rfl rfl<|p_pkT rfl (rfl:_=B true)<|p_mB rfl<|gF rfl rfl<|gF rfl rfl<|p_pkT rfl (rfl:_=B true)<|p_mB rfl<|gF rfl rfl<|gF rfl rfl<|p_pkT rfl (rfl:_=B true)<|p_mB rfl<|gF rfl rfl<|gF rfl rfl<|p_pkT rfl (rfl:_=B true)<|wp_nil<|c_true rfl<|c_seq<|reg<|p_aB rfl<|wp_nil ?_
       obtain rfl:=sJ H
       exact c_ret (rT Tryd.f3 S550.keep rfl rfl)
      ·replace H:=condF c555 H
       refine eB c555 ?_
       refine gT rfl rfl (p_mI rfl ?_)
       refine gT rfl rfl (p_cmp rfl rfl rfl ?_)
       refine p_pkF rfl (rfl:_=B (r485.2 != 52))<|p_mB rfl ?_
       rcases bE ((r485.2 != 52)) with c556 | c556
       ·replace H:=condT c556 H
        refine eB c556<|gF rfl rfl<|gF rfl rfl<|p_pkT rfl (rfl:_=B true)<|p_mB rfl<|gF rfl rfl<|gF rfl rfl<|p_pkT rfl (rfl:_=B true)<|p_mB rfl<|gF rfl rfl<|gF rfl rfl<|p_pkT rfl (rfl:_=B true)<|p_mB rfl<|gF rfl rfl<|gF rfl rfl<|p_pkT rfl (rfl:_=B true)<|wp_nil<|c_true rfl<|c_seq<|reg<|p_aB rfl<|wp_nil ?_
        obtain rfl:=sJ H
        exact c_ret (rT Tryd.f3 S550.keep rfl rfl)
       ·replace H:=condF c556 H
        refine eB c556 ?_
        refine gT rfl rfl (p_mI rfl ?_)
        refine gT rfl rfl (p_cmp rfl rfl rfl ?_)
        refine p_pkF rfl (rfl:_=B (r505.2 != 52))<|p_mB rfl ?_
        rcases bE ((r505.2 != 52)) with c557 | c557
        ·replace H:=condT c557 H
         refine eB c557<|gF rfl rfl<|gF rfl rfl<|p_pkT rfl (rfl:_=B true)<|p_mB rfl<|gF rfl rfl<|gF rfl rfl<|p_pkT rfl (rfl:_=B true)<|p_mB rfl<|gF rfl rfl<|gF rfl rfl<|p_pkT rfl (rfl:_=B true)<|wp_nil<|c_true rfl<|c_seq<|reg<|p_aB rfl<|wp_nil ?_
         obtain rfl:=sJ H
         exact c_ret (rT Tryd.f3 S550.keep rfl rfl)
        ·replace H:=condF c557 H
         refine eB c557 ?_
         refine gT rfl rfl (p_mI rfl ?_)
         refine gT rfl rfl (p_cmp rfl rfl rfl ?_)
         refine p_pkF rfl (rfl:_=B (r528.2 != 52))<|p_mB rfl ?_
         rcases bE ((r528.2 != 52)) with c558 | c558
         ·replace H:=condT c558 H
          refine eB c558<|gF rfl rfl<|gF rfl rfl<|p_pkT rfl (rfl:_=B true)<|p_mB rfl<|gF rfl rfl<|gF rfl rfl<|p_pkT rfl (rfl:_=B true)<|wp_nil<|c_true rfl<|c_seq<|reg<|p_aB rfl<|wp_nil ?_
          obtain rfl:=sJ H
          exact c_ret (rT Tryd.f3 S550.keep rfl rfl)
         ·replace H:=condF c558 H
          refine eB c558 ?_
          refine gT rfl rfl (p_mI rfl ?_)
          refine gT rfl rfl (p_cmp rfl rfl rfl ?_)
          refine p_pkF rfl (rfl:_=B (r543.2 != 52))<|p_mB rfl ?_
          rcases bE ((r543.2 != 52)) with c559 | c559
          ·replace H:=condT c559 H
           refine eB c559<|gF rfl rfl<|gF rfl rfl<|p_pkT rfl (rfl:_=B true)<|wp_nil<|c_true rfl<|c_seq<|reg<|p_aB rfl<|wp_nil ?_
           obtain rfl:=sJ H
           exact c_ret (rT Tryd.f3 S550.keep rfl rfl)
          ·replace H:=condF c559 H
           refine eB c559 ?_
           refine gT rfl rfl (p_mI rfl ?_)
           refine gT rfl rfl (p_cmp rfl rfl rfl ?_)
           refine p_pkF rfl (rfl:_=B (r547.2 != 4))<|wp_nil ?_
           refine c_cond rfl (fun c560=>?_) (fun c560=>?_)
           ·replace H:=condT c560 H
            refine c_seq<|reg<|p_aB rfl<|wp_nil ?_
            obtain rfl:=sJ H
            exact c_ret (rT Tryd.f3 S550.keep rfl rfl)
           ·replace H:=condF c560 H
            refine c_skip<|c_seq<|reg ?_
            obtain ⟨r561,h562,H⟩:=bindS H
            refine p_cal (law_own_ok h562) fu4 rfl ?_
            rintro _ w563 ⟨A565,c566,rfl,k564,⟨o567,n568⟩,_⟩
            have S570:=S550.addNew k564 o567 n568
            try clear S550
            obtain ⟨r571,h572,H⟩:=bindS H
            refine p_cv (tally_Many_ok h572 (gr_rd eTallyCount_len (S570.atX (i:=0) rfl)) (S570.atP (i:=1) rfl) (S570.atP (i:=2) rfl)) fu6 rfl S570 fun w573 S574=>?_
            try clear S570
            refine p_mT rfl<|p_ext rfl rfl<|p_ext rfl rfl<|p_allA in33 S574 fun b575 w576 S577=>?_
            try clear S574
            refine p_stP (pre:=[]) (old:=[I 0,I 0]) (post:=[]) (vs:=[I r571.1.Low,I r571.1.High]) sz33 S577 (i:=0) rfl rfl rfl rfl (rfl:_=AG [I r571.1.Low,I r571.1.High]) rfl rfl rfl rfl fun w578 S579=>?_
            try clear S577
            refine p_aI rfl<|wp_nil ?_
            have S580:St w nF w578 [bl b575 [I r571.1.Low,I r571.1.High] 33] [rd eTallyCount 7 none 0 ([]:List TallyCount),gW0,gW1]:=S579.pk [0] (by decide) [0,1,2] rfl rfl
            try clear S579
            refine c_seq<|reg ?_
            obtain ⟨r581,h582,H⟩:=bindS H
            refine p_cal (law_own_ok h582) fu4 rfl ?_
            rintro _ w583 ⟨A585,c586,rfl,k584,⟨o587,n588⟩,_⟩
            have S590:=S580.addNew k584 o587 n588
            try clear S580
            obtain ⟨r591,h592,H⟩:=bindS H
            refine p_cv (tally_Many_ok h592 (gr_rd eTallyCount_len (S590.atX (i:=0) rfl)) (S590.atP (i:=1) rfl) (S590.atP (i:=2) rfl)) fu6 rfl S590 fun w593 S594=>?_
            try clear S590
            refine p_mT rfl<|p_ext rfl rfl<|p_ext rfl rfl<|p_allA in33 S594 fun b595 w596 S597=>?_
            try clear S594
            refine p_stP (pre:=[]) (old:=[I 0,I 0]) (post:=[]) (vs:=[I r591.1.Low,I r591.1.High]) sz33 S597 (i:=0) rfl rfl rfl rfl (rfl:_=AG [I r591.1.Low,I r591.1.High]) rfl rfl rfl rfl fun w598 S599=>?_
            try clear S597
            refine p_aI rfl<|wp_nil ?_
            have S600:St w nF w598 [bl b595 [I r591.1.Low,I r591.1.High] 33,bl b575 [I r571.1.Low,I r571.1.High] 33] [rd eTallyCount 7 none 0 ([]:List TallyCount),gW0,gW1]:=S599.pk [0,2] (by decide) [0,1,2] rfl rfl
            try clear S599
            refine c_seq<|reg ?_
            obtain ⟨r601,h602,H⟩:=bindS H
            refine p_cal (law_own_ok h602) fu4 rfl ?_
            rintro _ w603 ⟨A605,c606,rfl,k604,⟨o607,n608⟩,_⟩
            have S610:=S600.addNew k604 o607 n608
            try clear S600
            obtain ⟨r611,h612,H⟩:=bindS H
            refine p_cv (tally_Many_ok h612 (gr_rd eTallyCount_len (S610.atX (i:=0) rfl)) (S610.atP (i:=1) rfl) (S610.atP (i:=2) rfl)) fu6 rfl S610 fun w613 S614=>?_
            try clear S610
            refine p_mT rfl<|p_ext rfl rfl<|p_ext rfl rfl<|p_allA in33 S614 fun b615 w616 S617=>?_
            try clear S614
            refine p_stP (pre:=[]) (old:=[I 0,I 0]) (post:=[]) (vs:=[I r611.1.Low,I r611.1.High]) sz33 S617 (i:=0) rfl rfl rfl rfl (rfl:_=AG [I r611.1.Low,I r611.1.High]) rfl rfl rfl rfl fun w618 S619=>?_
            try clear S617
            refine p_aI rfl<|wp_nil ?_
            have S620:St w nF w618 [bl b615 [I r611.1.Low,I r611.1.High] 33,bl b595 [I r591.1.Low,I r591.1.High] 33,bl b575 [I r571.1.Low,I r571.1.High] 33] [rd eTallyCount 7 none 0 ([]:List TallyCount),gW0,gW1]:=S619.pk [0,2,3] (by decide) [0,1,2] rfl rfl
            try clear S619
            refine c_seq<|reg ?_
            obtain ⟨r621,h622,H⟩:=bindS H
            refine p_cal (law_own_ok h622) fu4 rfl ?_
            rintro _ w623 ⟨A625,c626,rfl,k624,⟨o627,n628⟩,_⟩
            have S630:=S620.addNew k624 o627 n628
            try clear S620
            refine p_bsl (enc:=intE) (l:=[5,3,6,3]) I (fun _=>rfl) sc40 in3 intE_len rfl (by decide) (by decide) zr3_4 S630 rfl fun A631 c632 w633 S634=>?_
            try clear S630
            obtain ⟨r636,h637,H⟩:=bindS H
            refine p_cv (tally_Can_ok h637 (gr_rd eTallyCount_len (S634.atX (i:=1) rfl)) (gr_rd intE_len (S634.atX (i:=0) rfl)) (S634.atP (i:=1) rfl)) fu7 rfl S634 fun w638 S639=>?_
            try clear S634
            refine p_mT rfl<|p_ext rfl rfl<|p_ext rfl rfl<|p_aB rfl<|p_aI rfl<|wp_nil ?_
            have S640:St w nF w638 [bl b615 [I r611.1.Low,I r611.1.High] 33,bl b595 [I r591.1.Low,I r591.1.High] 33,bl b575 [I r571.1.Low,I r571.1.High] 33] [rd eTallyCount 7 none 0 ([]:List TallyCount),gW0,gW1]:=S639.pk [2,3,4] (by decide) [0,1,2] rfl rfl
            try clear S639
            refine c_seq<|reg ?_
            obtain ⟨r641,h642,H⟩:=bindS H
            refine p_cal (law_own_ok h642) fu4 rfl ?_
            rintro _ w643 ⟨A645,c646,rfl,k644,⟨o647,n648⟩,_⟩
            have S650:=S640.addNew k644 o647 n648
            try clear S640
            refine p_bsl (enc:=intE) (l:=[5,5,6,11]) I (fun _=>rfl) sc40 in3 intE_len rfl (by decide) (by decide) zr3_4 S650 rfl fun A651 c652 w653 S654=>?_
            try clear S650
            obtain ⟨r656,h657,H⟩:=bindS H
            refine p_cv (tally_Can_ok h657 (gr_rd eTallyCount_len (S654.atX (i:=1) rfl)) (gr_rd intE_len (S654.atX (i:=0) rfl)) (S654.atP (i:=1) rfl)) fu7 rfl S654 fun w658 S659=>?_
            try clear S654
            refine p_mT rfl<|p_ext rfl rfl<|p_ext rfl rfl<|p_aB rfl<|p_aI rfl<|wp_nil ?_
            have S660:St w nF w658 [bl b615 [I r611.1.Low,I r611.1.High] 33,bl b595 [I r591.1.Low,I r591.1.High] 33,bl b575 [I r571.1.Low,I r571.1.High] 33] [rd eTallyCount 7 none 0 ([]:List TallyCount),gW0,gW1]:=S659.pk [2,3,4] (by decide) [0,1,2] rfl rfl
            try clear S659
            refine c_seq<|reg ?_
            obtain ⟨r661,h662,H⟩:=bindS H
            refine p_cal (law_own_ok h662) fu4 rfl ?_
            rintro _ w663 ⟨A665,c666,rfl,k664,⟨o667,n668⟩,_⟩
            have S670:=S660.addNew k664 o667 n668
            try clear S660
            obtain ⟨r671,h672,H⟩:=bindS H
            refine p_cv (law_count_ok h672) fu10 rfl S670 fun w673 S674=>?_
            try clear S670
            obtain ⟨r675,h676,H⟩:=bindS H
            refine p_cv (tally_Fits_ok h676 (gr_rd eTallyCount_len (S674.atX (i:=0) rfl)) (S674.atP (i:=1) rfl) (S674.atP (i:=2) rfl)) fu9 rfl S674 fun w677 S678=>?_
            try clear S674
            refine p_mT rfl<|p_ext rfl rfl<|p_ext rfl rfl<|p_aB rfl<|p_aI rfl<|wp_nil ?_
            have S679:St w nF w677 [bl b615 [I r611.1.Low,I r611.1.High] 33,bl b595 [I r591.1.Low,I r591.1.High] 33,bl b575 [I r571.1.Low,I r571.1.High] 33] [rd eTallyCount 7 none 0 ([]:List TallyCount),gW0,gW1]:=S678.pk [1,2,3] (by decide) [0,1,2] rfl rfl
            try clear S678
            refine c_seq<|reg ?_
            obtain ⟨r680,h681,H⟩:=bindS H
            refine p_cal (law_own_ok h681) fu4 rfl ?_
            rintro _ w682 ⟨A684,c685,rfl,k683,⟨o686,n687⟩,_⟩
            have S689:=S679.addNew k683 o686 n687
            try clear S679
            obtain ⟨r690,h691,H⟩:=bindS H
            refine p_cal (tally_Whose_ok h691 (gr_rd eTallyCount_len (S689.atX (i:=0) rfl)) (S689.atP (i:=1) rfl) (S689.atP (i:=2) rfl)) fu12 rfl ?_
            rintro _ w692 ⟨A694,c695,rfl,k693,⟨o696,n697⟩,_⟩
            have S698:=S689.callN k693 [rd intE 1 A694 c695 r690.1] (cA ⟨o696,New.inL n697⟩ nM)
            try clear S689
            refine p_mT rfl<|p_ext rfl rfl<|p_ext rfl rfl<|p_aS rfl<|p_aI rfl<|wp_nil ?_
            have S699:St w nF w692 [bl b615 [I r611.1.Low,I r611.1.High] 33,bl b595 [I r591.1.Low,I r591.1.High] 33,bl b575 [I r571.1.Low,I r571.1.High] 33] [rd intE 1 A694 c695 r690.1,rd eTallyCount 7 none 0 ([]:List TallyCount),gW0,gW1]:=S698.pk [1,2,3] (by decide) [0,1,2,3] rfl rfl
            try clear S698
            refine c_seq<|reg ?_
            obtain ⟨r700,h701,H⟩:=bindS H
            refine p_cal (law_own_ok h701) fu4 rfl ?_
            rintro _ w702 ⟨A704,c705,rfl,k703,⟨o706,n707⟩,_⟩
            have S709:=S699.addNew k703 o706 n707
            try clear S699
            have S710:=S709.fixRd eTallyCount_len (i:=0) rfl
            try clear S709
            obtain ⟨r711,h712,H⟩:=bindS H
            refine p_cal (tally_Wrong_ok h712 (S710.atP (i:=0) rfl) (S710.atP (i:=3) rfl) (S710.atP (i:=4) rfl)) fu11 rfl ?_
            rintro _ w713 ⟨A715,c716,rfl,k714,⟨o717,n718⟩,_⟩
            have S719:=S710.callN k714 [rd intE 1 A715 c716 r711.1] (cA ⟨o717,Al.inL n718 ((cA (fp_mem (i:=0) rfl) nM))⟩ nM)
            try clear S710
            refine p_mT rfl<|p_ext rfl rfl<|p_ext rfl rfl<|p_aS rfl<|p_aI rfl<|wp_nil ?_
            have S720:St w nF w713 [bl b615 [I r611.1.Low,I r611.1.High] 33,bl b595 [I r591.1.Low,I r591.1.High] 33,bl b575 [I r571.1.Low,I r571.1.High] 33] [rd intE 1 A715 c716 r711.1,rd intE 1 A694 c695 r690.1,rd eTallyCount 7 none 0 ([]:List TallyCount),gW0,gW1]:=S719.pk [0,1,2] (by decide) [0,2,3,4,5] rfl rfl
            try clear S719
            refine c_seq<|reg ?_
            obtain ⟨r721,h722,H⟩:=bindS H
            refine p_cal (law_torn_ok h722) fu15 rfl ?_
            rintro _ w723 ⟨A725,c726,rfl,k724,⟨o727,n728⟩,_⟩
            have S730:=S720.addNew k724 o727 n728
            try clear S720
            refine p_bsl (enc:=intE) (l:=[5,5,6,3]) I (fun _=>rfl) sc40 in3 intE_len rfl (by decide) (by decide) zr3_4 S730 rfl fun A731 c732 w733 S734=>?_
            try clear S730
            obtain ⟨r736,h737,H⟩:=bindS H
            refine p_cv (tally_Can_ok h737 (gr_rd eTallyCount_len (S734.atX (i:=1) rfl)) (gr_rd intE_len (S734.atX (i:=0) rfl)) (S734.atP (i:=3) rfl)) fu7 rfl S734 fun w738 S739=>?_
            try clear S734
            refine p_mT rfl<|p_ext rfl rfl<|p_ext rfl rfl<|p_aB rfl<|p_aI rfl<|wp_nil ?_
            have S740:St w nF w738 [bl b615 [I r611.1.Low,I r611.1.High] 33,bl b595 [I r591.1.Low,I r591.1.High] 33,bl b575 [I r571.1.Low,I r571.1.High] 33] [rd intE 1 A715 c716 r711.1,rd intE 1 A694 c695 r690.1,rd eTallyCount 7 none 0 ([]:List TallyCount),gW0,gW1]:=S739.pk [2,3,4] (by decide) [0,1,2,3,4] rfl rfl
            try clear S739
            refine c_seq ?_
            rcases bE ((r571.2==0)) with c741 | c741
            ·replace H:=condT c741 H
             obtain ⟨r742,h743,H⟩:=bindS H
             rcases bE (((r571.1.Low==r742.Low)&&(r571.1.High==r742.High))) with c744 | c744
             ·replace H:=condT c744 H
              rcases bE ((r591.2==0)) with c745 | c745
              ·replace H:=condT c745 H
               obtain ⟨r746,h747,H⟩:=bindS H
               rcases bE (((r591.1.Low==r746.Low)&&(r591.1.High==r746.High))) with c748 | c748
               ·replace H:=condT c748 H
                rcases bE ((r611.2==0)) with c749 | c749
                ·replace H:=condT c749 H
                 obtain ⟨r750,h751,H⟩:=bindS H
                 rcases bE (((r611.1.Low==r750.Low)&&(r611.1.High==r750.High))) with c752 | c752
                 ·replace H:=condT c752 H
                  rcases bE ((r636.2==0)) with c753 | c753
                  ·replace H:=condT c753 H
                   rcases bE (!r636.1) with c754 | c754
                   ·replace H:=condT c754 H
                    rcases bE ((r656.2==0)) with c755 | c755
                    ·replace H:=condT c755 H
                     rcases bE (!r656.1) with c756 | c756
                     ·replace H:=condT c756 H
                      rcases bE ((r675.2==0)) with c757 | c757
                      ·replace H:=condT c757 H
                       rcases bE (!r675.1) with c758 | c758
                       ·replace H:=condT c758 H
                        rcases bE ((r690.2==0)) with c759 | c759
                        ·replace H:=condT c759 H
                         refine reg_c mixed 81 [55,56,57,58,59,60,61,62,63,64,65,66,67,68,69,70,71,72,73,74,75,76,77,78,79,80] (by kernel_rfl) ?_
                         refine kS rfl (fun _ k_=>p_mI rfl dn)<|kS rfl (fun _ k_=>p_cmp rfl rfl rfl dn)<|kS rfl (fun _ k_=>p_mB rfl dn)<|kB c741<|kS rfl (fun _ k_=>gT rfl rfl (p_ldA ty33 sz33 (aS (S740.atX (i:=2) rfl) k_) rfl rfl dn))<|kS rfl (fun _ k_=>gT rfl rfl (p_cvD (B_Range_ok h743) fu16 rfl)) ?_
                         refine kS rfl (fun _ k_=>gT rfl rfl (o_eqA (xs:=[I r571.1.Low,I r571.1.High]) (ys:=[I r742.Low,I r742.High]) (T:=((r571.1.Low==r742.Low)&&(r571.1.High==r742.High))) rfl rfl eq33 ⟨⟨_,rfl⟩,⟨⟨_,rfl⟩,trivial⟩⟩ ⟨⟨_,rfl⟩,⟨⟨_,rfl⟩,trivial⟩⟩ (by simp [Bool.and_eq_true,and_assoc]) dn))<|kS rfl (fun _ k_=>p_pkT rfl (rfl:_=B ((r571.1.Low==r742.Low)&&(r571.1.High==r742.High))) dn) ?_
                         refine kS rfl (fun _ k_=>p_mB rfl dn)<|kB c744<|kS rfl (fun _ k_=>gT rfl rfl (p_mI rfl dn))<|kS rfl (fun _ k_=>gT rfl rfl (p_cmp rfl rfl rfl dn))<|kS rfl (fun _ k_=>p_pkT rfl (rfl:_=B (r591.2==0)) dn)<|kS rfl (fun _ k_=>p_mB rfl dn)<|kB c745<|kS rfl (fun _ k_=>gT rfl rfl (p_ldA ty33 sz33 (aS (S740.atX (i:=1) rfl) k_) rfl rfl dn)) ?_
                         refine kS rfl (fun _ k_=>gT rfl rfl (p_cvD (B_Range_ok h747) fu16 rfl))<|kS rfl (fun _ k_=>gT rfl rfl (o_eqA (xs:=[I r591.1.Low,I r591.1.High]) (ys:=[I r746.Low,I r746.High]) (T:=((r591.1.Low==r746.Low)&&(r591.1.High==r746.High))) rfl rfl eq33 ⟨⟨_,rfl⟩,⟨⟨_,rfl⟩,trivial⟩⟩ ⟨⟨_,rfl⟩,⟨⟨_,rfl⟩,trivial⟩⟩ (by simp [Bool.and_eq_true,and_assoc]) dn)) ?_
                         refine kS rfl (fun _ k_=>p_pkT rfl (rfl:_=B ((r591.1.Low==r746.Low)&&(r591.1.High==r746.High))) dn)<|kS rfl (fun _ k_=>p_mB rfl dn)<|kB c748<|kS rfl (fun _ k_=>gT rfl rfl (p_mI rfl dn))<|kS rfl (fun _ k_=>gT rfl rfl (p_cmp rfl rfl rfl dn))<|kS rfl (fun _ k_=>p_pkT rfl (rfl:_=B (r611.2==0)) dn)<|kS rfl (fun _ k_=>p_mB rfl dn)<|kB c749 ?_
                         refine kS rfl (fun _ k_=>gT rfl rfl (p_ldA ty33 sz33 (aS (S740.atX (i:=0) rfl) k_) rfl rfl dn))<|kS rfl (fun _ k_=>gT rfl rfl (p_cvD (B_Range_ok h751) fu16 rfl)) ?_
                         refine kS rfl (fun _ k_=>gT rfl rfl (o_eqA (xs:=[I r611.1.Low,I r611.1.High]) (ys:=[I r750.Low,I r750.High]) (T:=((r611.1.Low==r750.Low)&&(r611.1.High==r750.High))) rfl rfl eq33 ⟨⟨_,rfl⟩,⟨⟨_,rfl⟩,trivial⟩⟩ ⟨⟨_,rfl⟩,⟨⟨_,rfl⟩,trivial⟩⟩ (by simp [Bool.and_eq_true,and_assoc]) dn))<|kS rfl (fun _ k_=>p_pkT rfl (rfl:_=B ((r611.1.Low==r750.Low)&&(r611.1.High==r750.High))) dn) ?_
                         refine kS rfl (fun _ k_=>p_mB rfl dn)<|kB c752<|kS rfl (fun _ k_=>gT rfl rfl (p_mI rfl dn))<|kS rfl (fun _ k_=>gT rfl rfl (p_cmp rfl rfl rfl dn))<|kS rfl (fun _ k_=>p_pkT rfl (rfl:_=B (r636.2==0)) dn)<|kS rfl (fun _ k_=>p_mB rfl dn)<|kB c753<|kS rfl (fun _ k_=>gT rfl rfl (p_mB rfl dn))<|kS rfl (fun _ k_=>gT rfl rfl (p_not rfl dn))<|kS rfl (fun _ k_=>p_pkT rfl (rfl:_=B (!r636.1)) dn) ?_
                         refine kS rfl (fun _ k_=>p_mB rfl dn)<|kB c754<|kS rfl (fun _ k_=>gT rfl rfl (p_mI rfl dn))<|kS rfl (fun _ k_=>gT rfl rfl (p_cmp rfl rfl rfl dn))<|kS rfl (fun _ k_=>p_pkT rfl (rfl:_=B (r656.2==0)) dn)<|kS rfl (fun _ k_=>p_mB rfl dn)<|kB c755<|kS rfl (fun _ k_=>gT rfl rfl (p_mB rfl dn))<|kS rfl (fun _ k_=>gT rfl rfl (p_not rfl dn))<|kS rfl (fun _ k_=>p_pkT rfl (rfl:_=B (!r656.1)) dn) ?_
                         refine kS rfl (fun _ k_=>p_mB rfl dn)<|kB c756<|kS rfl (fun _ k_=>gT rfl rfl (p_mI rfl dn))<|kS rfl (fun _ k_=>gT rfl rfl (p_cmp rfl rfl rfl dn))<|kS rfl (fun _ k_=>p_pkT rfl (rfl:_=B (r675.2==0)) dn)<|kS rfl (fun _ k_=>p_mB rfl dn)<|kB c757<|kS rfl (fun _ k_=>gT rfl rfl (p_mB rfl dn))<|kS rfl (fun _ k_=>gT rfl rfl (p_not rfl dn))<|kS rfl (fun _ k_=>p_pkT rfl (rfl:_=B (!r675.1)) dn) ?_
                         refine kS rfl (fun _ k_=>p_mB rfl dn)<|kB c758<|kS rfl (fun _ k_=>gT rfl rfl (p_mI rfl dn))<|kS rfl (fun _ k_=>gT rfl rfl (p_cmp rfl rfl rfl dn))<|kS rfl (fun _ k_=>p_pkT rfl (rfl:_=B (r690.2==0)) dn)<|kS rfl (fun _ k_=>p_mB rfl dn)<|kB c759<|kS rfl (fun _ k_=>gT rfl rfl (p_mS rfl dn))<|kC rfl<|kC rfl<|kC rfl<|kC rfl<|kC rfl<|kC rfl<|kC rfl<|kC rfl<|kC rfl<|kC rfl<|kC rfl<|kC rfl<|kC rfl<|kC rfl<|kC rfl<|kC rfl<|kC rfl<|kC rfl<|kC rfl ?_
                         refine kC rfl<|kC rfl<|kC rfl<|kC rfl<|kC rfl<|kC rfl<|kC rfl ?_
                         intro w760 k761; have S762:=S740.call k761
                         refine gT rfl rfl ?_
                         have S768:=S762.base
                         refine p_bsl (enc:=intE) (l:=[0,1,2]) I (fun _=>rfl) sc40 in3 intE_len rfl (by decide) (by decide) zr3_3 S768 rfl fun A763 c764 w765 S766=>?_
                         try clear S768
                         refine cN S766.keep fun w769 k770=>?_
                         have S771:=(S762.fromBase S766).call k770
                         try clear S762; try clear S766
                         obtain ⟨r772,h773,H⟩:=bindS H
                         refine gT rfl rfl<|p_cal (B_Alike_ok h773 (S771.atP (i:=1) rfl) (gr_rd intE_len (S771.atX (i:=0) rfl))) fu17 rfl ?_
                         rintro _ w774 ⟨rfl,k775⟩; refine cN k775 fun w776 k777=>?_
                         have S778:=(S771.call k775).call k777
                         try clear S771
                         refine p_pkT rfl (rfl:_=B r772) (cN (kR) fun w779 k780=>?_)
                         have S781:=S778.call k780
                         try clear S778
                         refine p_mB rfl (cN (kR) fun w782 k783=>?_)
                         have S784:=S781.call k783
                         try clear S781
                         rcases bE (r772) with c785 | c785
                         ·replace H:=condT c785 H
                          rw [c785]
                          refine gT rfl rfl (p_mI rfl (cN (kR) fun w786 k787=>?_))
                          have S788:=S784.call k787
                          refine gT rfl rfl (p_cmp rfl rfl rfl (cN (kR) fun w789 k790=>?_))
                          have S791:=S788.call k790
                          try clear S788
                          refine p_pkT rfl (rfl:_=B (r711.2==0)) (cN (kR) fun w792 k793=>?_)
                          have S794:=S791.call k793
                          try clear S791
                          refine p_mB rfl (cN (kR) fun w795 k796=>?_)
                          have S797:=S794.call k796
                          try clear S794
                          rcases bE ((r711.2==0)) with c798 | c798
                          ·replace H:=condT c798 H
                           rw [c798]
                           refine gT rfl rfl (p_mS rfl (cN (kR) fun w799 k800=>?_))
                           have S801:=S797.call k800
                           refine gT rfl rfl (p_len rfl sc40 (cN (kR) fun w802 k803=>?_))
                           have S804:=S801.call k803
                           try clear S801
                           refine gT rfl rfl (p_cmp rfl rfl rfl (cN (kR) fun w805 k806=>?_))
                           have S807:=S804.call k806
                           try clear S804
                           refine p_pkT rfl (rfl:_=B ((r711.1.length:Int)==0)) (cN (kR) fun w808 k809=>?_)
                           have S810:=S807.call k809
                           try clear S807
                           refine p_mB rfl (cN (kR) fun w811 k812=>?_)
                           have S813:=S810.call k812
                           try clear S810
                           rcases bE (((r711.1.length:Int)==0)) with c814 | c814
                           ·replace H:=condT c814 H
                            rw [c814]
                            refine gT rfl rfl (p_mI rfl (cN (kR) fun w815 k816=>?_))
                            have S817:=S813.call k816
                            refine gT rfl rfl (p_cmp rfl rfl rfl (cN (kR) fun w818 k819=>?_))
                            have S820:=S817.call k819
                            try clear S817
                            refine p_pkT rfl (rfl:_=B (r736.2==0)) (cN (kR) fun w821 k822=>?_)
                            have S823:=S820.call k822
                            try clear S820
                            refine p_mB rfl (cN (kR) fun w824 k825=>?_)
                            have S826:=S823.call k825
                            try clear S823
                            rcases bE ((r736.2==0)) with c827 | c827
                            ·replace H:=condT c827 H
                             rw [c827]
                             refine gT rfl rfl (p_mB rfl (cN (kR) fun w828 k829=>?_))
                             have S830:=S826.call k829
                             refine gT rfl rfl (p_not rfl (cN (kR) fun w831 k832=>?_))
                             have S833:=S830.call k832
                             try clear S830
                             refine p_pkT rfl (rfl:_=B (!r736.1)) (cN (kR) fun w834 k835=>?_)
                             have S836:=S833.call k835
                             try clear S833
                             refine p_mB rfl (cN (kR) fun w837 k838=>?_)
                             have S839:=S836.call k838
                             try clear S836
                             rcases bE (!r736.1) with c840 | c840
                             ·replace H:=condT c840 H
                              rw [c840]
                              refine p_pkT rfl (rfl:_=B true) (cN (kR) fun w841 k842=>?_)
                              have S843:=S839.call k842
                              refine p_mB rfl (cN (kR) fun w844 k845=>?_)
                              have S846:=S843.call k845
                              try clear S843
                              obtain ⟨r847,h848,H⟩:=bindS H
                              refine gT rfl rfl<|p_cal (law_counted_ok h848 (S846.atP (i:=3) rfl) (S846.atP (i:=4) rfl)) fu18 rfl ?_
                              rintro _ w849 ⟨rfl,k850⟩; refine cN k850 fun w851 k852=>?_
                              have S853:=(S846.call k850).call k852
                              try clear S846
                              refine p_pkT rfl (rfl:_=B r847) (cN (kR) fun w854 k855=>?_)
                              have S856:=S853.call k855
                              try clear S853
                              refine p_aB rfl (cN (kR) fun w857 k858=>?_)
                              have S859:=S856.call k858
                              try clear S856
                              refine wp_nil ?_
                              have S860:St w nF w857 [] [rd eTallyCount 7 none 0 ([]:List TallyCount),gW0,gW1]:=S859.pk [] (by decide) [2,3,4] rfl rfl
                              try clear S859
                              obtain rfl:=sJ H
                              exact c_ret (rT Tryd.f3 S860.keep rfl rfl)
                             ·replace H:=condF c840 H
                              rw [c840]
                              refine p_pkF rfl (rfl:_=B false) (cN (kR) fun w861 k862=>?_)
                              have S863:=S839.call k862
                              try clear S839
                              refine p_mB rfl (cN (kR) fun w864 k865=>?_)
                              have S866:=S863.call k865
                              try clear S863
                              refine gF rfl rfl (cN (kR) fun w867 k868=>?_)
                              have S869:=S866.call k868
                              try clear S866
                              refine p_pkF rfl (rfl:_=B false) (cN (kR) fun w870 k871=>?_)
                              have S872:=S869.call k871
                              try clear S869
                              refine p_aB rfl (cN (kR) fun w873 k874=>?_)
                              have S875:=S872.call k874
                              try clear S872
                              refine wp_nil ?_
                              have S876:St w nF w873 [] [rd eTallyCount 7 none 0 ([]:List TallyCount),gW0,gW1]:=S875.pk [] (by decide) [2,3,4] rfl rfl
                              try clear S875
                              obtain rfl:=sJ H
                              exact c_ret (rT Tryd.f3 S876.keep rfl rfl)
                            ·replace H:=condF c827 H
                             rw [c827]
                             refine gF rfl rfl (cN (kR) fun w877 k878=>?_)
                             have S879:=S826.call k878
                             try clear S826
                             refine gF rfl rfl (cN (kR) fun w880 k881=>?_)
                             have S882:=S879.call k881
                             try clear S879
                             refine p_pkF rfl (rfl:_=B false) (cN (kR) fun w883 k884=>?_)
                             have S885:=S882.call k884
                             try clear S882
                             refine p_mB rfl (cN (kR) fun w886 k887=>?_)
                             have S888:=S885.call k887
                             try clear S885
                             refine p_pkF rfl (rfl:_=B false) (cN (kR) fun w889 k890=>?_)
                             have S891:=S888.call k890
                             try clear S888
                             refine p_mB rfl (cN (kR) fun w892 k893=>?_)
                             have S894:=S891.call k893
                             try clear S891
                             refine gF rfl rfl (cN (kR) fun w895 k896=>?_)
                             have S897:=S894.call k896
                             try clear S894
                             refine p_pkF rfl (rfl:_=B false) (cN (kR) fun w898 k899=>?_)
                             have S900:=S897.call k899
                             try clear S897
                             refine p_aB rfl (cN (kR) fun w901 k902=>?_)
                             have S903:=S900.call k902
                             try clear S900
                             refine wp_nil ?_
                             have S904:St w nF w901 [] [rd eTallyCount 7 none 0 ([]:List TallyCount),gW0,gW1]:=S903.pk [] (by decide) [2,3,4] rfl rfl
                             try clear S903
                             obtain rfl:=sJ H
                             exact c_ret (rT Tryd.f3 S904.keep rfl rfl)
                           ·replace H:=condF c814 H
                            rw [c814]
                            refine gF rfl rfl (cN (kR) fun w905 k906=>?_)
                            have S907:=S813.call k906
                            try clear S813
                            refine gF rfl rfl (cN (kR) fun w908 k909=>?_)
                            have S910:=S907.call k909
                            try clear S907
                            refine p_pkF rfl (rfl:_=B false) (cN (kR) fun w911 k912=>?_)
                            have S913:=S910.call k912
                            try clear S910
                            refine p_mB rfl (cN (kR) fun w914 k915=>?_)
                            have S916:=S913.call k915
                            try clear S913
                            refine gF rfl rfl (cN (kR) fun w917 k918=>?_)
                            have S919:=S916.call k918
                            try clear S916
                            refine gF rfl rfl (cN (kR) fun w920 k921=>?_)
                            have S922:=S919.call k921
                            try clear S919
                            refine p_pkF rfl (rfl:_=B false) (cN (kR) fun w923 k924=>?_)
                            have S925:=S922.call k924
                            try clear S922
                            refine p_mB rfl (cN (kR) fun w926 k927=>?_)
                            have S928:=S925.call k927
                            try clear S925
                            refine p_pkF rfl (rfl:_=B false) (cN (kR) fun w929 k930=>?_)
                            have S931:=S928.call k930
                            try clear S928
                            refine p_mB rfl (cN (kR) fun w932 k933=>?_)
                            have S934:=S931.call k933
                            try clear S931
                            refine gF rfl rfl (cN (kR) fun w935 k936=>?_)
                            have S937:=S934.call k936
                            try clear S934
                            refine p_pkF rfl (rfl:_=B false) (cN (kR) fun w938 k939=>?_)
                            have S940:=S937.call k939
                            try clear S937
                            refine p_aB rfl (cN (kR) fun w941 k942=>?_)
                            have S943:=S940.call k942
                            try clear S940
                            refine wp_nil ?_
                            have S944:St w nF w941 [] [rd eTallyCount 7 none 0 ([]:List TallyCount),gW0,gW1]:=S943.pk [] (by decide) [2,3,4] rfl rfl
                            try clear S943
                            obtain rfl:=sJ H
                            exact c_ret (rT Tryd.f3 S944.keep rfl rfl)
                          ·replace H:=condF c798 H
                           rw [c798]
                           refine gF rfl rfl (cN (kR) fun w945 k946=>?_)
                           have S947:=S797.call k946
                           try clear S797
                           refine gF rfl rfl (cN (kR) fun w948 k949=>?_)
                           have S950:=S947.call k949
                           try clear S947
                           refine gF rfl rfl (cN (kR) fun w951 k952=>?_)
                           have S953:=S950.call k952
                           try clear S950
                           refine p_pkF rfl (rfl:_=B false) (cN (kR) fun w954 k955=>?_)
                           have S956:=S953.call k955
                           try clear S953
                           refine p_mB rfl (cN (kR) fun w957 k958=>?_)
                           have S959:=S956.call k958
                           try clear S956
                           refine gF rfl rfl (cN (kR) fun w960 k961=>?_)
                           have S962:=S959.call k961
                           try clear S959
                           refine gF rfl rfl (cN (kR) fun w963 k964=>?_)
                           have S965:=S962.call k964
                           try clear S962
                           refine p_pkF rfl (rfl:_=B false) (cN (kR) fun w966 k967=>?_)
                           have S968:=S965.call k967
                           try clear S965
                           refine p_mB rfl (cN (kR) fun w969 k970=>?_)
                           have S971:=S968.call k970
                           try clear S968
                           refine gF rfl rfl (cN (kR) fun w972 k973=>?_)
                           have S974:=S971.call k973
                           try clear S971
                           refine gF rfl rfl (cN (kR) fun w975 k976=>?_)
                           have S977:=S974.call k976
                           try clear S974
                           refine p_pkF rfl (rfl:_=B false) (cN (kR) fun w978 k979=>?_)
                           have S980:=S977.call k979
                           try clear S977
                           refine p_mB rfl (cN (kR) fun w981 k982=>?_)
                           have S983:=S980.call k982
                           try clear S980
                           refine p_pkF rfl (rfl:_=B false) (cN (kR) fun w984 k985=>?_)
                           have S986:=S983.call k985
                           try clear S983
                           refine p_mB rfl (cN (kR) fun w987 k988=>?_)
                           have S989:=S986.call k988
                           try clear S986
                           refine gF rfl rfl (cN (kR) fun w990 k991=>?_)
                           have S992:=S989.call k991
                           try clear S989
                           refine p_pkF rfl (rfl:_=B false) (cN (kR) fun w993 k994=>?_)
                           have S995:=S992.call k994
                           try clear S992
                           refine p_aB rfl (cN (kR) fun w996 k997=>?_)
                           have S998:=S995.call k997
                           try clear S995
                           refine wp_nil ?_
                           have S999:St w nF w996 [] [rd eTallyCount 7 none 0 ([]:List TallyCount),gW0,gW1]:=S998.pk [] (by decide) [2,3,4] rfl rfl
                           try clear S998
                           obtain rfl:=sJ H
                           exact c_ret (rT Tryd.f3 S999.keep rfl rfl)
                         ·replace H:=condF c785 H
                          rw [c785]
                          refine gF rfl rfl (cN (kR) fun w1000 k1001=>?_)
                          have S1002:=S784.call k1001
                          try clear S784
                          refine gF rfl rfl (cN (kR) fun w1003 k1004=>?_)
                          have S1005:=S1002.call k1004
                          try clear S1002
                          refine p_pkF rfl (rfl:_=B false) (cN (kR) fun w1006 k1007=>?_)
                          have S1008:=S1005.call k1007
                          try clear S1005
                          refine p_mB rfl (cN (kR) fun w1009 k1010=>?_)
                          have S1011:=S1008.call k1010
                          try clear S1008
                          refine gF rfl rfl (cN (kR) fun w1012 k1013=>?_)
                          have S1014:=S1011.call k1013
                          try clear S1011
                          refine gF rfl rfl (cN (kR) fun w1015 k1016=>?_)
                          have S1017:=S1014.call k1016
                          try clear S1014
                          refine gF rfl rfl (cN (kR) fun w1018 k1019=>?_)
                          have S1020:=S1017.call k1019
                          try clear S1017
                          refine p_pkF rfl (rfl:_=B false) (cN (kR) fun w1021 k1022=>?_)
                          have S1023:=S1020.call k1022
                          try clear S1020
                          refine p_mB rfl (cN (kR) fun w1024 k1025=>?_)
                          have S1026:=S1023.call k1025
                          try clear S1023
                          refine gF rfl rfl (cN (kR) fun w1027 k1028=>?_)
                          have S1029:=S1026.call k1028
                          try clear S1026
                          refine gF rfl rfl (cN (kR) fun w1030 k1031=>?_)
                          have S1032:=S1029.call k1031
                          try clear S1029
                          refine p_pkF rfl (rfl:_=B false) (cN (kR) fun w1033 k1034=>?_)
                          have S1035:=S1032.call k1034
                          try clear S1032
                          refine p_mB rfl (cN (kR) fun w1036 k1037=>?_)
                          have S1038:=S1035.call k1037
                          try clear S1035
                          refine gF rfl rfl (cN (kR) fun w1039 k1040=>?_)
                          have S1041:=S1038.call k1040
                          try clear S1038
                          refine gF rfl rfl (cN (kR) fun w1042 k1043=>?_)
                          have S1044:=S1041.call k1043
                          try clear S1041
                          refine p_pkF rfl (rfl:_=B false) (cN (kR) fun w1045 k1046=>?_)
                          have S1047:=S1044.call k1046
                          try clear S1044
                          refine p_mB rfl (cN (kR) fun w1048 k1049=>?_)
                          have S1050:=S1047.call k1049
                          try clear S1047
                          refine p_pkF rfl (rfl:_=B false) (cN (kR) fun w1051 k1052=>?_)
                          have S1053:=S1050.call k1052
                          try clear S1050
                          refine p_mB rfl (cN (kR) fun w1054 k1055=>?_)
                          have S1056:=S1053.call k1055
                          try clear S1053
                          refine gF rfl rfl (cN (kR) fun w1057 k1058=>?_)
                          have S1059:=S1056.call k1058
                          try clear S1056
                          refine p_pkF rfl (rfl:_=B false) (cN (kR) fun w1060 k1061=>?_)
                          have S1062:=S1059.call k1061
                          try clear S1059
                          refine p_aB rfl (cN (kR) fun w1063 k1064=>?_)
                          have S1065:=S1062.call k1064
                          try clear S1062
                          refine wp_nil ?_
                          have S1066:St w nF w1063 [] [rd eTallyCount 7 none 0 ([]:List TallyCount),gW0,gW1]:=S1065.pk [] (by decide) [2,3,4] rfl rfl
                          try clear S1065
                          obtain rfl:=sJ H
                          exact c_ret (rT Tryd.f3 S1066.keep rfl rfl)
                        ·replace H:=condF c759 H
                         refine reg_c mixed 81 [55,56,57,58,59,60,61,62,63,64,65,66,67,68,69,70,71,72,73,74,75,76,77,78,79,80] (by kernel_rfl) ?_
                         refine kS rfl (fun _ k_=>p_mI rfl dn)<|kS rfl (fun _ k_=>p_cmp rfl rfl rfl dn)<|kS rfl (fun _ k_=>p_mB rfl dn)<|kB c741<|kS rfl (fun _ k_=>gT rfl rfl (p_ldA ty33 sz33 (aS (S740.atX (i:=2) rfl) k_) rfl rfl dn))<|kS rfl (fun _ k_=>gT rfl rfl (p_cvD (B_Range_ok h743) fu16 rfl)) ?_
                         refine kS rfl (fun _ k_=>gT rfl rfl (o_eqA (xs:=[I r571.1.Low,I r571.1.High]) (ys:=[I r742.Low,I r742.High]) (T:=((r571.1.Low==r742.Low)&&(r571.1.High==r742.High))) rfl rfl eq33 ⟨⟨_,rfl⟩,⟨⟨_,rfl⟩,trivial⟩⟩ ⟨⟨_,rfl⟩,⟨⟨_,rfl⟩,trivial⟩⟩ (by simp [Bool.and_eq_true,and_assoc]) dn))<|kS rfl (fun _ k_=>p_pkT rfl (rfl:_=B ((r571.1.Low==r742.Low)&&(r571.1.High==r742.High))) dn) ?_
                         refine kS rfl (fun _ k_=>p_mB rfl dn)<|kB c744<|kS rfl (fun _ k_=>gT rfl rfl (p_mI rfl dn))<|kS rfl (fun _ k_=>gT rfl rfl (p_cmp rfl rfl rfl dn))<|kS rfl (fun _ k_=>p_pkT rfl (rfl:_=B (r591.2==0)) dn)<|kS rfl (fun _ k_=>p_mB rfl dn)<|kB c745<|kS rfl (fun _ k_=>gT rfl rfl (p_ldA ty33 sz33 (aS (S740.atX (i:=1) rfl) k_) rfl rfl dn)) ?_
                         refine kS rfl (fun _ k_=>gT rfl rfl (p_cvD (B_Range_ok h747) fu16 rfl))<|kS rfl (fun _ k_=>gT rfl rfl (o_eqA (xs:=[I r591.1.Low,I r591.1.High]) (ys:=[I r746.Low,I r746.High]) (T:=((r591.1.Low==r746.Low)&&(r591.1.High==r746.High))) rfl rfl eq33 ⟨⟨_,rfl⟩,⟨⟨_,rfl⟩,trivial⟩⟩ ⟨⟨_,rfl⟩,⟨⟨_,rfl⟩,trivial⟩⟩ (by simp [Bool.and_eq_true,and_assoc]) dn)) ?_
                         refine kS rfl (fun _ k_=>p_pkT rfl (rfl:_=B ((r591.1.Low==r746.Low)&&(r591.1.High==r746.High))) dn)<|kS rfl (fun _ k_=>p_mB rfl dn)<|kB c748<|kS rfl (fun _ k_=>gT rfl rfl (p_mI rfl dn))<|kS rfl (fun _ k_=>gT rfl rfl (p_cmp rfl rfl rfl dn))<|kS rfl (fun _ k_=>p_pkT rfl (rfl:_=B (r611.2==0)) dn)<|kS rfl (fun _ k_=>p_mB rfl dn)<|kB c749 ?_
                         refine kS rfl (fun _ k_=>gT rfl rfl (p_ldA ty33 sz33 (aS (S740.atX (i:=0) rfl) k_) rfl rfl dn))<|kS rfl (fun _ k_=>gT rfl rfl (p_cvD (B_Range_ok h751) fu16 rfl)) ?_
                         refine kS rfl (fun _ k_=>gT rfl rfl (o_eqA (xs:=[I r611.1.Low,I r611.1.High]) (ys:=[I r750.Low,I r750.High]) (T:=((r611.1.Low==r750.Low)&&(r611.1.High==r750.High))) rfl rfl eq33 ⟨⟨_,rfl⟩,⟨⟨_,rfl⟩,trivial⟩⟩ ⟨⟨_,rfl⟩,⟨⟨_,rfl⟩,trivial⟩⟩ (by simp [Bool.and_eq_true,and_assoc]) dn))<|kS rfl (fun _ k_=>p_pkT rfl (rfl:_=B ((r611.1.Low==r750.Low)&&(r611.1.High==r750.High))) dn) ?_
                         refine kS rfl (fun _ k_=>p_mB rfl dn)<|kB c752<|kS rfl (fun _ k_=>gT rfl rfl (p_mI rfl dn))<|kS rfl (fun _ k_=>gT rfl rfl (p_cmp rfl rfl rfl dn))<|kS rfl (fun _ k_=>p_pkT rfl (rfl:_=B (r636.2==0)) dn)<|kS rfl (fun _ k_=>p_mB rfl dn)<|kB c753<|kS rfl (fun _ k_=>gT rfl rfl (p_mB rfl dn))<|kS rfl (fun _ k_=>gT rfl rfl (p_not rfl dn))<|kS rfl (fun _ k_=>p_pkT rfl (rfl:_=B (!r636.1)) dn) ?_
                         refine kS rfl (fun _ k_=>p_mB rfl dn)<|kB c754<|kS rfl (fun _ k_=>gT rfl rfl (p_mI rfl dn))<|kS rfl (fun _ k_=>gT rfl rfl (p_cmp rfl rfl rfl dn))<|kS rfl (fun _ k_=>p_pkT rfl (rfl:_=B (r656.2==0)) dn)<|kS rfl (fun _ k_=>p_mB rfl dn)<|kB c755<|kS rfl (fun _ k_=>gT rfl rfl (p_mB rfl dn))<|kS rfl (fun _ k_=>gT rfl rfl (p_not rfl dn))<|kS rfl (fun _ k_=>p_pkT rfl (rfl:_=B (!r656.1)) dn) ?_
                         refine kS rfl (fun _ k_=>p_mB rfl dn)<|kB c756<|kS rfl (fun _ k_=>gT rfl rfl (p_mI rfl dn))<|kS rfl (fun _ k_=>gT rfl rfl (p_cmp rfl rfl rfl dn))<|kS rfl (fun _ k_=>p_pkT rfl (rfl:_=B (r675.2==0)) dn)<|kS rfl (fun _ k_=>p_mB rfl dn)<|kB c757<|kS rfl (fun _ k_=>gT rfl rfl (p_mB rfl dn))<|kS rfl (fun _ k_=>gT rfl rfl (p_not rfl dn))<|kS rfl (fun _ k_=>p_pkT rfl (rfl:_=B (!r675.1)) dn) ?_
                         refine kS rfl (fun _ k_=>p_mB rfl dn)<|kB c758<|kS rfl (fun _ k_=>gT rfl rfl (p_mI rfl dn))<|kS rfl (fun _ k_=>gT rfl rfl (p_cmp rfl rfl rfl dn))<|kS rfl (fun _ k_=>p_pkT rfl (rfl:_=B (r690.2==0)) dn)<|kS rfl (fun _ k_=>p_mB rfl dn)<|kB c759<|kS rfl (fun _ k_=>gF rfl rfl dnU)<|kC rfl<|kC rfl<|kC rfl<|kC rfl<|kC rfl<|kC rfl<|kC rfl<|kC rfl<|kC rfl<|kC rfl<|kC rfl<|kC rfl<|kC rfl<|kC rfl<|kC rfl<|kC rfl<|kC rfl<|kC rfl<|kC rfl<|kC rfl<|kC rfl ?_
                         refine kC rfl<|kC rfl<|kC rfl<|kC rfl<|kC rfl ?_
                         intro w1067 k1068; have S1069:=S740.call k1068
                         refine gF rfl rfl (cN (kR) fun w1070 k1071=>?_)
                         have S1072:=S1069.call k1071
                         try clear S1069
                         refine gF rfl rfl (cN (kR) fun w1073 k1074=>?_)
                         have S1075:=S1072.call k1074
                         try clear S1072
                         refine p_pkF rfl (rfl:_=B false) (cN (kR) fun w1076 k1077=>?_)
                         have S1078:=S1075.call k1077
                         try clear S1075
                         refine p_mB rfl (cN (kR) fun w1079 k1080=>?_)
                         have S1081:=S1078.call k1080
                         try clear S1078
                         refine gF rfl rfl (cN (kR) fun w1082 k1083=>?_)
                         have S1084:=S1081.call k1083
                         try clear S1081
                         refine gF rfl rfl (cN (kR) fun w1085 k1086=>?_)
                         have S1087:=S1084.call k1086
                         try clear S1084
                         refine p_pkF rfl (rfl:_=B false) (cN (kR) fun w1088 k1089=>?_)
                         have S1090:=S1087.call k1089
                         try clear S1087
                         refine p_mB rfl (cN (kR) fun w1091 k1092=>?_)
                         have S1093:=S1090.call k1092
                         try clear S1090
                         refine gF rfl rfl (cN (kR) fun w1094 k1095=>?_)
                         have S1096:=S1093.call k1095
                         try clear S1093
                         refine gF rfl rfl (cN (kR) fun w1097 k1098=>?_)
                         have S1099:=S1096.call k1098
                         try clear S1096
                         refine gF rfl rfl (cN (kR) fun w1100 k1101=>?_)
                         have S1102:=S1099.call k1101
                         try clear S1099
                         refine p_pkF rfl (rfl:_=B false) (cN (kR) fun w1103 k1104=>?_)
                         have S1105:=S1102.call k1104
                         try clear S1102
                         refine p_mB rfl (cN (kR) fun w1106 k1107=>?_)
                         have S1108:=S1105.call k1107
                         try clear S1105
                         refine gF rfl rfl (cN (kR) fun w1109 k1110=>?_)
                         have S1111:=S1108.call k1110
                         try clear S1108
                         refine gF rfl rfl (cN (kR) fun w1112 k1113=>?_)
                         have S1114:=S1111.call k1113
                         try clear S1111
                         refine p_pkF rfl (rfl:_=B false) (cN (kR) fun w1115 k1116=>?_)
                         have S1117:=S1114.call k1116
                         try clear S1114
                         refine p_mB rfl (cN (kR) fun w1118 k1119=>?_)
                         have S1120:=S1117.call k1119
                         try clear S1117
                         refine gF rfl rfl (cN (kR) fun w1121 k1122=>?_)
                         have S1123:=S1120.call k1122
                         try clear S1120
                         refine gF rfl rfl (cN (kR) fun w1124 k1125=>?_)
                         have S1126:=S1123.call k1125
                         try clear S1123
                         refine p_pkF rfl (rfl:_=B false) (cN (kR) fun w1127 k1128=>?_)
                         have S1129:=S1126.call k1128
                         try clear S1126
                         refine p_mB rfl (cN (kR) fun w1130 k1131=>?_)
                         have S1132:=S1129.call k1131
                         try clear S1129
                         refine p_pkF rfl (rfl:_=B false) (cN (kR) fun w1133 k1134=>?_)
                         have S1135:=S1132.call k1134
                         try clear S1132
                         refine p_mB rfl (cN (kR) fun w1136 k1137=>?_)
                         have S1138:=S1135.call k1137
                         try clear S1135
                         refine gF rfl rfl (cN (kR) fun w1139 k1140=>?_)
                         have S1141:=S1138.call k1140
                         try clear S1138
                         refine p_pkF rfl (rfl:_=B false) (cN (kR) fun w1142 k1143=>?_)
                         have S1144:=S1141.call k1143
                         try clear S1141
                         refine p_aB rfl (cN (kR) fun w1145 k1146=>?_)
                         have S1147:=S1144.call k1146
                         try clear S1144
                         refine wp_nil ?_
                         have S1148:St w nF w1145 [] [rd eTallyCount 7 none 0 ([]:List TallyCount),gW0,gW1]:=S1147.pk [] (by decide) [2,3,4] rfl rfl
                         try clear S1147
                         obtain rfl:=sJ H
                         exact c_ret (rT Tryd.f3 S1148.keep rfl rfl)
                       ·replace H:=condF c758 H
                        refine reg_c mixed 81 [55,56,57,58,59,60,61,62,63,64,65,66,67,68,69,70,71,72,73,74,75,76,77,78,79,80] (by kernel_rfl) ?_
                        refine kS rfl (fun _ k_=>p_mI rfl dn)<|kS rfl (fun _ k_=>p_cmp rfl rfl rfl dn)<|kS rfl (fun _ k_=>p_mB rfl dn)<|kB c741<|kS rfl (fun _ k_=>gT rfl rfl (p_ldA ty33 sz33 (aS (S740.atX (i:=2) rfl) k_) rfl rfl dn))<|kS rfl (fun _ k_=>gT rfl rfl (p_cvD (B_Range_ok h743) fu16 rfl)) ?_
                        refine kS rfl (fun _ k_=>gT rfl rfl (o_eqA (xs:=[I r571.1.Low,I r571.1.High]) (ys:=[I r742.Low,I r742.High]) (T:=((r571.1.Low==r742.Low)&&(r571.1.High==r742.High))) rfl rfl eq33 ⟨⟨_,rfl⟩,⟨⟨_,rfl⟩,trivial⟩⟩ ⟨⟨_,rfl⟩,⟨⟨_,rfl⟩,trivial⟩⟩ (by simp [Bool.and_eq_true,and_assoc]) dn))<|kS rfl (fun _ k_=>p_pkT rfl (rfl:_=B ((r571.1.Low==r742.Low)&&(r571.1.High==r742.High))) dn) ?_
                        refine kS rfl (fun _ k_=>p_mB rfl dn)<|kB c744<|kS rfl (fun _ k_=>gT rfl rfl (p_mI rfl dn))<|kS rfl (fun _ k_=>gT rfl rfl (p_cmp rfl rfl rfl dn))<|kS rfl (fun _ k_=>p_pkT rfl (rfl:_=B (r591.2==0)) dn)<|kS rfl (fun _ k_=>p_mB rfl dn)<|kB c745<|kS rfl (fun _ k_=>gT rfl rfl (p_ldA ty33 sz33 (aS (S740.atX (i:=1) rfl) k_) rfl rfl dn)) ?_
                        refine kS rfl (fun _ k_=>gT rfl rfl (p_cvD (B_Range_ok h747) fu16 rfl))<|kS rfl (fun _ k_=>gT rfl rfl (o_eqA (xs:=[I r591.1.Low,I r591.1.High]) (ys:=[I r746.Low,I r746.High]) (T:=((r591.1.Low==r746.Low)&&(r591.1.High==r746.High))) rfl rfl eq33 ⟨⟨_,rfl⟩,⟨⟨_,rfl⟩,trivial⟩⟩ ⟨⟨_,rfl⟩,⟨⟨_,rfl⟩,trivial⟩⟩ (by simp [Bool.and_eq_true,and_assoc]) dn)) ?_
                        refine kS rfl (fun _ k_=>p_pkT rfl (rfl:_=B ((r591.1.Low==r746.Low)&&(r591.1.High==r746.High))) dn)<|kS rfl (fun _ k_=>p_mB rfl dn)<|kB c748<|kS rfl (fun _ k_=>gT rfl rfl (p_mI rfl dn))<|kS rfl (fun _ k_=>gT rfl rfl (p_cmp rfl rfl rfl dn))<|kS rfl (fun _ k_=>p_pkT rfl (rfl:_=B (r611.2==0)) dn)<|kS rfl (fun _ k_=>p_mB rfl dn)<|kB c749 ?_
                        refine kS rfl (fun _ k_=>gT rfl rfl (p_ldA ty33 sz33 (aS (S740.atX (i:=0) rfl) k_) rfl rfl dn))<|kS rfl (fun _ k_=>gT rfl rfl (p_cvD (B_Range_ok h751) fu16 rfl)) ?_
                        refine kS rfl (fun _ k_=>gT rfl rfl (o_eqA (xs:=[I r611.1.Low,I r611.1.High]) (ys:=[I r750.Low,I r750.High]) (T:=((r611.1.Low==r750.Low)&&(r611.1.High==r750.High))) rfl rfl eq33 ⟨⟨_,rfl⟩,⟨⟨_,rfl⟩,trivial⟩⟩ ⟨⟨_,rfl⟩,⟨⟨_,rfl⟩,trivial⟩⟩ (by simp [Bool.and_eq_true,and_assoc]) dn))<|kS rfl (fun _ k_=>p_pkT rfl (rfl:_=B ((r611.1.Low==r750.Low)&&(r611.1.High==r750.High))) dn) ?_
                        refine kS rfl (fun _ k_=>p_mB rfl dn)<|kB c752<|kS rfl (fun _ k_=>gT rfl rfl (p_mI rfl dn))<|kS rfl (fun _ k_=>gT rfl rfl (p_cmp rfl rfl rfl dn))<|kS rfl (fun _ k_=>p_pkT rfl (rfl:_=B (r636.2==0)) dn)<|kS rfl (fun _ k_=>p_mB rfl dn)<|kB c753<|kS rfl (fun _ k_=>gT rfl rfl (p_mB rfl dn))<|kS rfl (fun _ k_=>gT rfl rfl (p_not rfl dn))<|kS rfl (fun _ k_=>p_pkT rfl (rfl:_=B (!r636.1)) dn) ?_
                        refine kS rfl (fun _ k_=>p_mB rfl dn)<|kB c754<|kS rfl (fun _ k_=>gT rfl rfl (p_mI rfl dn))<|kS rfl (fun _ k_=>gT rfl rfl (p_cmp rfl rfl rfl dn))<|kS rfl (fun _ k_=>p_pkT rfl (rfl:_=B (r656.2==0)) dn)<|kS rfl (fun _ k_=>p_mB rfl dn)<|kB c755<|kS rfl (fun _ k_=>gT rfl rfl (p_mB rfl dn))<|kS rfl (fun _ k_=>gT rfl rfl (p_not rfl dn))<|kS rfl (fun _ k_=>p_pkT rfl (rfl:_=B (!r656.1)) dn) ?_
                        refine kS rfl (fun _ k_=>p_mB rfl dn)<|kB c756<|kS rfl (fun _ k_=>gT rfl rfl (p_mI rfl dn))<|kS rfl (fun _ k_=>gT rfl rfl (p_cmp rfl rfl rfl dn))<|kS rfl (fun _ k_=>p_pkT rfl (rfl:_=B (r675.2==0)) dn)<|kS rfl (fun _ k_=>p_mB rfl dn)<|kB c757<|kS rfl (fun _ k_=>gT rfl rfl (p_mB rfl dn))<|kS rfl (fun _ k_=>gT rfl rfl (p_not rfl dn))<|kS rfl (fun _ k_=>p_pkT rfl (rfl:_=B (!r675.1)) dn) ?_
                        refine kS rfl (fun _ k_=>p_mB rfl dn)<|kB c758<|kS rfl (fun _ k_=>gF rfl rfl dnU)<|kS rfl (fun _ k_=>gF rfl rfl dnU)<|kS rfl (fun _ k_=>p_pkF rfl (rfl:_=B false) dn)<|kS rfl (fun _ k_=>p_mB rfl dn)<|kS rfl (fun _ k_=>gF rfl rfl dnU)<|kC rfl<|kC rfl<|kC rfl<|kC rfl<|kC rfl<|kC rfl<|kC rfl<|kC rfl<|kC rfl<|kC rfl<|kC rfl<|kC rfl<|kC rfl<|kC rfl<|kC rfl<|kC rfl<|kC rfl<|kC rfl<|kC rfl<|kC rfl<|kC rfl<|kC rfl<|kC rfl<|kC rfl<|kC rfl<|kC rfl ?_
                        intro w1149 k1150; have S1151:=S740.call k1150
                        refine gF rfl rfl (cN (kR) fun w1152 k1153=>?_)
                        have S1154:=S1151.call k1153
                        try clear S1151
                        refine gF rfl rfl (cN (kR) fun w1155 k1156=>?_)
                        have S1157:=S1154.call k1156
                        try clear S1154
                        refine p_pkF rfl (rfl:_=B false) (cN (kR) fun w1158 k1159=>?_)
                        have S1160:=S1157.call k1159
                        try clear S1157
                        refine p_mB rfl (cN (kR) fun w1161 k1162=>?_)
                        have S1163:=S1160.call k1162
                        try clear S1160
                        refine gF rfl rfl (cN (kR) fun w1164 k1165=>?_)
                        have S1166:=S1163.call k1165
                        try clear S1163
                        refine gF rfl rfl (cN (kR) fun w1167 k1168=>?_)
                        have S1169:=S1166.call k1168
                        try clear S1166
                        refine p_pkF rfl (rfl:_=B false) (cN (kR) fun w1170 k1171=>?_)
                        have S1172:=S1169.call k1171
                        try clear S1169
                        refine p_mB rfl (cN (kR) fun w1173 k1174=>?_)
                        have S1175:=S1172.call k1174
                        try clear S1172
                        refine gF rfl rfl (cN (kR) fun w1176 k1177=>?_)
                        have S1178:=S1175.call k1177
                        try clear S1175
                        refine gF rfl rfl (cN (kR) fun w1179 k1180=>?_)
                        have S1181:=S1178.call k1180
                        try clear S1178
                        refine gF rfl rfl (cN (kR) fun w1182 k1183=>?_)
                        have S1184:=S1181.call k1183
                        try clear S1181
                        refine p_pkF rfl (rfl:_=B false) (cN (kR) fun w1185 k1186=>?_)
                        have S1187:=S1184.call k1186
                        try clear S1184
                        refine p_mB rfl (cN (kR) fun w1188 k1189=>?_)
                        have S1190:=S1187.call k1189
                        try clear S1187
                        refine gF rfl rfl (cN (kR) fun w1191 k1192=>?_)
                        have S1193:=S1190.call k1192
                        try clear S1190
                        refine gF rfl rfl (cN (kR) fun w1194 k1195=>?_)
                        have S1196:=S1193.call k1195
                        try clear S1193
                        refine p_pkF rfl (rfl:_=B false) (cN (kR) fun w1197 k1198=>?_)
                        have S1199:=S1196.call k1198
                        try clear S1196
                        refine p_mB rfl (cN (kR) fun w1200 k1201=>?_)
                        have S1202:=S1199.call k1201
                        try clear S1199
                        refine gF rfl rfl (cN (kR) fun w1203 k1204=>?_)
                        have S1205:=S1202.call k1204
                        try clear S1202
                        refine gF rfl rfl (cN (kR) fun w1206 k1207=>?_)
                        have S1208:=S1205.call k1207
                        try clear S1205
                        refine p_pkF rfl (rfl:_=B false) (cN (kR) fun w1209 k1210=>?_)
                        have S1211:=S1208.call k1210
                        try clear S1208
                        refine p_mB rfl (cN (kR) fun w1212 k1213=>?_)
                        have S1214:=S1211.call k1213
                        try clear S1211
                        refine p_pkF rfl (rfl:_=B false) (cN (kR) fun w1215 k1216=>?_)
                        have S1217:=S1214.call k1216
                        try clear S1214
                        refine p_mB rfl (cN (kR) fun w1218 k1219=>?_)
                        have S1220:=S1217.call k1219
                        try clear S1217
                        refine gF rfl rfl (cN (kR) fun w1221 k1222=>?_)
                        have S1223:=S1220.call k1222
                        try clear S1220
                        refine p_pkF rfl (rfl:_=B false) (cN (kR) fun w1224 k1225=>?_)
                        have S1226:=S1223.call k1225
                        try clear S1223
                        refine p_aB rfl (cN (kR) fun w1227 k1228=>?_)
                        have S1229:=S1226.call k1228
                        try clear S1226
                        refine wp_nil ?_
                        have S1230:St w nF w1227 [] [rd eTallyCount 7 none 0 ([]:List TallyCount),gW0,gW1]:=S1229.pk [] (by decide) [2,3,4] rfl rfl
                        try clear S1229
                        obtain rfl:=sJ H
                        exact c_ret (rT Tryd.f3 S1230.keep rfl rfl)
                      ·replace H:=condF c757 H
                       refine reg_c mixed 81 [55,56,57,58,59,60,61,62,63,64,65,66,67,68,69,70,71,72,73,74,75,76,77,78,79,80] (by kernel_rfl) ?_
                       refine kS rfl (fun _ k_=>p_mI rfl dn)<|kS rfl (fun _ k_=>p_cmp rfl rfl rfl dn)<|kS rfl (fun _ k_=>p_mB rfl dn)<|kB c741<|kS rfl (fun _ k_=>gT rfl rfl (p_ldA ty33 sz33 (aS (S740.atX (i:=2) rfl) k_) rfl rfl dn))<|kS rfl (fun _ k_=>gT rfl rfl (p_cvD (B_Range_ok h743) fu16 rfl)) ?_
                       refine kS rfl (fun _ k_=>gT rfl rfl (o_eqA (xs:=[I r571.1.Low,I r571.1.High]) (ys:=[I r742.Low,I r742.High]) (T:=((r571.1.Low==r742.Low)&&(r571.1.High==r742.High))) rfl rfl eq33 ⟨⟨_,rfl⟩,⟨⟨_,rfl⟩,trivial⟩⟩ ⟨⟨_,rfl⟩,⟨⟨_,rfl⟩,trivial⟩⟩ (by simp [Bool.and_eq_true,and_assoc]) dn))<|kS rfl (fun _ k_=>p_pkT rfl (rfl:_=B ((r571.1.Low==r742.Low)&&(r571.1.High==r742.High))) dn) ?_
                       refine kS rfl (fun _ k_=>p_mB rfl dn)<|kB c744<|kS rfl (fun _ k_=>gT rfl rfl (p_mI rfl dn))<|kS rfl (fun _ k_=>gT rfl rfl (p_cmp rfl rfl rfl dn))<|kS rfl (fun _ k_=>p_pkT rfl (rfl:_=B (r591.2==0)) dn)<|kS rfl (fun _ k_=>p_mB rfl dn)<|kB c745<|kS rfl (fun _ k_=>gT rfl rfl (p_ldA ty33 sz33 (aS (S740.atX (i:=1) rfl) k_) rfl rfl dn)) ?_
                       refine kS rfl (fun _ k_=>gT rfl rfl (p_cvD (B_Range_ok h747) fu16 rfl))<|kS rfl (fun _ k_=>gT rfl rfl (o_eqA (xs:=[I r591.1.Low,I r591.1.High]) (ys:=[I r746.Low,I r746.High]) (T:=((r591.1.Low==r746.Low)&&(r591.1.High==r746.High))) rfl rfl eq33 ⟨⟨_,rfl⟩,⟨⟨_,rfl⟩,trivial⟩⟩ ⟨⟨_,rfl⟩,⟨⟨_,rfl⟩,trivial⟩⟩ (by simp [Bool.and_eq_true,and_assoc]) dn)) ?_
                       refine kS rfl (fun _ k_=>p_pkT rfl (rfl:_=B ((r591.1.Low==r746.Low)&&(r591.1.High==r746.High))) dn)<|kS rfl (fun _ k_=>p_mB rfl dn)<|kB c748<|kS rfl (fun _ k_=>gT rfl rfl (p_mI rfl dn))<|kS rfl (fun _ k_=>gT rfl rfl (p_cmp rfl rfl rfl dn))<|kS rfl (fun _ k_=>p_pkT rfl (rfl:_=B (r611.2==0)) dn)<|kS rfl (fun _ k_=>p_mB rfl dn)<|kB c749 ?_
                       refine kS rfl (fun _ k_=>gT rfl rfl (p_ldA ty33 sz33 (aS (S740.atX (i:=0) rfl) k_) rfl rfl dn))<|kS rfl (fun _ k_=>gT rfl rfl (p_cvD (B_Range_ok h751) fu16 rfl)) ?_
                       refine kS rfl (fun _ k_=>gT rfl rfl (o_eqA (xs:=[I r611.1.Low,I r611.1.High]) (ys:=[I r750.Low,I r750.High]) (T:=((r611.1.Low==r750.Low)&&(r611.1.High==r750.High))) rfl rfl eq33 ⟨⟨_,rfl⟩,⟨⟨_,rfl⟩,trivial⟩⟩ ⟨⟨_,rfl⟩,⟨⟨_,rfl⟩,trivial⟩⟩ (by simp [Bool.and_eq_true,and_assoc]) dn))<|kS rfl (fun _ k_=>p_pkT rfl (rfl:_=B ((r611.1.Low==r750.Low)&&(r611.1.High==r750.High))) dn) ?_
                       refine kS rfl (fun _ k_=>p_mB rfl dn)<|kB c752<|kS rfl (fun _ k_=>gT rfl rfl (p_mI rfl dn))<|kS rfl (fun _ k_=>gT rfl rfl (p_cmp rfl rfl rfl dn))<|kS rfl (fun _ k_=>p_pkT rfl (rfl:_=B (r636.2==0)) dn)<|kS rfl (fun _ k_=>p_mB rfl dn)<|kB c753<|kS rfl (fun _ k_=>gT rfl rfl (p_mB rfl dn))<|kS rfl (fun _ k_=>gT rfl rfl (p_not rfl dn))<|kS rfl (fun _ k_=>p_pkT rfl (rfl:_=B (!r636.1)) dn) ?_
                       refine kS rfl (fun _ k_=>p_mB rfl dn)<|kB c754<|kS rfl (fun _ k_=>gT rfl rfl (p_mI rfl dn))<|kS rfl (fun _ k_=>gT rfl rfl (p_cmp rfl rfl rfl dn))<|kS rfl (fun _ k_=>p_pkT rfl (rfl:_=B (r656.2==0)) dn)<|kS rfl (fun _ k_=>p_mB rfl dn)<|kB c755<|kS rfl (fun _ k_=>gT rfl rfl (p_mB rfl dn))<|kS rfl (fun _ k_=>gT rfl rfl (p_not rfl dn))<|kS rfl (fun _ k_=>p_pkT rfl (rfl:_=B (!r656.1)) dn) ?_
                       refine kS rfl (fun _ k_=>p_mB rfl dn)<|kB c756<|kS rfl (fun _ k_=>gT rfl rfl (p_mI rfl dn))<|kS rfl (fun _ k_=>gT rfl rfl (p_cmp rfl rfl rfl dn))<|kS rfl (fun _ k_=>p_pkT rfl (rfl:_=B (r675.2==0)) dn)<|kS rfl (fun _ k_=>p_mB rfl dn)<|kB c757<|kS rfl (fun _ k_=>gF rfl rfl dnU)<|kS rfl (fun _ k_=>gF rfl rfl dnU)<|kS rfl (fun _ k_=>p_pkF rfl (rfl:_=B false) dn)<|kS rfl (fun _ k_=>p_mB rfl dn) ?_
                       refine kS rfl (fun _ k_=>gF rfl rfl dnU)<|kS rfl (fun _ k_=>gF rfl rfl dnU)<|kS rfl (fun _ k_=>p_pkF rfl (rfl:_=B false) dn)<|kS rfl (fun _ k_=>p_mB rfl dn)<|kS rfl (fun _ k_=>gF rfl rfl dnU)<|kC rfl<|kC rfl<|kC rfl<|kC rfl<|kC rfl<|kC rfl<|kC rfl<|kC rfl<|kC rfl<|kC rfl<|kC rfl<|kC rfl<|kC rfl<|kC rfl<|kC rfl<|kC rfl<|kC rfl<|kC rfl<|kC rfl<|kC rfl<|kC rfl<|kC rfl<|kC rfl<|kC rfl<|kC rfl<|kC rfl ?_
                       intro w1231 k1232; have S1233:=S740.call k1232
                       refine gF rfl rfl (cN (kR) fun w1234 k1235=>?_)
                       have S1236:=S1233.call k1235
                       try clear S1233
                       refine gF rfl rfl (cN (kR) fun w1237 k1238=>?_)
                       have S1239:=S1236.call k1238
                       try clear S1236
                       refine p_pkF rfl (rfl:_=B false) (cN (kR) fun w1240 k1241=>?_)
                       have S1242:=S1239.call k1241
                       try clear S1239
                       refine p_mB rfl (cN (kR) fun w1243 k1244=>?_)
                       have S1245:=S1242.call k1244
                       try clear S1242
                       refine gF rfl rfl (cN (kR) fun w1246 k1247=>?_)
                       have S1248:=S1245.call k1247
                       try clear S1245
                       refine gF rfl rfl (cN (kR) fun w1249 k1250=>?_)
                       have S1251:=S1248.call k1250
                       try clear S1248
                       refine p_pkF rfl (rfl:_=B false) (cN (kR) fun w1252 k1253=>?_)
                       have S1254:=S1251.call k1253
                       try clear S1251
                       refine p_mB rfl (cN (kR) fun w1255 k1256=>?_)
                       have S1257:=S1254.call k1256
                       try clear S1254
                       refine gF rfl rfl (cN (kR) fun w1258 k1259=>?_)
                       have S1260:=S1257.call k1259
                       try clear S1257
                       refine gF rfl rfl (cN (kR) fun w1261 k1262=>?_)
                       have S1263:=S1260.call k1262
                       try clear S1260
                       refine gF rfl rfl (cN (kR) fun w1264 k1265=>?_)
                       have S1266:=S1263.call k1265
                       try clear S1263
                       refine p_pkF rfl (rfl:_=B false) (cN (kR) fun w1267 k1268=>?_)
                       have S1269:=S1266.call k1268
                       try clear S1266
                       refine p_mB rfl (cN (kR) fun w1270 k1271=>?_)
                       have S1272:=S1269.call k1271
                       try clear S1269
                       refine gF rfl rfl (cN (kR) fun w1273 k1274=>?_)
                       have S1275:=S1272.call k1274
                       try clear S1272
                       refine gF rfl rfl (cN (kR) fun w1276 k1277=>?_)
                       have S1278:=S1275.call k1277
                       try clear S1275
                       refine p_pkF rfl (rfl:_=B false) (cN (kR) fun w1279 k1280=>?_)
                       have S1281:=S1278.call k1280
                       try clear S1278
                       refine p_mB rfl (cN (kR) fun w1282 k1283=>?_)
                       have S1284:=S1281.call k1283
                       try clear S1281
                       refine gF rfl rfl (cN (kR) fun w1285 k1286=>?_)
                       have S1287:=S1284.call k1286
                       try clear S1284
                       refine gF rfl rfl (cN (kR) fun w1288 k1289=>?_)
                       have S1290:=S1287.call k1289
                       try clear S1287
                       refine p_pkF rfl (rfl:_=B false) (cN (kR) fun w1291 k1292=>?_)
                       have S1293:=S1290.call k1292
                       try clear S1290
                       refine p_mB rfl (cN (kR) fun w1294 k1295=>?_)
                       have S1296:=S1293.call k1295
                       try clear S1293
                       refine p_pkF rfl (rfl:_=B false) (cN (kR) fun w1297 k1298=>?_)
                       have S1299:=S1296.call k1298
                       try clear S1296
                       refine p_mB rfl (cN (kR) fun w1300 k1301=>?_)
                       have S1302:=S1299.call k1301
                       try clear S1299
                       refine gF rfl rfl (cN (kR) fun w1303 k1304=>?_)
                       have S1305:=S1302.call k1304
                       try clear S1302
                       refine p_pkF rfl (rfl:_=B false) (cN (kR) fun w1306 k1307=>?_)
                       have S1308:=S1305.call k1307
                       try clear S1305
                       refine p_aB rfl (cN (kR) fun w1309 k1310=>?_)
                       have S1311:=S1308.call k1310
                       try clear S1308
                       refine wp_nil ?_
                       have S1312:St w nF w1309 [] [rd eTallyCount 7 none 0 ([]:List TallyCount),gW0,gW1]:=S1311.pk [] (by decide) [2,3,4] rfl rfl
                       try clear S1311
                       obtain rfl:=sJ H
                       exact c_ret (rT Tryd.f3 S1312.keep rfl rfl)
                     ·replace H:=condF c756 H
                      refine reg_c mixed 81 [55,56,57,58,59,60,61,62,63,64,65,66,67,68,69,70,71,72,73,74,75,76,77,78,79,80] (by kernel_rfl) ?_
                      refine kS rfl (fun _ k_=>p_mI rfl dn)<|kS rfl (fun _ k_=>p_cmp rfl rfl rfl dn)<|kS rfl (fun _ k_=>p_mB rfl dn)<|kB c741<|kS rfl (fun _ k_=>gT rfl rfl (p_ldA ty33 sz33 (aS (S740.atX (i:=2) rfl) k_) rfl rfl dn))<|kS rfl (fun _ k_=>gT rfl rfl (p_cvD (B_Range_ok h743) fu16 rfl)) ?_
                      refine kS rfl (fun _ k_=>gT rfl rfl (o_eqA (xs:=[I r571.1.Low,I r571.1.High]) (ys:=[I r742.Low,I r742.High]) (T:=((r571.1.Low==r742.Low)&&(r571.1.High==r742.High))) rfl rfl eq33 ⟨⟨_,rfl⟩,⟨⟨_,rfl⟩,trivial⟩⟩ ⟨⟨_,rfl⟩,⟨⟨_,rfl⟩,trivial⟩⟩ (by simp [Bool.and_eq_true,and_assoc]) dn))<|kS rfl (fun _ k_=>p_pkT rfl (rfl:_=B ((r571.1.Low==r742.Low)&&(r571.1.High==r742.High))) dn) ?_
                      refine kS rfl (fun _ k_=>p_mB rfl dn)<|kB c744<|kS rfl (fun _ k_=>gT rfl rfl (p_mI rfl dn))<|kS rfl (fun _ k_=>gT rfl rfl (p_cmp rfl rfl rfl dn))<|kS rfl (fun _ k_=>p_pkT rfl (rfl:_=B (r591.2==0)) dn)<|kS rfl (fun _ k_=>p_mB rfl dn)<|kB c745<|kS rfl (fun _ k_=>gT rfl rfl (p_ldA ty33 sz33 (aS (S740.atX (i:=1) rfl) k_) rfl rfl dn)) ?_
                      refine kS rfl (fun _ k_=>gT rfl rfl (p_cvD (B_Range_ok h747) fu16 rfl))<|kS rfl (fun _ k_=>gT rfl rfl (o_eqA (xs:=[I r591.1.Low,I r591.1.High]) (ys:=[I r746.Low,I r746.High]) (T:=((r591.1.Low==r746.Low)&&(r591.1.High==r746.High))) rfl rfl eq33 ⟨⟨_,rfl⟩,⟨⟨_,rfl⟩,trivial⟩⟩ ⟨⟨_,rfl⟩,⟨⟨_,rfl⟩,trivial⟩⟩ (by simp [Bool.and_eq_true,and_assoc]) dn)) ?_
                      refine kS rfl (fun _ k_=>p_pkT rfl (rfl:_=B ((r591.1.Low==r746.Low)&&(r591.1.High==r746.High))) dn)<|kS rfl (fun _ k_=>p_mB rfl dn)<|kB c748<|kS rfl (fun _ k_=>gT rfl rfl (p_mI rfl dn))<|kS rfl (fun _ k_=>gT rfl rfl (p_cmp rfl rfl rfl dn))<|kS rfl (fun _ k_=>p_pkT rfl (rfl:_=B (r611.2==0)) dn)<|kS rfl (fun _ k_=>p_mB rfl dn)<|kB c749 ?_
                      refine kS rfl (fun _ k_=>gT rfl rfl (p_ldA ty33 sz33 (aS (S740.atX (i:=0) rfl) k_) rfl rfl dn))<|kS rfl (fun _ k_=>gT rfl rfl (p_cvD (B_Range_ok h751) fu16 rfl)) ?_
                      refine kS rfl (fun _ k_=>gT rfl rfl (o_eqA (xs:=[I r611.1.Low,I r611.1.High]) (ys:=[I r750.Low,I r750.High]) (T:=((r611.1.Low==r750.Low)&&(r611.1.High==r750.High))) rfl rfl eq33 ⟨⟨_,rfl⟩,⟨⟨_,rfl⟩,trivial⟩⟩ ⟨⟨_,rfl⟩,⟨⟨_,rfl⟩,trivial⟩⟩ (by simp [Bool.and_eq_true,and_assoc]) dn))<|kS rfl (fun _ k_=>p_pkT rfl (rfl:_=B ((r611.1.Low==r750.Low)&&(r611.1.High==r750.High))) dn) ?_
                      refine kS rfl (fun _ k_=>p_mB rfl dn)<|kB c752<|kS rfl (fun _ k_=>gT rfl rfl (p_mI rfl dn))<|kS rfl (fun _ k_=>gT rfl rfl (p_cmp rfl rfl rfl dn))<|kS rfl (fun _ k_=>p_pkT rfl (rfl:_=B (r636.2==0)) dn)<|kS rfl (fun _ k_=>p_mB rfl dn)<|kB c753<|kS rfl (fun _ k_=>gT rfl rfl (p_mB rfl dn))<|kS rfl (fun _ k_=>gT rfl rfl (p_not rfl dn))<|kS rfl (fun _ k_=>p_pkT rfl (rfl:_=B (!r636.1)) dn) ?_
                      refine kS rfl (fun _ k_=>p_mB rfl dn)<|kB c754<|kS rfl (fun _ k_=>gT rfl rfl (p_mI rfl dn))<|kS rfl (fun _ k_=>gT rfl rfl (p_cmp rfl rfl rfl dn))<|kS rfl (fun _ k_=>p_pkT rfl (rfl:_=B (r656.2==0)) dn)<|kS rfl (fun _ k_=>p_mB rfl dn)<|kB c755<|kS rfl (fun _ k_=>gT rfl rfl (p_mB rfl dn))<|kS rfl (fun _ k_=>gT rfl rfl (p_not rfl dn))<|kS rfl (fun _ k_=>p_pkT rfl (rfl:_=B (!r656.1)) dn) ?_
                      refine kS rfl (fun _ k_=>p_mB rfl dn)<|kB c756<|kS rfl (fun _ k_=>gF rfl rfl dnU)<|kS rfl (fun _ k_=>gF rfl rfl dnU)<|kS rfl (fun _ k_=>p_pkF rfl (rfl:_=B false) dn)<|kS rfl (fun _ k_=>p_mB rfl dn)<|kS rfl (fun _ k_=>gF rfl rfl dnU)<|kS rfl (fun _ k_=>gF rfl rfl dnU)<|kS rfl (fun _ k_=>p_pkF rfl (rfl:_=B false) dn)<|kS rfl (fun _ k_=>p_mB rfl dn)<|kS rfl (fun _ k_=>gF rfl rfl dnU) ?_
                      refine kS rfl (fun _ k_=>gF rfl rfl dnU)<|kS rfl (fun _ k_=>p_pkF rfl (rfl:_=B false) dn)<|kS rfl (fun _ k_=>p_mB rfl dn)<|kS rfl (fun _ k_=>gF rfl rfl dnU)<|kC rfl<|kC rfl<|kC rfl<|kC rfl<|kC rfl<|kC rfl<|kC rfl<|kC rfl<|kC rfl<|kC rfl<|kC rfl<|kC rfl<|kC rfl<|kC rfl<|kC rfl<|kC rfl<|kC rfl<|kC rfl<|kC rfl<|kC rfl<|kC rfl<|kC rfl<|kC rfl<|kC rfl<|kC rfl<|kC rfl ?_
                      intro w1313 k1314; have S1315:=S740.call k1314
                      refine gF rfl rfl (cN (kR) fun w1316 k1317=>?_)
                      have S1318:=S1315.call k1317
                      try clear S1315
                      refine gF rfl rfl (cN (kR) fun w1319 k1320=>?_)
                      have S1321:=S1318.call k1320
                      try clear S1318
                      refine p_pkF rfl (rfl:_=B false) (cN (kR) fun w1322 k1323=>?_)
                      have S1324:=S1321.call k1323
                      try clear S1321
                      refine p_mB rfl (cN (kR) fun w1325 k1326=>?_)
                      have S1327:=S1324.call k1326
                      try clear S1324
                      refine gF rfl rfl (cN (kR) fun w1328 k1329=>?_)
                      have S1330:=S1327.call k1329
                      try clear S1327
                      refine gF rfl rfl (cN (kR) fun w1331 k1332=>?_)
                      have S1333:=S1330.call k1332
                      try clear S1330
                      refine p_pkF rfl (rfl:_=B false) (cN (kR) fun w1334 k1335=>?_)
                      have S1336:=S1333.call k1335
                      try clear S1333
                      refine p_mB rfl (cN (kR) fun w1337 k1338=>?_)
                      have S1339:=S1336.call k1338
                      try clear S1336
                      refine gF rfl rfl (cN (kR) fun w1340 k1341=>?_)
                      have S1342:=S1339.call k1341
                      try clear S1339
                      refine gF rfl rfl (cN (kR) fun w1343 k1344=>?_)
                      have S1345:=S1342.call k1344
                      try clear S1342
                      refine gF rfl rfl (cN (kR) fun w1346 k1347=>?_)
                      have S1348:=S1345.call k1347
                      try clear S1345
                      refine p_pkF rfl (rfl:_=B false) (cN (kR) fun w1349 k1350=>?_)
                      have S1351:=S1348.call k1350
                      try clear S1348
                      refine p_mB rfl (cN (kR) fun w1352 k1353=>?_)
                      have S1354:=S1351.call k1353
                      try clear S1351
                      refine gF rfl rfl (cN (kR) fun w1355 k1356=>?_)
                      have S1357:=S1354.call k1356
                      try clear S1354
                      refine gF rfl rfl (cN (kR) fun w1358 k1359=>?_)
                      have S1360:=S1357.call k1359
                      try clear S1357
                      refine p_pkF rfl (rfl:_=B false) (cN (kR) fun w1361 k1362=>?_)
                      have S1363:=S1360.call k1362
                      try clear S1360
                      refine p_mB rfl (cN (kR) fun w1364 k1365=>?_)
                      have S1366:=S1363.call k1365
                      try clear S1363
                      refine gF rfl rfl (cN (kR) fun w1367 k1368=>?_)
                      have S1369:=S1366.call k1368
                      try clear S1366
                      refine gF rfl rfl (cN (kR) fun w1370 k1371=>?_)
                      have S1372:=S1369.call k1371
                      try clear S1369
                      refine p_pkF rfl (rfl:_=B false) (cN (kR) fun w1373 k1374=>?_)
                      have S1375:=S1372.call k1374
                      try clear S1372
                      refine p_mB rfl (cN (kR) fun w1376 k1377=>?_)
                      have S1378:=S1375.call k1377
                      try clear S1375
                      refine p_pkF rfl (rfl:_=B false) (cN (kR) fun w1379 k1380=>?_)
                      have S1381:=S1378.call k1380
                      try clear S1378
                      refine p_mB rfl (cN (kR) fun w1382 k1383=>?_)
                      have S1384:=S1381.call k1383
                      try clear S1381
                      refine gF rfl rfl (cN (kR) fun w1385 k1386=>?_)
                      have S1387:=S1384.call k1386
                      try clear S1384
                      refine p_pkF rfl (rfl:_=B false) (cN (kR) fun w1388 k1389=>?_)
                      have S1390:=S1387.call k1389
                      try clear S1387
                      refine p_aB rfl (cN (kR) fun w1391 k1392=>?_)
                      have S1393:=S1390.call k1392
                      try clear S1390
                      refine wp_nil ?_
                      have S1394:St w nF w1391 [] [rd eTallyCount 7 none 0 ([]:List TallyCount),gW0,gW1]:=S1393.pk [] (by decide) [2,3,4] rfl rfl
                      try clear S1393
                      obtain rfl:=sJ H
                      exact c_ret (rT Tryd.f3 S1394.keep rfl rfl)
                    ·replace H:=condF c755 H
                     refine reg_c mixed 81 [55,56,57,58,59,60,61,62,63,64,65,66,67,68,69,70,71,72,73,74,75,76,77,78,79,80] (by kernel_rfl) ?_
                     refine kS rfl (fun _ k_=>p_mI rfl dn)<|kS rfl (fun _ k_=>p_cmp rfl rfl rfl dn)<|kS rfl (fun _ k_=>p_mB rfl dn)<|kB c741<|kS rfl (fun _ k_=>gT rfl rfl (p_ldA ty33 sz33 (aS (S740.atX (i:=2) rfl) k_) rfl rfl dn))<|kS rfl (fun _ k_=>gT rfl rfl (p_cvD (B_Range_ok h743) fu16 rfl)) ?_
                     refine kS rfl (fun _ k_=>gT rfl rfl (o_eqA (xs:=[I r571.1.Low,I r571.1.High]) (ys:=[I r742.Low,I r742.High]) (T:=((r571.1.Low==r742.Low)&&(r571.1.High==r742.High))) rfl rfl eq33 ⟨⟨_,rfl⟩,⟨⟨_,rfl⟩,trivial⟩⟩ ⟨⟨_,rfl⟩,⟨⟨_,rfl⟩,trivial⟩⟩ (by simp [Bool.and_eq_true,and_assoc]) dn))<|kS rfl (fun _ k_=>p_pkT rfl (rfl:_=B ((r571.1.Low==r742.Low)&&(r571.1.High==r742.High))) dn) ?_
                     refine kS rfl (fun _ k_=>p_mB rfl dn)<|kB c744<|kS rfl (fun _ k_=>gT rfl rfl (p_mI rfl dn))<|kS rfl (fun _ k_=>gT rfl rfl (p_cmp rfl rfl rfl dn))<|kS rfl (fun _ k_=>p_pkT rfl (rfl:_=B (r591.2==0)) dn)<|kS rfl (fun _ k_=>p_mB rfl dn)<|kB c745<|kS rfl (fun _ k_=>gT rfl rfl (p_ldA ty33 sz33 (aS (S740.atX (i:=1) rfl) k_) rfl rfl dn)) ?_
                     refine kS rfl (fun _ k_=>gT rfl rfl (p_cvD (B_Range_ok h747) fu16 rfl))<|kS rfl (fun _ k_=>gT rfl rfl (o_eqA (xs:=[I r591.1.Low,I r591.1.High]) (ys:=[I r746.Low,I r746.High]) (T:=((r591.1.Low==r746.Low)&&(r591.1.High==r746.High))) rfl rfl eq33 ⟨⟨_,rfl⟩,⟨⟨_,rfl⟩,trivial⟩⟩ ⟨⟨_,rfl⟩,⟨⟨_,rfl⟩,trivial⟩⟩ (by simp [Bool.and_eq_true,and_assoc]) dn)) ?_
                     refine kS rfl (fun _ k_=>p_pkT rfl (rfl:_=B ((r591.1.Low==r746.Low)&&(r591.1.High==r746.High))) dn)<|kS rfl (fun _ k_=>p_mB rfl dn)<|kB c748<|kS rfl (fun _ k_=>gT rfl rfl (p_mI rfl dn))<|kS rfl (fun _ k_=>gT rfl rfl (p_cmp rfl rfl rfl dn))<|kS rfl (fun _ k_=>p_pkT rfl (rfl:_=B (r611.2==0)) dn)<|kS rfl (fun _ k_=>p_mB rfl dn)<|kB c749 ?_
                     refine kS rfl (fun _ k_=>gT rfl rfl (p_ldA ty33 sz33 (aS (S740.atX (i:=0) rfl) k_) rfl rfl dn))<|kS rfl (fun _ k_=>gT rfl rfl (p_cvD (B_Range_ok h751) fu16 rfl)) ?_
                     refine kS rfl (fun _ k_=>gT rfl rfl (o_eqA (xs:=[I r611.1.Low,I r611.1.High]) (ys:=[I r750.Low,I r750.High]) (T:=((r611.1.Low==r750.Low)&&(r611.1.High==r750.High))) rfl rfl eq33 ⟨⟨_,rfl⟩,⟨⟨_,rfl⟩,trivial⟩⟩ ⟨⟨_,rfl⟩,⟨⟨_,rfl⟩,trivial⟩⟩ (by simp [Bool.and_eq_true,and_assoc]) dn))<|kS rfl (fun _ k_=>p_pkT rfl (rfl:_=B ((r611.1.Low==r750.Low)&&(r611.1.High==r750.High))) dn) ?_
                     refine kS rfl (fun _ k_=>p_mB rfl dn)<|kB c752<|kS rfl (fun _ k_=>gT rfl rfl (p_mI rfl dn))<|kS rfl (fun _ k_=>gT rfl rfl (p_cmp rfl rfl rfl dn))<|kS rfl (fun _ k_=>p_pkT rfl (rfl:_=B (r636.2==0)) dn)<|kS rfl (fun _ k_=>p_mB rfl dn)<|kB c753<|kS rfl (fun _ k_=>gT rfl rfl (p_mB rfl dn))<|kS rfl (fun _ k_=>gT rfl rfl (p_not rfl dn))<|kS rfl (fun _ k_=>p_pkT rfl (rfl:_=B (!r636.1)) dn) ?_
                     refine kS rfl (fun _ k_=>p_mB rfl dn)<|kB c754<|kS rfl (fun _ k_=>gT rfl rfl (p_mI rfl dn))<|kS rfl (fun _ k_=>gT rfl rfl (p_cmp rfl rfl rfl dn))<|kS rfl (fun _ k_=>p_pkT rfl (rfl:_=B (r656.2==0)) dn)<|kS rfl (fun _ k_=>p_mB rfl dn)<|kB c755<|kS rfl (fun _ k_=>gF rfl rfl dnU)<|kS rfl (fun _ k_=>gF rfl rfl dnU)<|kS rfl (fun _ k_=>p_pkF rfl (rfl:_=B false) dn)<|kS rfl (fun _ k_=>p_mB rfl dn) ?_
                     refine kS rfl (fun _ k_=>gF rfl rfl dnU)<|kS rfl (fun _ k_=>gF rfl rfl dnU)<|kS rfl (fun _ k_=>p_pkF rfl (rfl:_=B false) dn)<|kS rfl (fun _ k_=>p_mB rfl dn)<|kS rfl (fun _ k_=>gF rfl rfl dnU)<|kS rfl (fun _ k_=>gF rfl rfl dnU)<|kS rfl (fun _ k_=>p_pkF rfl (rfl:_=B false) dn)<|kS rfl (fun _ k_=>p_mB rfl dn)<|kS rfl (fun _ k_=>gF rfl rfl dnU)<|kS rfl (fun _ k_=>gF rfl rfl dnU) ?_
                     refine kS rfl (fun _ k_=>p_pkF rfl (rfl:_=B false) dn)<|kS rfl (fun _ k_=>p_mB rfl dn)<|kS rfl (fun _ k_=>gF rfl rfl dnU)<|kC rfl<|kC rfl<|kC rfl<|kC rfl<|kC rfl<|kC rfl<|kC rfl<|kC rfl<|kC rfl<|kC rfl<|kC rfl<|kC rfl<|kC rfl<|kC rfl<|kC rfl<|kC rfl<|kC rfl<|kC rfl<|kC rfl<|kC rfl<|kC rfl<|kC rfl<|kC rfl<|kC rfl<|kC rfl<|kC rfl ?_
                     intro w1395 k1396; have S1397:=S740.call k1396
                     refine gF rfl rfl (cN (kR) fun w1398 k1399=>?_)
                     have S1400:=S1397.call k1399
                     try clear S1397
                     refine gF rfl rfl (cN (kR) fun w1401 k1402=>?_)
                     have S1403:=S1400.call k1402
                     try clear S1400
                     refine p_pkF rfl (rfl:_=B false) (cN (kR) fun w1404 k1405=>?_)
                     have S1406:=S1403.call k1405
                     try clear S1403
                     refine p_mB rfl (cN (kR) fun w1407 k1408=>?_)
                     have S1409:=S1406.call k1408
                     try clear S1406
                     refine gF rfl rfl (cN (kR) fun w1410 k1411=>?_)
                     have S1412:=S1409.call k1411
                     try clear S1409
                     refine gF rfl rfl (cN (kR) fun w1413 k1414=>?_)
                     have S1415:=S1412.call k1414
                     try clear S1412
                     refine p_pkF rfl (rfl:_=B false) (cN (kR) fun w1416 k1417=>?_)
                     have S1418:=S1415.call k1417
                     try clear S1415
                     refine p_mB rfl (cN (kR) fun w1419 k1420=>?_)
                     have S1421:=S1418.call k1420
                     try clear S1418
                     refine gF rfl rfl (cN (kR) fun w1422 k1423=>?_)
                     have S1424:=S1421.call k1423
                     try clear S1421
                     refine gF rfl rfl (cN (kR) fun w1425 k1426=>?_)
                     have S1427:=S1424.call k1426
                     try clear S1424
                     refine gF rfl rfl (cN (kR) fun w1428 k1429=>?_)
                     have S1430:=S1427.call k1429
                     try clear S1427
                     refine p_pkF rfl (rfl:_=B false) (cN (kR) fun w1431 k1432=>?_)
                     have S1433:=S1430.call k1432
                     try clear S1430
                     refine p_mB rfl (cN (kR) fun w1434 k1435=>?_)
                     have S1436:=S1433.call k1435
                     try clear S1433
                     refine gF rfl rfl (cN (kR) fun w1437 k1438=>?_)
                     have S1439:=S1436.call k1438
                     try clear S1436
                     refine gF rfl rfl (cN (kR) fun w1440 k1441=>?_)
                     have S1442:=S1439.call k1441
                     try clear S1439
                     refine p_pkF rfl (rfl:_=B false) (cN (kR) fun w1443 k1444=>?_)
                     have S1445:=S1442.call k1444
                     try clear S1442
                     refine p_mB rfl (cN (kR) fun w1446 k1447=>?_)
                     have S1448:=S1445.call k1447
                     try clear S1445
                     refine gF rfl rfl (cN (kR) fun w1449 k1450=>?_)
                     have S1451:=S1448.call k1450
                     try clear S1448
                     refine gF rfl rfl (cN (kR) fun w1452 k1453=>?_)
                     have S1454:=S1451.call k1453
                     try clear S1451
                     refine p_pkF rfl (rfl:_=B false) (cN (kR) fun w1455 k1456=>?_)
                     have S1457:=S1454.call k1456
                     try clear S1454
                     refine p_mB rfl (cN (kR) fun w1458 k1459=>?_)
                     have S1460:=S1457.call k1459
                     try clear S1457
                     refine p_pkF rfl (rfl:_=B false) (cN (kR) fun w1461 k1462=>?_)
                     have S1463:=S1460.call k1462
                     try clear S1460
                     refine p_mB rfl (cN (kR) fun w1464 k1465=>?_)
                     have S1466:=S1463.call k1465
                     try clear S1463
                     refine gF rfl rfl (cN (kR) fun w1467 k1468=>?_)
                     have S1469:=S1466.call k1468
                     try clear S1466
                     refine p_pkF rfl (rfl:_=B false) (cN (kR) fun w1470 k1471=>?_)
                     have S1472:=S1469.call k1471
                     try clear S1469
                     refine p_aB rfl (cN (kR) fun w1473 k1474=>?_)
                     have S1475:=S1472.call k1474
                     try clear S1472
                     refine wp_nil ?_
                     have S1476:St w nF w1473 [] [rd eTallyCount 7 none 0 ([]:List TallyCount),gW0,gW1]:=S1475.pk [] (by decide) [2,3,4] rfl rfl
                     try clear S1475
                     obtain rfl:=sJ H
                     exact c_ret (rT Tryd.f3 S1476.keep rfl rfl)
                   ·replace H:=condF c754 H
                    refine reg_c mixed 81 [55,56,57,58,59,60,61,62,63,64,65,66,67,68,69,70,71,72,73,74,75,76,77,78,79,80] (by kernel_rfl) ?_
                    refine kS rfl (fun _ k_=>p_mI rfl dn)<|kS rfl (fun _ k_=>p_cmp rfl rfl rfl dn)<|kS rfl (fun _ k_=>p_mB rfl dn)<|kB c741<|kS rfl (fun _ k_=>gT rfl rfl (p_ldA ty33 sz33 (aS (S740.atX (i:=2) rfl) k_) rfl rfl dn))<|kS rfl (fun _ k_=>gT rfl rfl (p_cvD (B_Range_ok h743) fu16 rfl)) ?_
                    refine kS rfl (fun _ k_=>gT rfl rfl (o_eqA (xs:=[I r571.1.Low,I r571.1.High]) (ys:=[I r742.Low,I r742.High]) (T:=((r571.1.Low==r742.Low)&&(r571.1.High==r742.High))) rfl rfl eq33 ⟨⟨_,rfl⟩,⟨⟨_,rfl⟩,trivial⟩⟩ ⟨⟨_,rfl⟩,⟨⟨_,rfl⟩,trivial⟩⟩ (by simp [Bool.and_eq_true,and_assoc]) dn))<|kS rfl (fun _ k_=>p_pkT rfl (rfl:_=B ((r571.1.Low==r742.Low)&&(r571.1.High==r742.High))) dn) ?_
                    refine kS rfl (fun _ k_=>p_mB rfl dn)<|kB c744<|kS rfl (fun _ k_=>gT rfl rfl (p_mI rfl dn))<|kS rfl (fun _ k_=>gT rfl rfl (p_cmp rfl rfl rfl dn))<|kS rfl (fun _ k_=>p_pkT rfl (rfl:_=B (r591.2==0)) dn)<|kS rfl (fun _ k_=>p_mB rfl dn)<|kB c745<|kS rfl (fun _ k_=>gT rfl rfl (p_ldA ty33 sz33 (aS (S740.atX (i:=1) rfl) k_) rfl rfl dn)) ?_
                    refine kS rfl (fun _ k_=>gT rfl rfl (p_cvD (B_Range_ok h747) fu16 rfl))<|kS rfl (fun _ k_=>gT rfl rfl (o_eqA (xs:=[I r591.1.Low,I r591.1.High]) (ys:=[I r746.Low,I r746.High]) (T:=((r591.1.Low==r746.Low)&&(r591.1.High==r746.High))) rfl rfl eq33 ⟨⟨_,rfl⟩,⟨⟨_,rfl⟩,trivial⟩⟩ ⟨⟨_,rfl⟩,⟨⟨_,rfl⟩,trivial⟩⟩ (by simp [Bool.and_eq_true,and_assoc]) dn)) ?_
                    refine kS rfl (fun _ k_=>p_pkT rfl (rfl:_=B ((r591.1.Low==r746.Low)&&(r591.1.High==r746.High))) dn)<|kS rfl (fun _ k_=>p_mB rfl dn)<|kB c748<|kS rfl (fun _ k_=>gT rfl rfl (p_mI rfl dn))<|kS rfl (fun _ k_=>gT rfl rfl (p_cmp rfl rfl rfl dn))<|kS rfl (fun _ k_=>p_pkT rfl (rfl:_=B (r611.2==0)) dn)<|kS rfl (fun _ k_=>p_mB rfl dn)<|kB c749 ?_
                    refine kS rfl (fun _ k_=>gT rfl rfl (p_ldA ty33 sz33 (aS (S740.atX (i:=0) rfl) k_) rfl rfl dn))<|kS rfl (fun _ k_=>gT rfl rfl (p_cvD (B_Range_ok h751) fu16 rfl)) ?_
                    refine kS rfl (fun _ k_=>gT rfl rfl (o_eqA (xs:=[I r611.1.Low,I r611.1.High]) (ys:=[I r750.Low,I r750.High]) (T:=((r611.1.Low==r750.Low)&&(r611.1.High==r750.High))) rfl rfl eq33 ⟨⟨_,rfl⟩,⟨⟨_,rfl⟩,trivial⟩⟩ ⟨⟨_,rfl⟩,⟨⟨_,rfl⟩,trivial⟩⟩ (by simp [Bool.and_eq_true,and_assoc]) dn))<|kS rfl (fun _ k_=>p_pkT rfl (rfl:_=B ((r611.1.Low==r750.Low)&&(r611.1.High==r750.High))) dn) ?_
                    refine kS rfl (fun _ k_=>p_mB rfl dn)<|kB c752<|kS rfl (fun _ k_=>gT rfl rfl (p_mI rfl dn))<|kS rfl (fun _ k_=>gT rfl rfl (p_cmp rfl rfl rfl dn))<|kS rfl (fun _ k_=>p_pkT rfl (rfl:_=B (r636.2==0)) dn)<|kS rfl (fun _ k_=>p_mB rfl dn)<|kB c753<|kS rfl (fun _ k_=>gT rfl rfl (p_mB rfl dn))<|kS rfl (fun _ k_=>gT rfl rfl (p_not rfl dn))<|kS rfl (fun _ k_=>p_pkT rfl (rfl:_=B (!r636.1)) dn) ?_
                    refine kS rfl (fun _ k_=>p_mB rfl dn)<|kB c754<|kS rfl (fun _ k_=>gF rfl rfl dnU)<|kS rfl (fun _ k_=>gF rfl rfl dnU)<|kS rfl (fun _ k_=>p_pkF rfl (rfl:_=B false) dn)<|kS rfl (fun _ k_=>p_mB rfl dn)<|kS rfl (fun _ k_=>gF rfl rfl dnU)<|kS rfl (fun _ k_=>gF rfl rfl dnU)<|kS rfl (fun _ k_=>p_pkF rfl (rfl:_=B false) dn)<|kS rfl (fun _ k_=>p_mB rfl dn)<|kS rfl (fun _ k_=>gF rfl rfl dnU) ?_
                    refine kS rfl (fun _ k_=>gF rfl rfl dnU)<|kS rfl (fun _ k_=>p_pkF rfl (rfl:_=B false) dn)<|kS rfl (fun _ k_=>p_mB rfl dn)<|kS rfl (fun _ k_=>gF rfl rfl dnU)<|kS rfl (fun _ k_=>gF rfl rfl dnU)<|kS rfl (fun _ k_=>p_pkF rfl (rfl:_=B false) dn)<|kS rfl (fun _ k_=>p_mB rfl dn)<|kS rfl (fun _ k_=>gF rfl rfl dnU)<|kS rfl (fun _ k_=>gF rfl rfl dnU)<|kS rfl (fun _ k_=>p_pkF rfl (rfl:_=B false) dn) ?_
                    refine kS rfl (fun _ k_=>p_mB rfl dn)<|kS rfl (fun _ k_=>gF rfl rfl dnU)<|kC rfl<|kC rfl<|kC rfl<|kC rfl<|kC rfl<|kC rfl<|kC rfl<|kC rfl<|kC rfl<|kC rfl<|kC rfl<|kC rfl<|kC rfl<|kC rfl<|kC rfl<|kC rfl<|kC rfl<|kC rfl<|kC rfl<|kC rfl<|kC rfl<|kC rfl<|kC rfl<|kC rfl<|kC rfl<|kC rfl ?_
                    intro w1477 k1478; have S1479:=S740.call k1478
                    refine gF rfl rfl (cN (kR) fun w1480 k1481=>?_)
                    have S1482:=S1479.call k1481
                    try clear S1479
                    refine gF rfl rfl (cN (kR) fun w1483 k1484=>?_)
                    have S1485:=S1482.call k1484
                    try clear S1482
                    refine p_pkF rfl (rfl:_=B false) (cN (kR) fun w1486 k1487=>?_)
                    have S1488:=S1485.call k1487
                    try clear S1485
                    refine p_mB rfl (cN (kR) fun w1489 k1490=>?_)
                    have S1491:=S1488.call k1490
                    try clear S1488
                    refine gF rfl rfl (cN (kR) fun w1492 k1493=>?_)
                    have S1494:=S1491.call k1493
                    try clear S1491
                    refine gF rfl rfl (cN (kR) fun w1495 k1496=>?_)
                    have S1497:=S1494.call k1496
                    try clear S1494
                    refine p_pkF rfl (rfl:_=B false) (cN (kR) fun w1498 k1499=>?_)
                    have S1500:=S1497.call k1499
                    try clear S1497
                    refine p_mB rfl (cN (kR) fun w1501 k1502=>?_)
                    have S1503:=S1500.call k1502
                    try clear S1500
                    refine gF rfl rfl (cN (kR) fun w1504 k1505=>?_)
                    have S1506:=S1503.call k1505
                    try clear S1503
                    refine gF rfl rfl (cN (kR) fun w1507 k1508=>?_)
                    have S1509:=S1506.call k1508
                    try clear S1506
                    refine gF rfl rfl (cN (kR) fun w1510 k1511=>?_)
                    have S1512:=S1509.call k1511
                    try clear S1509
                    refine p_pkF rfl (rfl:_=B false) (cN (kR) fun w1513 k1514=>?_)
                    have S1515:=S1512.call k1514
                    try clear S1512
                    refine p_mB rfl (cN (kR) fun w1516 k1517=>?_)
                    have S1518:=S1515.call k1517
                    try clear S1515
                    refine gF rfl rfl (cN (kR) fun w1519 k1520=>?_)
                    have S1521:=S1518.call k1520
                    try clear S1518
                    refine gF rfl rfl (cN (kR) fun w1522 k1523=>?_)
                    have S1524:=S1521.call k1523
                    try clear S1521
                    refine p_pkF rfl (rfl:_=B false) (cN (kR) fun w1525 k1526=>?_)
                    have S1527:=S1524.call k1526
                    try clear S1524
                    refine p_mB rfl (cN (kR) fun w1528 k1529=>?_)
                    have S1530:=S1527.call k1529
                    try clear S1527
                    refine gF rfl rfl (cN (kR) fun w1531 k1532=>?_)
                    have S1533:=S1530.call k1532
                    try clear S1530
                    refine gF rfl rfl (cN (kR) fun w1534 k1535=>?_)
                    have S1536:=S1533.call k1535
                    try clear S1533
                    refine p_pkF rfl (rfl:_=B false) (cN (kR) fun w1537 k1538=>?_)
                    have S1539:=S1536.call k1538
                    try clear S1536
                    refine p_mB rfl (cN (kR) fun w1540 k1541=>?_)
                    have S1542:=S1539.call k1541
                    try clear S1539
                    refine p_pkF rfl (rfl:_=B false) (cN (kR) fun w1543 k1544=>?_)
                    have S1545:=S1542.call k1544
                    try clear S1542
                    refine p_mB rfl (cN (kR) fun w1546 k1547=>?_)
                    have S1548:=S1545.call k1547
                    try clear S1545
                    refine gF rfl rfl (cN (kR) fun w1549 k1550=>?_)
                    have S1551:=S1548.call k1550
                    try clear S1548
                    refine p_pkF rfl (rfl:_=B false) (cN (kR) fun w1552 k1553=>?_)
                    have S1554:=S1551.call k1553
                    try clear S1551
                    refine p_aB rfl (cN (kR) fun w1555 k1556=>?_)
                    have S1557:=S1554.call k1556
                    try clear S1554
                    refine wp_nil ?_
                    have S1558:St w nF w1555 [] [rd eTallyCount 7 none 0 ([]:List TallyCount),gW0,gW1]:=S1557.pk [] (by decide) [2,3,4] rfl rfl
                    try clear S1557
                    obtain rfl:=sJ H
                    exact c_ret (rT Tryd.f3 S1558.keep rfl rfl)
                  ·replace H:=condF c753 H
                   refine reg_c mixed 81 [55,56,57,58,59,60,61,62,63,64,65,66,67,68,69,70,71,72,73,74,75,76,77,78,79,80] (by kernel_rfl) ?_
                   refine kS rfl (fun _ k_=>p_mI rfl dn)<|kS rfl (fun _ k_=>p_cmp rfl rfl rfl dn)<|kS rfl (fun _ k_=>p_mB rfl dn)<|kB c741<|kS rfl (fun _ k_=>gT rfl rfl (p_ldA ty33 sz33 (aS (S740.atX (i:=2) rfl) k_) rfl rfl dn))<|kS rfl (fun _ k_=>gT rfl rfl (p_cvD (B_Range_ok h743) fu16 rfl)) ?_
                   refine kS rfl (fun _ k_=>gT rfl rfl (o_eqA (xs:=[I r571.1.Low,I r571.1.High]) (ys:=[I r742.Low,I r742.High]) (T:=((r571.1.Low==r742.Low)&&(r571.1.High==r742.High))) rfl rfl eq33 ⟨⟨_,rfl⟩,⟨⟨_,rfl⟩,trivial⟩⟩ ⟨⟨_,rfl⟩,⟨⟨_,rfl⟩,trivial⟩⟩ (by simp [Bool.and_eq_true,and_assoc]) dn))<|kS rfl (fun _ k_=>p_pkT rfl (rfl:_=B ((r571.1.Low==r742.Low)&&(r571.1.High==r742.High))) dn) ?_
                   refine kS rfl (fun _ k_=>p_mB rfl dn)<|kB c744<|kS rfl (fun _ k_=>gT rfl rfl (p_mI rfl dn))<|kS rfl (fun _ k_=>gT rfl rfl (p_cmp rfl rfl rfl dn))<|kS rfl (fun _ k_=>p_pkT rfl (rfl:_=B (r591.2==0)) dn)<|kS rfl (fun _ k_=>p_mB rfl dn)<|kB c745<|kS rfl (fun _ k_=>gT rfl rfl (p_ldA ty33 sz33 (aS (S740.atX (i:=1) rfl) k_) rfl rfl dn)) ?_
                   refine kS rfl (fun _ k_=>gT rfl rfl (p_cvD (B_Range_ok h747) fu16 rfl))<|kS rfl (fun _ k_=>gT rfl rfl (o_eqA (xs:=[I r591.1.Low,I r591.1.High]) (ys:=[I r746.Low,I r746.High]) (T:=((r591.1.Low==r746.Low)&&(r591.1.High==r746.High))) rfl rfl eq33 ⟨⟨_,rfl⟩,⟨⟨_,rfl⟩,trivial⟩⟩ ⟨⟨_,rfl⟩,⟨⟨_,rfl⟩,trivial⟩⟩ (by simp [Bool.and_eq_true,and_assoc]) dn)) ?_
                   refine kS rfl (fun _ k_=>p_pkT rfl (rfl:_=B ((r591.1.Low==r746.Low)&&(r591.1.High==r746.High))) dn)<|kS rfl (fun _ k_=>p_mB rfl dn)<|kB c748<|kS rfl (fun _ k_=>gT rfl rfl (p_mI rfl dn))<|kS rfl (fun _ k_=>gT rfl rfl (p_cmp rfl rfl rfl dn))<|kS rfl (fun _ k_=>p_pkT rfl (rfl:_=B (r611.2==0)) dn)<|kS rfl (fun _ k_=>p_mB rfl dn)<|kB c749 ?_
                   refine kS rfl (fun _ k_=>gT rfl rfl (p_ldA ty33 sz33 (aS (S740.atX (i:=0) rfl) k_) rfl rfl dn))<|kS rfl (fun _ k_=>gT rfl rfl (p_cvD (B_Range_ok h751) fu16 rfl)) ?_
                   refine kS rfl (fun _ k_=>gT rfl rfl (o_eqA (xs:=[I r611.1.Low,I r611.1.High]) (ys:=[I r750.Low,I r750.High]) (T:=((r611.1.Low==r750.Low)&&(r611.1.High==r750.High))) rfl rfl eq33 ⟨⟨_,rfl⟩,⟨⟨_,rfl⟩,trivial⟩⟩ ⟨⟨_,rfl⟩,⟨⟨_,rfl⟩,trivial⟩⟩ (by simp [Bool.and_eq_true,and_assoc]) dn))<|kS rfl (fun _ k_=>p_pkT rfl (rfl:_=B ((r611.1.Low==r750.Low)&&(r611.1.High==r750.High))) dn) ?_
                   refine kS rfl (fun _ k_=>p_mB rfl dn)<|kB c752<|kS rfl (fun _ k_=>gT rfl rfl (p_mI rfl dn))<|kS rfl (fun _ k_=>gT rfl rfl (p_cmp rfl rfl rfl dn))<|kS rfl (fun _ k_=>p_pkT rfl (rfl:_=B (r636.2==0)) dn)<|kS rfl (fun _ k_=>p_mB rfl dn)<|kB c753<|kS rfl (fun _ k_=>gF rfl rfl dnU)<|kS rfl (fun _ k_=>gF rfl rfl dnU)<|kS rfl (fun _ k_=>p_pkF rfl (rfl:_=B false) dn)<|kS rfl (fun _ k_=>p_mB rfl dn) ?_
                   refine kS rfl (fun _ k_=>gF rfl rfl dnU)<|kS rfl (fun _ k_=>gF rfl rfl dnU)<|kS rfl (fun _ k_=>p_pkF rfl (rfl:_=B false) dn)<|kS rfl (fun _ k_=>p_mB rfl dn)<|kS rfl (fun _ k_=>gF rfl rfl dnU)<|kS rfl (fun _ k_=>gF rfl rfl dnU)<|kS rfl (fun _ k_=>p_pkF rfl (rfl:_=B false) dn)<|kS rfl (fun _ k_=>p_mB rfl dn)<|kS rfl (fun _ k_=>gF rfl rfl dnU)<|kS rfl (fun _ k_=>gF rfl rfl dnU) ?_
                   refine kS rfl (fun _ k_=>p_pkF rfl (rfl:_=B false) dn)<|kS rfl (fun _ k_=>p_mB rfl dn)<|kS rfl (fun _ k_=>gF rfl rfl dnU)<|kS rfl (fun _ k_=>gF rfl rfl dnU)<|kS rfl (fun _ k_=>p_pkF rfl (rfl:_=B false) dn)<|kS rfl (fun _ k_=>p_mB rfl dn)<|kS rfl (fun _ k_=>gF rfl rfl dnU)<|kS rfl (fun _ k_=>gF rfl rfl dnU)<|kS rfl (fun _ k_=>p_pkF rfl (rfl:_=B false) dn)<|kS rfl (fun _ k_=>p_mB rfl dn) ?_
                   refine kS rfl (fun _ k_=>gF rfl rfl dnU)<|kC rfl<|kC rfl<|kC rfl<|kC rfl<|kC rfl<|kC rfl<|kC rfl<|kC rfl<|kC rfl<|kC rfl<|kC rfl<|kC rfl<|kC rfl<|kC rfl<|kC rfl<|kC rfl<|kC rfl<|kC rfl<|kC rfl<|kC rfl<|kC rfl<|kC rfl<|kC rfl<|kC rfl<|kC rfl<|kC rfl ?_
                   intro w1559 k1560; have S1561:=S740.call k1560
                   refine gF rfl rfl (cN (kR) fun w1562 k1563=>?_)
                   have S1564:=S1561.call k1563
                   try clear S1561
                   refine gF rfl rfl (cN (kR) fun w1565 k1566=>?_)
                   have S1567:=S1564.call k1566
                   try clear S1564
                   refine p_pkF rfl (rfl:_=B false) (cN (kR) fun w1568 k1569=>?_)
                   have S1570:=S1567.call k1569
                   try clear S1567
                   refine p_mB rfl (cN (kR) fun w1571 k1572=>?_)
                   have S1573:=S1570.call k1572
                   try clear S1570
                   refine gF rfl rfl (cN (kR) fun w1574 k1575=>?_)
                   have S1576:=S1573.call k1575
                   try clear S1573
                   refine gF rfl rfl (cN (kR) fun w1577 k1578=>?_)
                   have S1579:=S1576.call k1578
                   try clear S1576
                   refine p_pkF rfl (rfl:_=B false) (cN (kR) fun w1580 k1581=>?_)
                   have S1582:=S1579.call k1581
                   try clear S1579
                   refine p_mB rfl (cN (kR) fun w1583 k1584=>?_)
                   have S1585:=S1582.call k1584
                   try clear S1582
                   refine gF rfl rfl (cN (kR) fun w1586 k1587=>?_)
                   have S1588:=S1585.call k1587
                   try clear S1585
                   refine gF rfl rfl (cN (kR) fun w1589 k1590=>?_)
                   have S1591:=S1588.call k1590
                   try clear S1588
                   refine gF rfl rfl (cN (kR) fun w1592 k1593=>?_)
                   have S1594:=S1591.call k1593
                   try clear S1591
                   refine p_pkF rfl (rfl:_=B false) (cN (kR) fun w1595 k1596=>?_)
                   have S1597:=S1594.call k1596
                   try clear S1594
                   refine p_mB rfl (cN (kR) fun w1598 k1599=>?_)
                   have S1600:=S1597.call k1599
                   try clear S1597
                   refine gF rfl rfl (cN (kR) fun w1601 k1602=>?_)
                   have S1603:=S1600.call k1602
                   try clear S1600
                   refine gF rfl rfl (cN (kR) fun w1604 k1605=>?_)
                   have S1606:=S1603.call k1605
                   try clear S1603
                   refine p_pkF rfl (rfl:_=B false) (cN (kR) fun w1607 k1608=>?_)
                   have S1609:=S1606.call k1608
                   try clear S1606
                   refine p_mB rfl (cN (kR) fun w1610 k1611=>?_)
                   have S1612:=S1609.call k1611
                   try clear S1609
                   refine gF rfl rfl (cN (kR) fun w1613 k1614=>?_)
                   have S1615:=S1612.call k1614
                   try clear S1612
                   refine gF rfl rfl (cN (kR) fun w1616 k1617=>?_)
                   have S1618:=S1615.call k1617
                   try clear S1615
                   refine p_pkF rfl (rfl:_=B false) (cN (kR) fun w1619 k1620=>?_)
                   have S1621:=S1618.call k1620
                   try clear S1618
                   refine p_mB rfl (cN (kR) fun w1622 k1623=>?_)
                   have S1624:=S1621.call k1623
                   try clear S1621
                   refine p_pkF rfl (rfl:_=B false) (cN (kR) fun w1625 k1626=>?_)
                   have S1627:=S1624.call k1626
                   try clear S1624
                   refine p_mB rfl (cN (kR) fun w1628 k1629=>?_)
                   have S1630:=S1627.call k1629
                   try clear S1627
                   refine gF rfl rfl (cN (kR) fun w1631 k1632=>?_)
                   have S1633:=S1630.call k1632
                   try clear S1630
                   refine p_pkF rfl (rfl:_=B false) (cN (kR) fun w1634 k1635=>?_)
                   have S1636:=S1633.call k1635
                   try clear S1633
                   refine p_aB rfl (cN (kR) fun w1637 k1638=>?_)
                   have S1639:=S1636.call k1638
                   try clear S1636
                   refine wp_nil ?_
                   have S1640:St w nF w1637 [] [rd eTallyCount 7 none 0 ([]:List TallyCount),gW0,gW1]:=S1639.pk [] (by decide) [2,3,4] rfl rfl
                   try clear S1639
                   obtain rfl:=sJ H
                   exact c_ret (rT Tryd.f3 S1640.keep rfl rfl)
                 ·replace H:=condF c752 H
                  refine reg_c mixed 81 [55,56,57,58,59,60,61,62,63,64,65,66,67,68,69,70,71,72,73,74,75,76,77,78,79,80] (by kernel_rfl) ?_
                  refine kS rfl (fun _ k_=>p_mI rfl dn)<|kS rfl (fun _ k_=>p_cmp rfl rfl rfl dn)<|kS rfl (fun _ k_=>p_mB rfl dn)<|kB c741<|kS rfl (fun _ k_=>gT rfl rfl (p_ldA ty33 sz33 (aS (S740.atX (i:=2) rfl) k_) rfl rfl dn))<|kS rfl (fun _ k_=>gT rfl rfl (p_cvD (B_Range_ok h743) fu16 rfl)) ?_
                  refine kS rfl (fun _ k_=>gT rfl rfl (o_eqA (xs:=[I r571.1.Low,I r571.1.High]) (ys:=[I r742.Low,I r742.High]) (T:=((r571.1.Low==r742.Low)&&(r571.1.High==r742.High))) rfl rfl eq33 ⟨⟨_,rfl⟩,⟨⟨_,rfl⟩,trivial⟩⟩ ⟨⟨_,rfl⟩,⟨⟨_,rfl⟩,trivial⟩⟩ (by simp [Bool.and_eq_true,and_assoc]) dn))<|kS rfl (fun _ k_=>p_pkT rfl (rfl:_=B ((r571.1.Low==r742.Low)&&(r571.1.High==r742.High))) dn) ?_
                  refine kS rfl (fun _ k_=>p_mB rfl dn)<|kB c744<|kS rfl (fun _ k_=>gT rfl rfl (p_mI rfl dn))<|kS rfl (fun _ k_=>gT rfl rfl (p_cmp rfl rfl rfl dn))<|kS rfl (fun _ k_=>p_pkT rfl (rfl:_=B (r591.2==0)) dn)<|kS rfl (fun _ k_=>p_mB rfl dn)<|kB c745<|kS rfl (fun _ k_=>gT rfl rfl (p_ldA ty33 sz33 (aS (S740.atX (i:=1) rfl) k_) rfl rfl dn)) ?_
                  refine kS rfl (fun _ k_=>gT rfl rfl (p_cvD (B_Range_ok h747) fu16 rfl))<|kS rfl (fun _ k_=>gT rfl rfl (o_eqA (xs:=[I r591.1.Low,I r591.1.High]) (ys:=[I r746.Low,I r746.High]) (T:=((r591.1.Low==r746.Low)&&(r591.1.High==r746.High))) rfl rfl eq33 ⟨⟨_,rfl⟩,⟨⟨_,rfl⟩,trivial⟩⟩ ⟨⟨_,rfl⟩,⟨⟨_,rfl⟩,trivial⟩⟩ (by simp [Bool.and_eq_true,and_assoc]) dn)) ?_
                  refine kS rfl (fun _ k_=>p_pkT rfl (rfl:_=B ((r591.1.Low==r746.Low)&&(r591.1.High==r746.High))) dn)<|kS rfl (fun _ k_=>p_mB rfl dn)<|kB c748<|kS rfl (fun _ k_=>gT rfl rfl (p_mI rfl dn))<|kS rfl (fun _ k_=>gT rfl rfl (p_cmp rfl rfl rfl dn))<|kS rfl (fun _ k_=>p_pkT rfl (rfl:_=B (r611.2==0)) dn)<|kS rfl (fun _ k_=>p_mB rfl dn)<|kB c749 ?_
                  refine kS rfl (fun _ k_=>gT rfl rfl (p_ldA ty33 sz33 (aS (S740.atX (i:=0) rfl) k_) rfl rfl dn))<|kS rfl (fun _ k_=>gT rfl rfl (p_cvD (B_Range_ok h751) fu16 rfl)) ?_
                  refine kS rfl (fun _ k_=>gT rfl rfl (o_eqA (xs:=[I r611.1.Low,I r611.1.High]) (ys:=[I r750.Low,I r750.High]) (T:=((r611.1.Low==r750.Low)&&(r611.1.High==r750.High))) rfl rfl eq33 ⟨⟨_,rfl⟩,⟨⟨_,rfl⟩,trivial⟩⟩ ⟨⟨_,rfl⟩,⟨⟨_,rfl⟩,trivial⟩⟩ (by simp [Bool.and_eq_true,and_assoc]) dn))<|kS rfl (fun _ k_=>p_pkT rfl (rfl:_=B ((r611.1.Low==r750.Low)&&(r611.1.High==r750.High))) dn) ?_
                  refine kS rfl (fun _ k_=>p_mB rfl dn)<|kB c752<|kS rfl (fun _ k_=>gF rfl rfl dnU)<|kS rfl (fun _ k_=>gF rfl rfl dnU)<|kS rfl (fun _ k_=>p_pkF rfl (rfl:_=B false) dn)<|kS rfl (fun _ k_=>p_mB rfl dn)<|kS rfl (fun _ k_=>gF rfl rfl dnU)<|kS rfl (fun _ k_=>gF rfl rfl dnU)<|kS rfl (fun _ k_=>p_pkF rfl (rfl:_=B false) dn)<|kS rfl (fun _ k_=>p_mB rfl dn)<|kS rfl (fun _ k_=>gF rfl rfl dnU) ?_
                  refine kS rfl (fun _ k_=>gF rfl rfl dnU)<|kS rfl (fun _ k_=>p_pkF rfl (rfl:_=B false) dn)<|kS rfl (fun _ k_=>p_mB rfl dn)<|kS rfl (fun _ k_=>gF rfl rfl dnU)<|kS rfl (fun _ k_=>gF rfl rfl dnU)<|kS rfl (fun _ k_=>p_pkF rfl (rfl:_=B false) dn)<|kS rfl (fun _ k_=>p_mB rfl dn)<|kS rfl (fun _ k_=>gF rfl rfl dnU)<|kS rfl (fun _ k_=>gF rfl rfl dnU)<|kS rfl (fun _ k_=>p_pkF rfl (rfl:_=B false) dn) ?_
                  refine kS rfl (fun _ k_=>p_mB rfl dn)<|kS rfl (fun _ k_=>gF rfl rfl dnU)<|kS rfl (fun _ k_=>gF rfl rfl dnU)<|kS rfl (fun _ k_=>p_pkF rfl (rfl:_=B false) dn)<|kS rfl (fun _ k_=>p_mB rfl dn)<|kS rfl (fun _ k_=>gF rfl rfl dnU)<|kS rfl (fun _ k_=>gF rfl rfl dnU)<|kS rfl (fun _ k_=>p_pkF rfl (rfl:_=B false) dn)<|kS rfl (fun _ k_=>p_mB rfl dn)<|kS rfl (fun _ k_=>gF rfl rfl dnU)<|kC rfl<|kC rfl<|kC rfl ?_
                  refine kC rfl<|kC rfl<|kC rfl<|kC rfl<|kC rfl<|kC rfl<|kC rfl<|kC rfl<|kC rfl<|kC rfl<|kC rfl<|kC rfl<|kC rfl<|kC rfl<|kC rfl<|kC rfl<|kC rfl<|kC rfl<|kC rfl<|kC rfl<|kC rfl<|kC rfl<|kC rfl ?_
                  intro w1641 k1642; have S1643:=S740.call k1642
                  refine gF rfl rfl (cN (kR) fun w1644 k1645=>?_)
                  have S1646:=S1643.call k1645
                  try clear S1643
                  refine gF rfl rfl (cN (kR) fun w1647 k1648=>?_)
                  have S1649:=S1646.call k1648
                  try clear S1646
                  refine p_pkF rfl (rfl:_=B false) (cN (kR) fun w1650 k1651=>?_)
                  have S1652:=S1649.call k1651
                  try clear S1649
                  refine p_mB rfl (cN (kR) fun w1653 k1654=>?_)
                  have S1655:=S1652.call k1654
                  try clear S1652
                  refine gF rfl rfl (cN (kR) fun w1656 k1657=>?_)
                  have S1658:=S1655.call k1657
                  try clear S1655
                  refine gF rfl rfl (cN (kR) fun w1659 k1660=>?_)
                  have S1661:=S1658.call k1660
                  try clear S1658
                  refine p_pkF rfl (rfl:_=B false) (cN (kR) fun w1662 k1663=>?_)
                  have S1664:=S1661.call k1663
                  try clear S1661
                  refine p_mB rfl (cN (kR) fun w1665 k1666=>?_)
                  have S1667:=S1664.call k1666
                  try clear S1664
                  refine gF rfl rfl (cN (kR) fun w1668 k1669=>?_)
                  have S1670:=S1667.call k1669
                  try clear S1667
                  refine gF rfl rfl (cN (kR) fun w1671 k1672=>?_)
                  have S1673:=S1670.call k1672
                  try clear S1670
                  refine gF rfl rfl (cN (kR) fun w1674 k1675=>?_)
                  have S1676:=S1673.call k1675
                  try clear S1673
                  refine p_pkF rfl (rfl:_=B false) (cN (kR) fun w1677 k1678=>?_)
                  have S1679:=S1676.call k1678
                  try clear S1676
                  refine p_mB rfl (cN (kR) fun w1680 k1681=>?_)
                  have S1682:=S1679.call k1681
                  try clear S1679
                  refine gF rfl rfl (cN (kR) fun w1683 k1684=>?_)
                  have S1685:=S1682.call k1684
                  try clear S1682
                  refine gF rfl rfl (cN (kR) fun w1686 k1687=>?_)
                  have S1688:=S1685.call k1687
                  try clear S1685
                  refine p_pkF rfl (rfl:_=B false) (cN (kR) fun w1689 k1690=>?_)
                  have S1691:=S1688.call k1690
                  try clear S1688
                  refine p_mB rfl (cN (kR) fun w1692 k1693=>?_)
                  have S1694:=S1691.call k1693
                  try clear S1691
                  refine gF rfl rfl (cN (kR) fun w1695 k1696=>?_)
                  have S1697:=S1694.call k1696
                  try clear S1694
                  refine gF rfl rfl (cN (kR) fun w1698 k1699=>?_)
                  have S1700:=S1697.call k1699
                  try clear S1697
                  refine p_pkF rfl (rfl:_=B false) (cN (kR) fun w1701 k1702=>?_)
                  have S1703:=S1700.call k1702
                  try clear S1700
                  refine p_mB rfl (cN (kR) fun w1704 k1705=>?_)
                  have S1706:=S1703.call k1705
                  try clear S1703
                  refine p_pkF rfl (rfl:_=B false) (cN (kR) fun w1707 k1708=>?_)
                  have S1709:=S1706.call k1708
                  try clear S1706
                  refine p_mB rfl (cN (kR) fun w1710 k1711=>?_)
                  have S1712:=S1709.call k1711
                  try clear S1709
                  refine gF rfl rfl (cN (kR) fun w1713 k1714=>?_)
                  have S1715:=S1712.call k1714
                  try clear S1712
                  refine p_pkF rfl (rfl:_=B false) (cN (kR) fun w1716 k1717=>?_)
                  have S1718:=S1715.call k1717
                  try clear S1715
                  refine p_aB rfl (cN (kR) fun w1719 k1720=>?_)
                  have S1721:=S1718.call k1720
                  try clear S1718
                  refine wp_nil ?_
                  have S1722:St w nF w1719 [] [rd eTallyCount 7 none 0 ([]:List TallyCount),gW0,gW1]:=S1721.pk [] (by decide) [2,3,4] rfl rfl
                  try clear S1721
                  obtain rfl:=sJ H
                  exact c_ret (rT Tryd.f3 S1722.keep rfl rfl)
                ·replace H:=condF c749 H
                 refine reg_c mixed 81 [55,56,57,58,59,60,61,62,63,64,65,66,67,68,69,70,71,72,73,74,75,76,77,78,79,80] (by kernel_rfl) ?_
                 refine kS rfl (fun _ k_=>p_mI rfl dn)<|kS rfl (fun _ k_=>p_cmp rfl rfl rfl dn)<|kS rfl (fun _ k_=>p_mB rfl dn)<|kB c741<|kS rfl (fun _ k_=>gT rfl rfl (p_ldA ty33 sz33 (aS (S740.atX (i:=2) rfl) k_) rfl rfl dn))<|kS rfl (fun _ k_=>gT rfl rfl (p_cvD (B_Range_ok h743) fu16 rfl)) ?_
                 refine kS rfl (fun _ k_=>gT rfl rfl (o_eqA (xs:=[I r571.1.Low,I r571.1.High]) (ys:=[I r742.Low,I r742.High]) (T:=((r571.1.Low==r742.Low)&&(r571.1.High==r742.High))) rfl rfl eq33 ⟨⟨_,rfl⟩,⟨⟨_,rfl⟩,trivial⟩⟩ ⟨⟨_,rfl⟩,⟨⟨_,rfl⟩,trivial⟩⟩ (by simp [Bool.and_eq_true,and_assoc]) dn))<|kS rfl (fun _ k_=>p_pkT rfl (rfl:_=B ((r571.1.Low==r742.Low)&&(r571.1.High==r742.High))) dn) ?_
                 refine kS rfl (fun _ k_=>p_mB rfl dn)<|kB c744<|kS rfl (fun _ k_=>gT rfl rfl (p_mI rfl dn))<|kS rfl (fun _ k_=>gT rfl rfl (p_cmp rfl rfl rfl dn))<|kS rfl (fun _ k_=>p_pkT rfl (rfl:_=B (r591.2==0)) dn)<|kS rfl (fun _ k_=>p_mB rfl dn)<|kB c745<|kS rfl (fun _ k_=>gT rfl rfl (p_ldA ty33 sz33 (aS (S740.atX (i:=1) rfl) k_) rfl rfl dn)) ?_
                 refine kS rfl (fun _ k_=>gT rfl rfl (p_cvD (B_Range_ok h747) fu16 rfl))<|kS rfl (fun _ k_=>gT rfl rfl (o_eqA (xs:=[I r591.1.Low,I r591.1.High]) (ys:=[I r746.Low,I r746.High]) (T:=((r591.1.Low==r746.Low)&&(r591.1.High==r746.High))) rfl rfl eq33 ⟨⟨_,rfl⟩,⟨⟨_,rfl⟩,trivial⟩⟩ ⟨⟨_,rfl⟩,⟨⟨_,rfl⟩,trivial⟩⟩ (by simp [Bool.and_eq_true,and_assoc]) dn)) ?_
                 refine kS rfl (fun _ k_=>p_pkT rfl (rfl:_=B ((r591.1.Low==r746.Low)&&(r591.1.High==r746.High))) dn)<|kS rfl (fun _ k_=>p_mB rfl dn)<|kB c748<|kS rfl (fun _ k_=>gT rfl rfl (p_mI rfl dn))<|kS rfl (fun _ k_=>gT rfl rfl (p_cmp rfl rfl rfl dn))<|kS rfl (fun _ k_=>p_pkT rfl (rfl:_=B (r611.2==0)) dn)<|kS rfl (fun _ k_=>p_mB rfl dn)<|kB c749<|kS rfl (fun _ k_=>gF rfl rfl dnU) ?_
                 refine kS rfl (fun _ k_=>gF rfl rfl dnU)<|kS rfl (fun _ k_=>gF rfl rfl dnU)<|kS rfl (fun _ k_=>p_pkF rfl (rfl:_=B false) dn)<|kS rfl (fun _ k_=>p_mB rfl dn)<|kS rfl (fun _ k_=>gF rfl rfl dnU)<|kS rfl (fun _ k_=>gF rfl rfl dnU)<|kS rfl (fun _ k_=>p_pkF rfl (rfl:_=B false) dn)<|kS rfl (fun _ k_=>p_mB rfl dn)<|kS rfl (fun _ k_=>gF rfl rfl dnU)<|kS rfl (fun _ k_=>gF rfl rfl dnU) ?_
                 refine kS rfl (fun _ k_=>p_pkF rfl (rfl:_=B false) dn)<|kS rfl (fun _ k_=>p_mB rfl dn)<|kS rfl (fun _ k_=>gF rfl rfl dnU)<|kS rfl (fun _ k_=>gF rfl rfl dnU)<|kS rfl (fun _ k_=>p_pkF rfl (rfl:_=B false) dn)<|kS rfl (fun _ k_=>p_mB rfl dn)<|kS rfl (fun _ k_=>gF rfl rfl dnU)<|kS rfl (fun _ k_=>gF rfl rfl dnU)<|kS rfl (fun _ k_=>p_pkF rfl (rfl:_=B false) dn)<|kS rfl (fun _ k_=>p_mB rfl dn) ?_
                 refine kS rfl (fun _ k_=>gF rfl rfl dnU)<|kS rfl (fun _ k_=>gF rfl rfl dnU)<|kS rfl (fun _ k_=>p_pkF rfl (rfl:_=B false) dn)<|kS rfl (fun _ k_=>p_mB rfl dn)<|kS rfl (fun _ k_=>gF rfl rfl dnU)<|kS rfl (fun _ k_=>gF rfl rfl dnU)<|kS rfl (fun _ k_=>p_pkF rfl (rfl:_=B false) dn)<|kS rfl (fun _ k_=>p_mB rfl dn)<|kS rfl (fun _ k_=>gF rfl rfl dnU)<|kS rfl (fun _ k_=>gF rfl rfl dnU) ?_
                 refine kS rfl (fun _ k_=>p_pkF rfl (rfl:_=B false) dn)<|kS rfl (fun _ k_=>p_mB rfl dn)<|kS rfl (fun _ k_=>gF rfl rfl dnU)<|kC rfl<|kC rfl<|kC rfl<|kC rfl<|kC rfl<|kC rfl<|kC rfl<|kC rfl<|kC rfl<|kC rfl<|kC rfl<|kC rfl<|kC rfl<|kC rfl<|kC rfl<|kC rfl<|kC rfl<|kC rfl<|kC rfl<|kC rfl<|kC rfl<|kC rfl<|kC rfl<|kC rfl<|kC rfl<|kC rfl ?_
                 intro w1723 k1724; have S1725:=S740.call k1724
                 refine gF rfl rfl (cN (kR) fun w1726 k1727=>?_)
                 have S1728:=S1725.call k1727
                 try clear S1725
                 refine gF rfl rfl (cN (kR) fun w1729 k1730=>?_)
                 have S1731:=S1728.call k1730
                 try clear S1728
                 refine p_pkF rfl (rfl:_=B false) (cN (kR) fun w1732 k1733=>?_)
                 have S1734:=S1731.call k1733
                 try clear S1731
                 refine p_mB rfl (cN (kR) fun w1735 k1736=>?_)
                 have S1737:=S1734.call k1736
                 try clear S1734
                 refine gF rfl rfl (cN (kR) fun w1738 k1739=>?_)
                 have S1740:=S1737.call k1739
                 try clear S1737
                 refine gF rfl rfl (cN (kR) fun w1741 k1742=>?_)
                 have S1743:=S1740.call k1742
                 try clear S1740
                 refine p_pkF rfl (rfl:_=B false) (cN (kR) fun w1744 k1745=>?_)
                 have S1746:=S1743.call k1745
                 try clear S1743
                 refine p_mB rfl (cN (kR) fun w1747 k1748=>?_)
                 have S1749:=S1746.call k1748
                 try clear S1746
                 refine gF rfl rfl (cN (kR) fun w1750 k1751=>?_)
                 have S1752:=S1749.call k1751
                 try clear S1749
                 refine gF rfl rfl (cN (kR) fun w1753 k1754=>?_)
                 have S1755:=S1752.call k1754
                 try clear S1752
                 refine gF rfl rfl (cN (kR) fun w1756 k1757=>?_)
                 have S1758:=S1755.call k1757
                 try clear S1755
                 refine p_pkF rfl (rfl:_=B false) (cN (kR) fun w1759 k1760=>?_)
                 have S1761:=S1758.call k1760
                 try clear S1758
                 refine p_mB rfl (cN (kR) fun w1762 k1763=>?_)
                 have S1764:=S1761.call k1763
                 try clear S1761
                 refine gF rfl rfl (cN (kR) fun w1765 k1766=>?_)
                 have S1767:=S1764.call k1766
                 try clear S1764
                 refine gF rfl rfl (cN (kR) fun w1768 k1769=>?_)
                 have S1770:=S1767.call k1769
                 try clear S1767
                 refine p_pkF rfl (rfl:_=B false) (cN (kR) fun w1771 k1772=>?_)
                 have S1773:=S1770.call k1772
                 try clear S1770
                 refine p_mB rfl (cN (kR) fun w1774 k1775=>?_)
                 have S1776:=S1773.call k1775
                 try clear S1773
                 refine gF rfl rfl (cN (kR) fun w1777 k1778=>?_)
                 have S1779:=S1776.call k1778
                 try clear S1776
                 refine gF rfl rfl (cN (kR) fun w1780 k1781=>?_)
                 have S1782:=S1779.call k1781
                 try clear S1779
                 refine p_pkF rfl (rfl:_=B false) (cN (kR) fun w1783 k1784=>?_)
                 have S1785:=S1782.call k1784
                 try clear S1782
                 refine p_mB rfl (cN (kR) fun w1786 k1787=>?_)
                 have S1788:=S1785.call k1787
                 try clear S1785
                 refine p_pkF rfl (rfl:_=B false) (cN (kR) fun w1789 k1790=>?_)
                 have S1791:=S1788.call k1790
                 try clear S1788
                 refine p_mB rfl (cN (kR) fun w1792 k1793=>?_)
                 have S1794:=S1791.call k1793
                 try clear S1791
                 refine gF rfl rfl (cN (kR) fun w1795 k1796=>?_)
                 have S1797:=S1794.call k1796
                 try clear S1794
                 refine p_pkF rfl (rfl:_=B false) (cN (kR) fun w1798 k1799=>?_)
                 have S1800:=S1797.call k1799
                 try clear S1797
                 refine p_aB rfl (cN (kR) fun w1801 k1802=>?_)
                 have S1803:=S1800.call k1802
                 try clear S1800
                 refine wp_nil ?_
                 have S1804:St w nF w1801 [] [rd eTallyCount 7 none 0 ([]:List TallyCount),gW0,gW1]:=S1803.pk [] (by decide) [2,3,4] rfl rfl
                 try clear S1803
                 obtain rfl:=sJ H
                 exact c_ret (rT Tryd.f3 S1804.keep rfl rfl)
               ·replace H:=condF c748 H
                refine reg_c mixed 81 [55,56,57,58,59,60,61,62,63,64,65,66,67,68,69,70,71,72,73,74,75,76,77,78,79,80] (by kernel_rfl) ?_
                refine kS rfl (fun _ k_=>p_mI rfl dn)<|kS rfl (fun _ k_=>p_cmp rfl rfl rfl dn)<|kS rfl (fun _ k_=>p_mB rfl dn)<|kB c741<|kS rfl (fun _ k_=>gT rfl rfl (p_ldA ty33 sz33 (aS (S740.atX (i:=2) rfl) k_) rfl rfl dn))<|kS rfl (fun _ k_=>gT rfl rfl (p_cvD (B_Range_ok h743) fu16 rfl)) ?_
                refine kS rfl (fun _ k_=>gT rfl rfl (o_eqA (xs:=[I r571.1.Low,I r571.1.High]) (ys:=[I r742.Low,I r742.High]) (T:=((r571.1.Low==r742.Low)&&(r571.1.High==r742.High))) rfl rfl eq33 ⟨⟨_,rfl⟩,⟨⟨_,rfl⟩,trivial⟩⟩ ⟨⟨_,rfl⟩,⟨⟨_,rfl⟩,trivial⟩⟩ (by simp [Bool.and_eq_true,and_assoc]) dn))<|kS rfl (fun _ k_=>p_pkT rfl (rfl:_=B ((r571.1.Low==r742.Low)&&(r571.1.High==r742.High))) dn) ?_
                refine kS rfl (fun _ k_=>p_mB rfl dn)<|kB c744<|kS rfl (fun _ k_=>gT rfl rfl (p_mI rfl dn))<|kS rfl (fun _ k_=>gT rfl rfl (p_cmp rfl rfl rfl dn))<|kS rfl (fun _ k_=>p_pkT rfl (rfl:_=B (r591.2==0)) dn)<|kS rfl (fun _ k_=>p_mB rfl dn)<|kB c745<|kS rfl (fun _ k_=>gT rfl rfl (p_ldA ty33 sz33 (aS (S740.atX (i:=1) rfl) k_) rfl rfl dn)) ?_
                refine kS rfl (fun _ k_=>gT rfl rfl (p_cvD (B_Range_ok h747) fu16 rfl))<|kS rfl (fun _ k_=>gT rfl rfl (o_eqA (xs:=[I r591.1.Low,I r591.1.High]) (ys:=[I r746.Low,I r746.High]) (T:=((r591.1.Low==r746.Low)&&(r591.1.High==r746.High))) rfl rfl eq33 ⟨⟨_,rfl⟩,⟨⟨_,rfl⟩,trivial⟩⟩ ⟨⟨_,rfl⟩,⟨⟨_,rfl⟩,trivial⟩⟩ (by simp [Bool.and_eq_true,and_assoc]) dn)) ?_
                refine kS rfl (fun _ k_=>p_pkT rfl (rfl:_=B ((r591.1.Low==r746.Low)&&(r591.1.High==r746.High))) dn)<|kS rfl (fun _ k_=>p_mB rfl dn)<|kB c748<|kS rfl (fun _ k_=>gF rfl rfl dnU)<|kS rfl (fun _ k_=>gF rfl rfl dnU)<|kS rfl (fun _ k_=>p_pkF rfl (rfl:_=B false) dn)<|kS rfl (fun _ k_=>p_mB rfl dn)<|kS rfl (fun _ k_=>gF rfl rfl dnU)<|kS rfl (fun _ k_=>gF rfl rfl dnU) ?_
                refine kS rfl (fun _ k_=>gF rfl rfl dnU)<|kS rfl (fun _ k_=>p_pkF rfl (rfl:_=B false) dn)<|kS rfl (fun _ k_=>p_mB rfl dn)<|kS rfl (fun _ k_=>gF rfl rfl dnU)<|kS rfl (fun _ k_=>gF rfl rfl dnU)<|kS rfl (fun _ k_=>p_pkF rfl (rfl:_=B false) dn)<|kS rfl (fun _ k_=>p_mB rfl dn)<|kS rfl (fun _ k_=>gF rfl rfl dnU)<|kS rfl (fun _ k_=>gF rfl rfl dnU)<|kS rfl (fun _ k_=>p_pkF rfl (rfl:_=B false) dn) ?_
                refine kS rfl (fun _ k_=>p_mB rfl dn)<|kS rfl (fun _ k_=>gF rfl rfl dnU)<|kS rfl (fun _ k_=>gF rfl rfl dnU)<|kS rfl (fun _ k_=>p_pkF rfl (rfl:_=B false) dn)<|kS rfl (fun _ k_=>p_mB rfl dn)<|kS rfl (fun _ k_=>gF rfl rfl dnU)<|kS rfl (fun _ k_=>gF rfl rfl dnU)<|kS rfl (fun _ k_=>p_pkF rfl (rfl:_=B false) dn)<|kS rfl (fun _ k_=>p_mB rfl dn)<|kS rfl (fun _ k_=>gF rfl rfl dnU) ?_
                refine kS rfl (fun _ k_=>gF rfl rfl dnU)<|kS rfl (fun _ k_=>p_pkF rfl (rfl:_=B false) dn)<|kS rfl (fun _ k_=>p_mB rfl dn)<|kS rfl (fun _ k_=>gF rfl rfl dnU)<|kS rfl (fun _ k_=>gF rfl rfl dnU)<|kS rfl (fun _ k_=>p_pkF rfl (rfl:_=B false) dn)<|kS rfl (fun _ k_=>p_mB rfl dn)<|kS rfl (fun _ k_=>gF rfl rfl dnU)<|kS rfl (fun _ k_=>gF rfl rfl dnU)<|kS rfl (fun _ k_=>p_pkF rfl (rfl:_=B false) dn) ?_
                refine kS rfl (fun _ k_=>p_mB rfl dn)<|kS rfl (fun _ k_=>gF rfl rfl dnU)<|kC rfl<|kC rfl<|kC rfl<|kC rfl<|kC rfl<|kC rfl<|kC rfl<|kC rfl<|kC rfl<|kC rfl<|kC rfl<|kC rfl<|kC rfl<|kC rfl<|kC rfl<|kC rfl<|kC rfl<|kC rfl<|kC rfl<|kC rfl<|kC rfl<|kC rfl<|kC rfl<|kC rfl<|kC rfl<|kC rfl ?_
                intro w1805 k1806; have S1807:=S740.call k1806
                refine gF rfl rfl (cN (kR) fun w1808 k1809=>?_)
                have S1810:=S1807.call k1809
                try clear S1807
                refine gF rfl rfl (cN (kR) fun w1811 k1812=>?_)
                have S1813:=S1810.call k1812
                try clear S1810
                refine p_pkF rfl (rfl:_=B false) (cN (kR) fun w1814 k1815=>?_)
                have S1816:=S1813.call k1815
                try clear S1813
                refine p_mB rfl (cN (kR) fun w1817 k1818=>?_)
                have S1819:=S1816.call k1818
                try clear S1816
                refine gF rfl rfl (cN (kR) fun w1820 k1821=>?_)
                have S1822:=S1819.call k1821
                try clear S1819
                refine gF rfl rfl (cN (kR) fun w1823 k1824=>?_)
                have S1825:=S1822.call k1824
                try clear S1822
                refine p_pkF rfl (rfl:_=B false) (cN (kR) fun w1826 k1827=>?_)
                have S1828:=S1825.call k1827
                try clear S1825
                refine p_mB rfl (cN (kR) fun w1829 k1830=>?_)
                have S1831:=S1828.call k1830
                try clear S1828
                refine gF rfl rfl (cN (kR) fun w1832 k1833=>?_)
                have S1834:=S1831.call k1833
                try clear S1831
                refine gF rfl rfl (cN (kR) fun w1835 k1836=>?_)
                have S1837:=S1834.call k1836
                try clear S1834
                refine gF rfl rfl (cN (kR) fun w1838 k1839=>?_)
                have S1840:=S1837.call k1839
                try clear S1837
                refine p_pkF rfl (rfl:_=B false) (cN (kR) fun w1841 k1842=>?_)
                have S1843:=S1840.call k1842
                try clear S1840
                refine p_mB rfl (cN (kR) fun w1844 k1845=>?_)
                have S1846:=S1843.call k1845
                try clear S1843
                refine gF rfl rfl (cN (kR) fun w1847 k1848=>?_)
                have S1849:=S1846.call k1848
                try clear S1846
                refine gF rfl rfl (cN (kR) fun w1850 k1851=>?_)
                have S1852:=S1849.call k1851
                try clear S1849
                refine p_pkF rfl (rfl:_=B false) (cN (kR) fun w1853 k1854=>?_)
                have S1855:=S1852.call k1854
                try clear S1852
                refine p_mB rfl (cN (kR) fun w1856 k1857=>?_)
                have S1858:=S1855.call k1857
                try clear S1855
                refine gF rfl rfl (cN (kR) fun w1859 k1860=>?_)
                have S1861:=S1858.call k1860
                try clear S1858
                refine gF rfl rfl (cN (kR) fun w1862 k1863=>?_)
                have S1864:=S1861.call k1863
                try clear S1861
                refine p_pkF rfl (rfl:_=B false) (cN (kR) fun w1865 k1866=>?_)
                have S1867:=S1864.call k1866
                try clear S1864
                refine p_mB rfl (cN (kR) fun w1868 k1869=>?_)
                have S1870:=S1867.call k1869
                try clear S1867
                refine p_pkF rfl (rfl:_=B false) (cN (kR) fun w1871 k1872=>?_)
                have S1873:=S1870.call k1872
                try clear S1870
                refine p_mB rfl (cN (kR) fun w1874 k1875=>?_)
                have S1876:=S1873.call k1875
                try clear S1873
                refine gF rfl rfl (cN (kR) fun w1877 k1878=>?_)
                have S1879:=S1876.call k1878
                try clear S1876
                refine p_pkF rfl (rfl:_=B false) (cN (kR) fun w1880 k1881=>?_)
                have S1882:=S1879.call k1881
                try clear S1879
                refine p_aB rfl (cN (kR) fun w1883 k1884=>?_)
                have S1885:=S1882.call k1884
                try clear S1882
                refine wp_nil ?_
                have S1886:St w nF w1883 [] [rd eTallyCount 7 none 0 ([]:List TallyCount),gW0,gW1]:=S1885.pk [] (by decide) [2,3,4] rfl rfl
                try clear S1885
                obtain rfl:=sJ H
                exact c_ret (rT Tryd.f3 S1886.keep rfl rfl)
              ·replace H:=condF c745 H
               refine reg_c mixed 81 [55,56,57,58,59,60,61,62,63,64,65,66,67,68,69,70,71,72,73,74,75,76,77,78,79,80] (by kernel_rfl) ?_
               refine kS rfl (fun _ k_=>p_mI rfl dn)<|kS rfl (fun _ k_=>p_cmp rfl rfl rfl dn)<|kS rfl (fun _ k_=>p_mB rfl dn)<|kB c741<|kS rfl (fun _ k_=>gT rfl rfl (p_ldA ty33 sz33 (aS (S740.atX (i:=2) rfl) k_) rfl rfl dn))<|kS rfl (fun _ k_=>gT rfl rfl (p_cvD (B_Range_ok h743) fu16 rfl)) ?_
               refine kS rfl (fun _ k_=>gT rfl rfl (o_eqA (xs:=[I r571.1.Low,I r571.1.High]) (ys:=[I r742.Low,I r742.High]) (T:=((r571.1.Low==r742.Low)&&(r571.1.High==r742.High))) rfl rfl eq33 ⟨⟨_,rfl⟩,⟨⟨_,rfl⟩,trivial⟩⟩ ⟨⟨_,rfl⟩,⟨⟨_,rfl⟩,trivial⟩⟩ (by simp [Bool.and_eq_true,and_assoc]) dn))<|kS rfl (fun _ k_=>p_pkT rfl (rfl:_=B ((r571.1.Low==r742.Low)&&(r571.1.High==r742.High))) dn) ?_
               refine kS rfl (fun _ k_=>p_mB rfl dn)<|kB c744<|kS rfl (fun _ k_=>gT rfl rfl (p_mI rfl dn))<|kS rfl (fun _ k_=>gT rfl rfl (p_cmp rfl rfl rfl dn))<|kS rfl (fun _ k_=>p_pkT rfl (rfl:_=B (r591.2==0)) dn)<|kS rfl (fun _ k_=>p_mB rfl dn)<|kB c745<|kS rfl (fun _ k_=>gF rfl rfl dnU)<|kS rfl (fun _ k_=>gF rfl rfl dnU)<|kS rfl (fun _ k_=>gF rfl rfl dnU)<|kS rfl (fun _ k_=>p_pkF rfl (rfl:_=B false) dn) ?_
               refine kS rfl (fun _ k_=>p_mB rfl dn)<|kS rfl (fun _ k_=>gF rfl rfl dnU)<|kS rfl (fun _ k_=>gF rfl rfl dnU)<|kS rfl (fun _ k_=>p_pkF rfl (rfl:_=B false) dn)<|kS rfl (fun _ k_=>p_mB rfl dn)<|kS rfl (fun _ k_=>gF rfl rfl dnU)<|kS rfl (fun _ k_=>gF rfl rfl dnU)<|kS rfl (fun _ k_=>gF rfl rfl dnU)<|kS rfl (fun _ k_=>p_pkF rfl (rfl:_=B false) dn)<|kS rfl (fun _ k_=>p_mB rfl dn) ?_
               refine kS rfl (fun _ k_=>gF rfl rfl dnU)<|kS rfl (fun _ k_=>gF rfl rfl dnU)<|kS rfl (fun _ k_=>p_pkF rfl (rfl:_=B false) dn)<|kS rfl (fun _ k_=>p_mB rfl dn)<|kS rfl (fun _ k_=>gF rfl rfl dnU)<|kS rfl (fun _ k_=>gF rfl rfl dnU)<|kS rfl (fun _ k_=>p_pkF rfl (rfl:_=B false) dn)<|kS rfl (fun _ k_=>p_mB rfl dn)<|kS rfl (fun _ k_=>gF rfl rfl dnU)<|kS rfl (fun _ k_=>gF rfl rfl dnU) ?_
               refine kS rfl (fun _ k_=>p_pkF rfl (rfl:_=B false) dn)<|kS rfl (fun _ k_=>p_mB rfl dn)<|kS rfl (fun _ k_=>gF rfl rfl dnU)<|kS rfl (fun _ k_=>gF rfl rfl dnU)<|kS rfl (fun _ k_=>p_pkF rfl (rfl:_=B false) dn)<|kS rfl (fun _ k_=>p_mB rfl dn)<|kS rfl (fun _ k_=>gF rfl rfl dnU)<|kS rfl (fun _ k_=>gF rfl rfl dnU)<|kS rfl (fun _ k_=>p_pkF rfl (rfl:_=B false) dn)<|kS rfl (fun _ k_=>p_mB rfl dn) ?_
               refine kS rfl (fun _ k_=>gF rfl rfl dnU)<|kS rfl (fun _ k_=>gF rfl rfl dnU)<|kS rfl (fun _ k_=>p_pkF rfl (rfl:_=B false) dn)<|kS rfl (fun _ k_=>p_mB rfl dn)<|kS rfl (fun _ k_=>gF rfl rfl dnU)<|kS rfl (fun _ k_=>gF rfl rfl dnU)<|kS rfl (fun _ k_=>p_pkF rfl (rfl:_=B false) dn)<|kS rfl (fun _ k_=>p_mB rfl dn)<|kS rfl (fun _ k_=>gF rfl rfl dnU)<|kC rfl<|kC rfl<|kC rfl<|kC rfl<|kC rfl<|kC rfl<|kC rfl<|kC rfl<|kC rfl ?_
               refine kC rfl<|kC rfl<|kC rfl<|kC rfl<|kC rfl<|kC rfl<|kC rfl<|kC rfl<|kC rfl<|kC rfl<|kC rfl<|kC rfl<|kC rfl<|kC rfl<|kC rfl<|kC rfl<|kC rfl ?_
               intro w1887 k1888; have S1889:=S740.call k1888
               refine gF rfl rfl (cN (kR) fun w1890 k1891=>?_)
               have S1892:=S1889.call k1891
               try clear S1889
               refine gF rfl rfl (cN (kR) fun w1893 k1894=>?_)
               have S1895:=S1892.call k1894
               try clear S1892
               refine p_pkF rfl (rfl:_=B false) (cN (kR) fun w1896 k1897=>?_)
               have S1898:=S1895.call k1897
               try clear S1895
               refine p_mB rfl (cN (kR) fun w1899 k1900=>?_)
               have S1901:=S1898.call k1900
               try clear S1898
               refine gF rfl rfl (cN (kR) fun w1902 k1903=>?_)
               have S1904:=S1901.call k1903
               try clear S1901
               refine gF rfl rfl (cN (kR) fun w1905 k1906=>?_)
               have S1907:=S1904.call k1906
               try clear S1904
               refine p_pkF rfl (rfl:_=B false) (cN (kR) fun w1908 k1909=>?_)
               have S1910:=S1907.call k1909
               try clear S1907
               refine p_mB rfl (cN (kR) fun w1911 k1912=>?_)
               have S1913:=S1910.call k1912
               try clear S1910
               refine gF rfl rfl (cN (kR) fun w1914 k1915=>?_)
               have S1916:=S1913.call k1915
               try clear S1913
               refine gF rfl rfl (cN (kR) fun w1917 k1918=>?_)
               have S1919:=S1916.call k1918
               try clear S1916
               refine gF rfl rfl (cN (kR) fun w1920 k1921=>?_)
               have S1922:=S1919.call k1921
               try clear S1919
               refine p_pkF rfl (rfl:_=B false) (cN (kR) fun w1923 k1924=>?_)
               have S1925:=S1922.call k1924
               try clear S1922
               refine p_mB rfl (cN (kR) fun w1926 k1927=>?_)
               have S1928:=S1925.call k1927
               try clear S1925
               refine gF rfl rfl (cN (kR) fun w1929 k1930=>?_)
               have S1931:=S1928.call k1930
               try clear S1928
               refine gF rfl rfl (cN (kR) fun w1932 k1933=>?_)
               have S1934:=S1931.call k1933
               try clear S1931
               refine p_pkF rfl (rfl:_=B false) (cN (kR) fun w1935 k1936=>?_)
               have S1937:=S1934.call k1936
               try clear S1934
               refine p_mB rfl (cN (kR) fun w1938 k1939=>?_)
               have S1940:=S1937.call k1939
               try clear S1937
               refine gF rfl rfl (cN (kR) fun w1941 k1942=>?_)
               have S1943:=S1940.call k1942
               try clear S1940
               refine gF rfl rfl (cN (kR) fun w1944 k1945=>?_)
               have S1946:=S1943.call k1945
               try clear S1943
               refine p_pkF rfl (rfl:_=B false) (cN (kR) fun w1947 k1948=>?_)
               have S1949:=S1946.call k1948
               try clear S1946
               refine p_mB rfl (cN (kR) fun w1950 k1951=>?_)
               have S1952:=S1949.call k1951
               try clear S1949
               refine p_pkF rfl (rfl:_=B false) (cN (kR) fun w1953 k1954=>?_)
               have S1955:=S1952.call k1954
               try clear S1952
               refine p_mB rfl (cN (kR) fun w1956 k1957=>?_)
               have S1958:=S1955.call k1957
               try clear S1955
               refine gF rfl rfl (cN (kR) fun w1959 k1960=>?_)
               have S1961:=S1958.call k1960
               try clear S1958
               refine p_pkF rfl (rfl:_=B false) (cN (kR) fun w1962 k1963=>?_)
               have S1964:=S1961.call k1963
               try clear S1961
               refine p_aB rfl (cN (kR) fun w1965 k1966=>?_)
               have S1967:=S1964.call k1966
               try clear S1964
               refine wp_nil ?_
               have S1968:St w nF w1965 [] [rd eTallyCount 7 none 0 ([]:List TallyCount),gW0,gW1]:=S1967.pk [] (by decide) [2,3,4] rfl rfl
               try clear S1967
               obtain rfl:=sJ H
               exact c_ret (rT Tryd.f3 S1968.keep rfl rfl)
             ·replace H:=condF c744 H
              refine reg_c mixed 81 [55,56,57,58,59,60,61,62,63,64,65,66,67,68,69,70,71,72,73,74,75,76,77,78,79,80] (by kernel_rfl) ?_
              refine kS rfl (fun _ k_=>p_mI rfl dn)<|kS rfl (fun _ k_=>p_cmp rfl rfl rfl dn)<|kS rfl (fun _ k_=>p_mB rfl dn)<|kB c741<|kS rfl (fun _ k_=>gT rfl rfl (p_ldA ty33 sz33 (aS (S740.atX (i:=2) rfl) k_) rfl rfl dn))<|kS rfl (fun _ k_=>gT rfl rfl (p_cvD (B_Range_ok h743) fu16 rfl)) ?_
              refine kS rfl (fun _ k_=>gT rfl rfl (o_eqA (xs:=[I r571.1.Low,I r571.1.High]) (ys:=[I r742.Low,I r742.High]) (T:=((r571.1.Low==r742.Low)&&(r571.1.High==r742.High))) rfl rfl eq33 ⟨⟨_,rfl⟩,⟨⟨_,rfl⟩,trivial⟩⟩ ⟨⟨_,rfl⟩,⟨⟨_,rfl⟩,trivial⟩⟩ (by simp [Bool.and_eq_true,and_assoc]) dn))<|kS rfl (fun _ k_=>p_pkT rfl (rfl:_=B ((r571.1.Low==r742.Low)&&(r571.1.High==r742.High))) dn) ?_
              refine kS rfl (fun _ k_=>p_mB rfl dn)<|kB c744<|kS rfl (fun _ k_=>gF rfl rfl dnU)<|kS rfl (fun _ k_=>gF rfl rfl dnU)<|kS rfl (fun _ k_=>p_pkF rfl (rfl:_=B false) dn)<|kS rfl (fun _ k_=>p_mB rfl dn)<|kS rfl (fun _ k_=>gF rfl rfl dnU)<|kS rfl (fun _ k_=>gF rfl rfl dnU)<|kS rfl (fun _ k_=>gF rfl rfl dnU)<|kS rfl (fun _ k_=>p_pkF rfl (rfl:_=B false) dn)<|kS rfl (fun _ k_=>p_mB rfl dn) ?_
              refine kS rfl (fun _ k_=>gF rfl rfl dnU)<|kS rfl (fun _ k_=>gF rfl rfl dnU)<|kS rfl (fun _ k_=>p_pkF rfl (rfl:_=B false) dn)<|kS rfl (fun _ k_=>p_mB rfl dn)<|kS rfl (fun _ k_=>gF rfl rfl dnU)<|kS rfl (fun _ k_=>gF rfl rfl dnU)<|kS rfl (fun _ k_=>gF rfl rfl dnU)<|kS rfl (fun _ k_=>p_pkF rfl (rfl:_=B false) dn)<|kS rfl (fun _ k_=>p_mB rfl dn)<|kS rfl (fun _ k_=>gF rfl rfl dnU) ?_
              refine kS rfl (fun _ k_=>gF rfl rfl dnU)<|kS rfl (fun _ k_=>p_pkF rfl (rfl:_=B false) dn)<|kS rfl (fun _ k_=>p_mB rfl dn)<|kS rfl (fun _ k_=>gF rfl rfl dnU)<|kS rfl (fun _ k_=>gF rfl rfl dnU)<|kS rfl (fun _ k_=>p_pkF rfl (rfl:_=B false) dn)<|kS rfl (fun _ k_=>p_mB rfl dn)<|kS rfl (fun _ k_=>gF rfl rfl dnU)<|kS rfl (fun _ k_=>gF rfl rfl dnU)<|kS rfl (fun _ k_=>p_pkF rfl (rfl:_=B false) dn) ?_
              refine kS rfl (fun _ k_=>p_mB rfl dn)<|kS rfl (fun _ k_=>gF rfl rfl dnU)<|kS rfl (fun _ k_=>gF rfl rfl dnU)<|kS rfl (fun _ k_=>p_pkF rfl (rfl:_=B false) dn)<|kS rfl (fun _ k_=>p_mB rfl dn)<|kS rfl (fun _ k_=>gF rfl rfl dnU)<|kS rfl (fun _ k_=>gF rfl rfl dnU)<|kS rfl (fun _ k_=>p_pkF rfl (rfl:_=B false) dn)<|kS rfl (fun _ k_=>p_mB rfl dn)<|kS rfl (fun _ k_=>gF rfl rfl dnU) ?_
              refine kS rfl (fun _ k_=>gF rfl rfl dnU)<|kS rfl (fun _ k_=>p_pkF rfl (rfl:_=B false) dn)<|kS rfl (fun _ k_=>p_mB rfl dn)<|kS rfl (fun _ k_=>gF rfl rfl dnU)<|kS rfl (fun _ k_=>gF rfl rfl dnU)<|kS rfl (fun _ k_=>p_pkF rfl (rfl:_=B false) dn)<|kS rfl (fun _ k_=>p_mB rfl dn)<|kS rfl (fun _ k_=>gF rfl rfl dnU)<|kC rfl<|kC rfl<|kC rfl<|kC rfl<|kC rfl<|kC rfl<|kC rfl<|kC rfl<|kC rfl<|kC rfl<|kC rfl<|kC rfl<|kC rfl<|kC rfl<|kC rfl ?_
              refine kC rfl<|kC rfl<|kC rfl<|kC rfl<|kC rfl<|kC rfl<|kC rfl<|kC rfl<|kC rfl<|kC rfl<|kC rfl ?_
              intro w1969 k1970; have S1971:=S740.call k1970
              refine gF rfl rfl (cN (kR) fun w1972 k1973=>?_)
              have S1974:=S1971.call k1973
              try clear S1971
              refine gF rfl rfl (cN (kR) fun w1975 k1976=>?_)
              have S1977:=S1974.call k1976
              try clear S1974
              refine p_pkF rfl (rfl:_=B false) (cN (kR) fun w1978 k1979=>?_)
              have S1980:=S1977.call k1979
              try clear S1977
              refine p_mB rfl (cN (kR) fun w1981 k1982=>?_)
              have S1983:=S1980.call k1982
              try clear S1980
              refine gF rfl rfl (cN (kR) fun w1984 k1985=>?_)
              have S1986:=S1983.call k1985
              try clear S1983
              refine gF rfl rfl (cN (kR) fun w1987 k1988=>?_)
              have S1989:=S1986.call k1988
              try clear S1986
              refine p_pkF rfl (rfl:_=B false) (cN (kR) fun w1990 k1991=>?_)
              have S1992:=S1989.call k1991
              try clear S1989
              refine p_mB rfl (cN (kR) fun w1993 k1994=>?_)
              have S1995:=S1992.call k1994
              try clear S1992
              refine gF rfl rfl (cN (kR) fun w1996 k1997=>?_)
              have S1998:=S1995.call k1997
              try clear S1995
              refine gF rfl rfl (cN (kR) fun w1999 k2000=>?_)
              have S2001:=S1998.call k2000
              try clear S1998
              refine gF rfl rfl (cN (kR) fun w2002 k2003=>?_)
              have S2004:=S2001.call k2003
              try clear S2001
              refine p_pkF rfl (rfl:_=B false) (cN (kR) fun w2005 k2006=>?_)
              have S2007:=S2004.call k2006
              try clear S2004
              refine p_mB rfl (cN (kR) fun w2008 k2009=>?_)
              have S2010:=S2007.call k2009
              try clear S2007
              refine gF rfl rfl (cN (kR) fun w2011 k2012=>?_)
              have S2013:=S2010.call k2012
              try clear S2010
              refine gF rfl rfl (cN (kR) fun w2014 k2015=>?_)
              have S2016:=S2013.call k2015
              try clear S2013
              refine p_pkF rfl (rfl:_=B false) (cN (kR) fun w2017 k2018=>?_)
              have S2019:=S2016.call k2018
              try clear S2016
              refine p_mB rfl (cN (kR) fun w2020 k2021=>?_)
              have S2022:=S2019.call k2021
              try clear S2019
              refine gF rfl rfl (cN (kR) fun w2023 k2024=>?_)
              have S2025:=S2022.call k2024
              try clear S2022
              refine gF rfl rfl (cN (kR) fun w2026 k2027=>?_)
              have S2028:=S2025.call k2027
              try clear S2025
              refine p_pkF rfl (rfl:_=B false) (cN (kR) fun w2029 k2030=>?_)
              have S2031:=S2028.call k2030
              try clear S2028
              refine p_mB rfl (cN (kR) fun w2032 k2033=>?_)
              have S2034:=S2031.call k2033
              try clear S2031
              refine p_pkF rfl (rfl:_=B false) (cN (kR) fun w2035 k2036=>?_)
              have S2037:=S2034.call k2036
              try clear S2034
              refine p_mB rfl (cN (kR) fun w2038 k2039=>?_)
              have S2040:=S2037.call k2039
              try clear S2037
              refine gF rfl rfl (cN (kR) fun w2041 k2042=>?_)
              have S2043:=S2040.call k2042
              try clear S2040
              refine p_pkF rfl (rfl:_=B false) (cN (kR) fun w2044 k2045=>?_)
              have S2046:=S2043.call k2045
              try clear S2043
              refine p_aB rfl (cN (kR) fun w2047 k2048=>?_)
              have S2049:=S2046.call k2048
              try clear S2046
              refine wp_nil ?_
              have S2050:St w nF w2047 [] [rd eTallyCount 7 none 0 ([]:List TallyCount),gW0,gW1]:=S2049.pk [] (by decide) [2,3,4] rfl rfl
              try clear S2049
              obtain rfl:=sJ H
              exact c_ret (rT Tryd.f3 S2050.keep rfl rfl)
            ·replace H:=condF c741 H
             refine reg_c mixed 81 [55,56,57,58,59,60,61,62,63,64,65,66,67,68,69,70,71,72,73,74,75,76,77,78,79,80] (by kernel_rfl) ?_
             refine kS rfl (fun _ k_=>p_mI rfl dn)<|kS rfl (fun _ k_=>p_cmp rfl rfl rfl dn)<|kS rfl (fun _ k_=>p_mB rfl dn)<|kB c741<|kS rfl (fun _ k_=>gF rfl rfl dnU)<|kS rfl (fun _ k_=>gF rfl rfl dnU)<|kS rfl (fun _ k_=>gF rfl rfl dnU)<|kS rfl (fun _ k_=>p_pkF rfl (rfl:_=B false) dn)<|kS rfl (fun _ k_=>p_mB rfl dn)<|kS rfl (fun _ k_=>gF rfl rfl dnU)<|kS rfl (fun _ k_=>gF rfl rfl dnU) ?_
             refine kS rfl (fun _ k_=>p_pkF rfl (rfl:_=B false) dn)<|kS rfl (fun _ k_=>p_mB rfl dn)<|kS rfl (fun _ k_=>gF rfl rfl dnU)<|kS rfl (fun _ k_=>gF rfl rfl dnU)<|kS rfl (fun _ k_=>gF rfl rfl dnU)<|kS rfl (fun _ k_=>p_pkF rfl (rfl:_=B false) dn)<|kS rfl (fun _ k_=>p_mB rfl dn)<|kS rfl (fun _ k_=>gF rfl rfl dnU)<|kS rfl (fun _ k_=>gF rfl rfl dnU)<|kS rfl (fun _ k_=>p_pkF rfl (rfl:_=B false) dn) ?_
             refine kS rfl (fun _ k_=>p_mB rfl dn)<|kS rfl (fun _ k_=>gF rfl rfl dnU)<|kS rfl (fun _ k_=>gF rfl rfl dnU)<|kS rfl (fun _ k_=>gF rfl rfl dnU)<|kS rfl (fun _ k_=>p_pkF rfl (rfl:_=B false) dn)<|kS rfl (fun _ k_=>p_mB rfl dn)<|kS rfl (fun _ k_=>gF rfl rfl dnU)<|kS rfl (fun _ k_=>gF rfl rfl dnU)<|kS rfl (fun _ k_=>p_pkF rfl (rfl:_=B false) dn)<|kS rfl (fun _ k_=>p_mB rfl dn) ?_
             refine kS rfl (fun _ k_=>gF rfl rfl dnU)<|kS rfl (fun _ k_=>gF rfl rfl dnU)<|kS rfl (fun _ k_=>p_pkF rfl (rfl:_=B false) dn)<|kS rfl (fun _ k_=>p_mB rfl dn)<|kS rfl (fun _ k_=>gF rfl rfl dnU)<|kS rfl (fun _ k_=>gF rfl rfl dnU)<|kS rfl (fun _ k_=>p_pkF rfl (rfl:_=B false) dn)<|kS rfl (fun _ k_=>p_mB rfl dn)<|kS rfl (fun _ k_=>gF rfl rfl dnU)<|kS rfl (fun _ k_=>gF rfl rfl dnU) ?_
             refine kS rfl (fun _ k_=>p_pkF rfl (rfl:_=B false) dn)<|kS rfl (fun _ k_=>p_mB rfl dn)<|kS rfl (fun _ k_=>gF rfl rfl dnU)<|kS rfl (fun _ k_=>gF rfl rfl dnU)<|kS rfl (fun _ k_=>p_pkF rfl (rfl:_=B false) dn)<|kS rfl (fun _ k_=>p_mB rfl dn)<|kS rfl (fun _ k_=>gF rfl rfl dnU)<|kS rfl (fun _ k_=>gF rfl rfl dnU)<|kS rfl (fun _ k_=>p_pkF rfl (rfl:_=B false) dn)<|kS rfl (fun _ k_=>p_mB rfl dn) ?_
             refine kS rfl (fun _ k_=>gF rfl rfl dnU)<|kS rfl (fun _ k_=>gF rfl rfl dnU)<|kS rfl (fun _ k_=>p_pkF rfl (rfl:_=B false) dn)<|kS rfl (fun _ k_=>p_mB rfl dn)<|kS rfl (fun _ k_=>gF rfl rfl dnU)<|kC rfl<|kC rfl<|kC rfl<|kC rfl<|kC rfl<|kC rfl<|kC rfl<|kC rfl<|kC rfl<|kC rfl<|kC rfl<|kC rfl<|kC rfl<|kC rfl<|kC rfl<|kC rfl<|kC rfl<|kC rfl<|kC rfl<|kC rfl<|kC rfl<|kC rfl<|kC rfl<|kC rfl<|kC rfl<|kC rfl ?_
             intro w2051 k2052; have S2053:=S740.call k2052
             try clear S740
             refine gF rfl rfl (cN (kR) fun w2054 k2055=>?_)
             have S2056:=S2053.call k2055
             try clear S2053
             refine gF rfl rfl (cN (kR) fun w2057 k2058=>?_)
             have S2059:=S2056.call k2058
             try clear S2056
             refine p_pkF rfl (rfl:_=B false) (cN (kR) fun w2060 k2061=>?_)
             have S2062:=S2059.call k2061
             try clear S2059
             refine p_mB rfl (cN (kR) fun w2063 k2064=>?_)
             have S2065:=S2062.call k2064
             try clear S2062
             refine gF rfl rfl (cN (kR) fun w2066 k2067=>?_)
             have S2068:=S2065.call k2067
             try clear S2065
             refine gF rfl rfl (cN (kR) fun w2069 k2070=>?_)
             have S2071:=S2068.call k2070
             try clear S2068
             refine p_pkF rfl (rfl:_=B false) (cN (kR) fun w2072 k2073=>?_)
             have S2074:=S2071.call k2073
             try clear S2071
             refine p_mB rfl (cN (kR) fun w2075 k2076=>?_)
             have S2077:=S2074.call k2076
             try clear S2074
             refine gF rfl rfl (cN (kR) fun w2078 k2079=>?_)
             have S2080:=S2077.call k2079
             try clear S2077
             refine gF rfl rfl (cN (kR) fun w2081 k2082=>?_)
             have S2083:=S2080.call k2082
             try clear S2080
             refine gF rfl rfl (cN (kR) fun w2084 k2085=>?_)
             have S2086:=S2083.call k2085
             try clear S2083
             refine p_pkF rfl (rfl:_=B false) (cN (kR) fun w2087 k2088=>?_)
             have S2089:=S2086.call k2088
             try clear S2086
             refine p_mB rfl (cN (kR) fun w2090 k2091=>?_)
             have S2092:=S2089.call k2091
             try clear S2089
             refine gF rfl rfl (cN (kR) fun w2093 k2094=>?_)
             have S2095:=S2092.call k2094
             try clear S2092
             refine gF rfl rfl (cN (kR) fun w2096 k2097=>?_)
             have S2098:=S2095.call k2097
             try clear S2095
             refine p_pkF rfl (rfl:_=B false) (cN (kR) fun w2099 k2100=>?_)
             have S2101:=S2098.call k2100
             try clear S2098
             refine p_mB rfl (cN (kR) fun w2102 k2103=>?_)
             have S2104:=S2101.call k2103
             try clear S2101
             refine gF rfl rfl (cN (kR) fun w2105 k2106=>?_)
             have S2107:=S2104.call k2106
             try clear S2104
             refine gF rfl rfl (cN (kR) fun w2108 k2109=>?_)
             have S2110:=S2107.call k2109
             try clear S2107
             refine p_pkF rfl (rfl:_=B false) (cN (kR) fun w2111 k2112=>?_)
             have S2113:=S2110.call k2112
             try clear S2110
             refine p_mB rfl (cN (kR) fun w2114 k2115=>?_)
             have S2116:=S2113.call k2115
             try clear S2113
             refine p_pkF rfl (rfl:_=B false) (cN (kR) fun w2117 k2118=>?_)
             have S2119:=S2116.call k2118
             try clear S2116
             refine p_mB rfl (cN (kR) fun w2120 k2121=>?_)
             have S2122:=S2119.call k2121
             try clear S2119
             refine gF rfl rfl (cN (kR) fun w2123 k2124=>?_)
             have S2125:=S2122.call k2124
             try clear S2122
             refine p_pkF rfl (rfl:_=B false) (cN (kR) fun w2126 k2127=>?_)
             have S2128:=S2125.call k2127
             try clear S2125
             refine p_aB rfl (cN (kR) fun w2129 k2130=>?_)
             have S2131:=S2128.call k2130
             try clear S2128
             refine wp_nil ?_
             have S2132:St w nF w2129 [] [rd eTallyCount 7 none 0 ([]:List TallyCount),gW0,gW1]:=S2131.pk [] (by decide) [2,3,4] rfl rfl
             try clear S2131
             obtain rfl:=sJ H
             exact c_ret (rT Tryd.f3 S2132.keep rfl rfl)
end Go.Proofs.YthimckediigcoaaDoor