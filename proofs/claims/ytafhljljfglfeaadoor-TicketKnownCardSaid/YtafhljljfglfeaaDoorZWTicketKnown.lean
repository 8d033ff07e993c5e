/- What the law's function computes, and that it does, printed by a program of mine. -/
import Derived.Test.YtafhljljfglfeaaDoorZGWArgs
import Derived.KernelRfl
set_option linter.unusedVariables false
set_option linter.unusedSimpArgs false
namespace Go.Proofs.YtafhljljfglfeaaDoor
open Go Go.Fx Go.Proofs
theorem nH {p:Prop} (h:(some false:Option Bool)=some true):p:=by cases h
def law_TicketKnown_l2 (r4:TicketBook) (r35:TicketBook) (r66:TicketBook) (r97:TicketBook) (r128:TicketBook) (r159:TicketBook) (r388:TicketShow) (r190:TicketBook) (r396:TicketShow) (r221:TicketBook) (r404:TicketShow) (r252:TicketBook) (r412:TicketBox) (r283:TicketBook) (r420:TicketBox) (r314:TicketBook) (rec_z_1:Int→Option Bool) (z_1:Int):Option Bool:=
 bif decide (z_1 < ([(TicketBook.mk (TallyBook.mk 0 0 ([]:List TallyCount)) 0 ([]:List TicketSeason) ([]:List TicketShow) ([]:List TicketBox)),(TicketBook.mk (TallyBook.mk 4 r4.Tally.Room r4.Tally.Counts) r4.Fare r4.Tickets r4.Shows r4.Boxes),(TicketBook.mk (TallyBook.mk r35.Tally.Trips 6 r35.Tally.Counts) r35.Fare r35.Tickets r35.Shows r35.Boxes),(TicketBook.mk r66.Tally 0 r66.Tickets r66.Shows r66.Boxes),(TicketBook.mk r97.Tally r97.Fare (r97.Tickets.set (1:Int).toNat (TicketSeason.mk 1 0)) r97.Shows r97.Boxes),(TicketBook.mk r128.Tally r128.Fare (r128.Tickets++([(TicketSeason.mk 0 0)]:List TicketSeason)) r128.Shows r128.Boxes),(TicketBook.mk r159.Tally r159.Fare r159.Tickets (r159.Shows.set (0:Int).toNat (TicketShow.mk 2 r388.Ticket r388.Walker)) r159.Boxes),(TicketBook.mk r190.Tally r190.Fare r190.Tickets (r190.Shows.set (0:Int).toNat (TicketShow.mk r396.Trip 3 r396.Walker)) r190.Boxes),(TicketBook.mk r221.Tally r221.Fare r221.Tickets (r221.Shows.set (0:Int).toNat (TicketShow.mk r404.Trip r404.Ticket 10)) r221.Boxes),(TicketBook.mk r252.Tally r252.Fare r252.Tickets r252.Shows (r252.Boxes.set (0:Int).toNat (TicketBox.mk r412.From 2 r412.Pence r412.Lost))),(TicketBook.mk r283.Tally r283.Fare r283.Tickets r283.Shows (r283.Boxes.set (0:Int).toNat (TicketBox.mk r420.From r420.To r420.Pence 41))),(TicketBook.mk r314.Tally r314.Fare r314.Tickets (List.replicate 6 (TicketShow.mk 0 0 0)) r314.Boxes)].length:Int)) then ((getI [(TicketBook.mk (TallyBook.mk 0 0 ([]:List TallyCount)) 0 ([]:List TicketSeason) ([]:List TicketShow) ([]:List TicketBox)),(TicketBook.mk (TallyBook.mk 4 r4.Tally.Room r4.Tally.Counts) r4.Fare r4.Tickets r4.Shows r4.Boxes),(TicketBook.mk (TallyBook.mk r35.Tally.Trips 6 r35.Tally.Counts) r35.Fare r35.Tickets r35.Shows r35.Boxes),(TicketBook.mk r66.Tally 0 r66.Tickets r66.Shows r66.Boxes),(TicketBook.mk r97.Tally r97.Fare (r97.Tickets.set (1:Int).toNat (TicketSeason.mk 1 0)) r97.Shows r97.Boxes),(TicketBook.mk r128.Tally r128.Fare (r128.Tickets++([(TicketSeason.mk 0 0)]:List TicketSeason)) r128.Shows r128.Boxes),(TicketBook.mk r159.Tally r159.Fare r159.Tickets (r159.Shows.set (0:Int).toNat (TicketShow.mk 2 r388.Ticket r388.Walker)) r159.Boxes),(TicketBook.mk r190.Tally r190.Fare r190.Tickets (r190.Shows.set (0:Int).toNat (TicketShow.mk r396.Trip 3 r396.Walker)) r190.Boxes),(TicketBook.mk r221.Tally r221.Fare r221.Tickets (r221.Shows.set (0:Int).toNat (TicketShow.mk r404.Trip r404.Ticket 10)) r221.Boxes),(TicketBook.mk r252.Tally r252.Fare r252.Tickets r252.Shows (r252.Boxes.set (0:Int).toNat (TicketBox.mk r412.From 2 r412.Pence r412.Lost))),(TicketBook.mk r283.Tally r283.Fare r283.Tickets r283.Shows (r283.Boxes.set (0:Int).toNat (TicketBox.mk r420.From r420.To r420.Pence 41))),(TicketBook.mk r314.Tally r314.Fare r314.Tickets (List.replicate 6 (TicketShow.mk 0 0 0)) r314.Boxes)] z_1).bind fun r503=>
 (ticket_Right r503).bind fun r511=>
 (getI [(TicketBook.mk (TallyBook.mk 0 0 ([]:List TallyCount)) 0 ([]:List TicketSeason) ([]:List TicketShow) ([]:List TicketBox)),(TicketBook.mk (TallyBook.mk 4 r4.Tally.Room r4.Tally.Counts) r4.Fare r4.Tickets r4.Shows r4.Boxes),(TicketBook.mk (TallyBook.mk r35.Tally.Trips 6 r35.Tally.Counts) r35.Fare r35.Tickets r35.Shows r35.Boxes),(TicketBook.mk r66.Tally 0 r66.Tickets r66.Shows r66.Boxes),(TicketBook.mk r97.Tally r97.Fare (r97.Tickets.set (1:Int).toNat (TicketSeason.mk 1 0)) r97.Shows r97.Boxes),(TicketBook.mk r128.Tally r128.Fare (r128.Tickets++([(TicketSeason.mk 0 0)]:List TicketSeason)) r128.Shows r128.Boxes),(TicketBook.mk r159.Tally r159.Fare r159.Tickets (r159.Shows.set (0:Int).toNat (TicketShow.mk 2 r388.Ticket r388.Walker)) r159.Boxes),(TicketBook.mk r190.Tally r190.Fare r190.Tickets (r190.Shows.set (0:Int).toNat (TicketShow.mk r396.Trip 3 r396.Walker)) r190.Boxes),(TicketBook.mk r221.Tally r221.Fare r221.Tickets (r221.Shows.set (0:Int).toNat (TicketShow.mk r404.Trip r404.Ticket 10)) r221.Boxes),(TicketBook.mk r252.Tally r252.Fare r252.Tickets r252.Shows (r252.Boxes.set (0:Int).toNat (TicketBox.mk r412.From 2 r412.Pence r412.Lost))),(TicketBook.mk r283.Tally r283.Fare r283.Tickets r283.Shows (r283.Boxes.set (0:Int).toNat (TicketBox.mk r420.From r420.To r420.Pence 41))),(TicketBook.mk r314.Tally r314.Fare r314.Tickets (List.replicate 6 (TicketShow.mk 0 0 0)) r314.Boxes)] z_1).bind fun r515=>
 (ticket_Paid r515 (-1) 0).bind fun r523=>
 (getI [(TicketBook.mk (TallyBook.mk 0 0 ([]:List TallyCount)) 0 ([]:List TicketSeason) ([]:List TicketShow) ([]:List TicketBox)),(TicketBook.mk (TallyBook.mk 4 r4.Tally.Room r4.Tally.Counts) r4.Fare r4.Tickets r4.Shows r4.Boxes),(TicketBook.mk (TallyBook.mk r35.Tally.Trips 6 r35.Tally.Counts) r35.Fare r35.Tickets r35.Shows r35.Boxes),(TicketBook.mk r66.Tally 0 r66.Tickets r66.Shows r66.Boxes),(TicketBook.mk r97.Tally r97.Fare (r97.Tickets.set (1:Int).toNat (TicketSeason.mk 1 0)) r97.Shows r97.Boxes),(TicketBook.mk r128.Tally r128.Fare (r128.Tickets++([(TicketSeason.mk 0 0)]:List TicketSeason)) r128.Shows r128.Boxes),(TicketBook.mk r159.Tally r159.Fare r159.Tickets (r159.Shows.set (0:Int).toNat (TicketShow.mk 2 r388.Ticket r388.Walker)) r159.Boxes),(TicketBook.mk r190.Tally r190.Fare r190.Tickets (r190.Shows.set (0:Int).toNat (TicketShow.mk r396.Trip 3 r396.Walker)) r190.Boxes),(TicketBook.mk r221.Tally r221.Fare r221.Tickets (r221.Shows.set (0:Int).toNat (TicketShow.mk r404.Trip r404.Ticket 10)) r221.Boxes),(TicketBook.mk r252.Tally r252.Fare r252.Tickets r252.Shows (r252.Boxes.set (0:Int).toNat (TicketBox.mk r412.From 2 r412.Pence r412.Lost))),(TicketBook.mk r283.Tally r283.Fare r283.Tickets r283.Shows (r283.Boxes.set (0:Int).toNat (TicketBox.mk r420.From r420.To r420.Pence 41))),(TicketBook.mk r314.Tally r314.Fare r314.Tickets (List.replicate 6 (TicketShow.mk 0 0 0)) r314.Boxes)] z_1).bind fun r532=>
 (ticket_Saved r532 (-1)).bind fun r540=>
 (getI [(TicketBook.mk (TallyBook.mk 0 0 ([]:List TallyCount)) 0 ([]:List TicketSeason) ([]:List TicketShow) ([]:List TicketBox)),(TicketBook.mk (TallyBook.mk 4 r4.Tally.Room r4.Tally.Counts) r4.Fare r4.Tickets r4.Shows r4.Boxes),(TicketBook.mk (TallyBook.mk r35.Tally.Trips 6 r35.Tally.Counts) r35.Fare r35.Tickets r35.Shows r35.Boxes),(TicketBook.mk r66.Tally 0 r66.Tickets r66.Shows r66.Boxes),(TicketBook.mk r97.Tally r97.Fare (r97.Tickets.set (1:Int).toNat (TicketSeason.mk 1 0)) r97.Shows r97.Boxes),(TicketBook.mk r128.Tally r128.Fare (r128.Tickets++([(TicketSeason.mk 0 0)]:List TicketSeason)) r128.Shows r128.Boxes),(TicketBook.mk r159.Tally r159.Fare r159.Tickets (r159.Shows.set (0:Int).toNat (TicketShow.mk 2 r388.Ticket r388.Walker)) r159.Boxes),(TicketBook.mk r190.Tally r190.Fare r190.Tickets (r190.Shows.set (0:Int).toNat (TicketShow.mk r396.Trip 3 r396.Walker)) r190.Boxes),(TicketBook.mk r221.Tally r221.Fare r221.Tickets (r221.Shows.set (0:Int).toNat (TicketShow.mk r404.Trip r404.Ticket 10)) r221.Boxes),(TicketBook.mk r252.Tally r252.Fare r252.Tickets r252.Shows (r252.Boxes.set (0:Int).toNat (TicketBox.mk r412.From 2 r412.Pence r412.Lost))),(TicketBook.mk r283.Tally r283.Fare r283.Tickets r283.Shows (r283.Boxes.set (0:Int).toNat (TicketBox.mk r420.From r420.To r420.Pence 41))),(TicketBook.mk r314.Tally r314.Fare r314.Tickets (List.replicate 6 (TicketShow.mk 0 0 0)) r314.Boxes)] z_1).bind fun r549=>
 (ticket_Must r549 (-1)).bind fun r557=>
 (getI [(TicketBook.mk (TallyBook.mk 0 0 ([]:List TallyCount)) 0 ([]:List TicketSeason) ([]:List TicketShow) ([]:List TicketBox)),(TicketBook.mk (TallyBook.mk 4 r4.Tally.Room r4.Tally.Counts) r4.Fare r4.Tickets r4.Shows r4.Boxes),(TicketBook.mk (TallyBook.mk r35.Tally.Trips 6 r35.Tally.Counts) r35.Fare r35.Tickets r35.Shows r35.Boxes),(TicketBook.mk r66.Tally 0 r66.Tickets r66.Shows r66.Boxes),(TicketBook.mk r97.Tally r97.Fare (r97.Tickets.set (1:Int).toNat (TicketSeason.mk 1 0)) r97.Shows r97.Boxes),(TicketBook.mk r128.Tally r128.Fare (r128.Tickets++([(TicketSeason.mk 0 0)]:List TicketSeason)) r128.Shows r128.Boxes),(TicketBook.mk r159.Tally r159.Fare r159.Tickets (r159.Shows.set (0:Int).toNat (TicketShow.mk 2 r388.Ticket r388.Walker)) r159.Boxes),(TicketBook.mk r190.Tally r190.Fare r190.Tickets (r190.Shows.set (0:Int).toNat (TicketShow.mk r396.Trip 3 r396.Walker)) r190.Boxes),(TicketBook.mk r221.Tally r221.Fare r221.Tickets (r221.Shows.set (0:Int).toNat (TicketShow.mk r404.Trip r404.Ticket 10)) r221.Boxes),(TicketBook.mk r252.Tally r252.Fare r252.Tickets r252.Shows (r252.Boxes.set (0:Int).toNat (TicketBox.mk r412.From 2 r412.Pence r412.Lost))),(TicketBook.mk r283.Tally r283.Fare r283.Tickets r283.Shows (r283.Boxes.set (0:Int).toNat (TicketBox.mk r420.From r420.To r420.Pence 41))),(TicketBook.mk r314.Tally r314.Fare r314.Tickets (List.replicate 6 (TicketShow.mk 0 0 0)) r314.Boxes)] z_1).bind fun r566=>
 (ticket_May r566 (-1)).bind fun r574=>
 (getI [(TicketBook.mk (TallyBook.mk 0 0 ([]:List TallyCount)) 0 ([]:List TicketSeason) ([]:List TicketShow) ([]:List TicketBox)),(TicketBook.mk (TallyBook.mk 4 r4.Tally.Room r4.Tally.Counts) r4.Fare r4.Tickets r4.Shows r4.Boxes),(TicketBook.mk (TallyBook.mk r35.Tally.Trips 6 r35.Tally.Counts) r35.Fare r35.Tickets r35.Shows r35.Boxes),(TicketBook.mk r66.Tally 0 r66.Tickets r66.Shows r66.Boxes),(TicketBook.mk r97.Tally r97.Fare (r97.Tickets.set (1:Int).toNat (TicketSeason.mk 1 0)) r97.Shows r97.Boxes),(TicketBook.mk r128.Tally r128.Fare (r128.Tickets++([(TicketSeason.mk 0 0)]:List TicketSeason)) r128.Shows r128.Boxes),(TicketBook.mk r159.Tally r159.Fare r159.Tickets (r159.Shows.set (0:Int).toNat (TicketShow.mk 2 r388.Ticket r388.Walker)) r159.Boxes),(TicketBook.mk r190.Tally r190.Fare r190.Tickets (r190.Shows.set (0:Int).toNat (TicketShow.mk r396.Trip 3 r396.Walker)) r190.Boxes),(TicketBook.mk r221.Tally r221.Fare r221.Tickets (r221.Shows.set (0:Int).toNat (TicketShow.mk r404.Trip r404.Ticket 10)) r221.Boxes),(TicketBook.mk r252.Tally r252.Fare r252.Tickets r252.Shows (r252.Boxes.set (0:Int).toNat (TicketBox.mk r412.From 2 r412.Pence r412.Lost))),(TicketBook.mk r283.Tally r283.Fare r283.Tickets r283.Shows (r283.Boxes.set (0:Int).toNat (TicketBox.mk r420.From r420.To r420.Pence 41))),(TicketBook.mk r314.Tally r314.Fare r314.Tickets (List.replicate 6 (TicketShow.mk 0 0 0)) r314.Boxes)] z_1).bind fun r583=>
 (ticket_Clash r583).bind fun r591=>
 (getI [(TicketBook.mk (TallyBook.mk 0 0 ([]:List TallyCount)) 0 ([]:List TicketSeason) ([]:List TicketShow) ([]:List TicketBox)),(TicketBook.mk (TallyBook.mk 4 r4.Tally.Room r4.Tally.Counts) r4.Fare r4.Tickets r4.Shows r4.Boxes),(TicketBook.mk (TallyBook.mk r35.Tally.Trips 6 r35.Tally.Counts) r35.Fare r35.Tickets r35.Shows r35.Boxes),(TicketBook.mk r66.Tally 0 r66.Tickets r66.Shows r66.Boxes),(TicketBook.mk r97.Tally r97.Fare (r97.Tickets.set (1:Int).toNat (TicketSeason.mk 1 0)) r97.Shows r97.Boxes),(TicketBook.mk r128.Tally r128.Fare (r128.Tickets++([(TicketSeason.mk 0 0)]:List TicketSeason)) r128.Shows r128.Boxes),(TicketBook.mk r159.Tally r159.Fare r159.Tickets (r159.Shows.set (0:Int).toNat (TicketShow.mk 2 r388.Ticket r388.Walker)) r159.Boxes),(TicketBook.mk r190.Tally r190.Fare r190.Tickets (r190.Shows.set (0:Int).toNat (TicketShow.mk r396.Trip 3 r396.Walker)) r190.Boxes),(TicketBook.mk r221.Tally r221.Fare r221.Tickets (r221.Shows.set (0:Int).toNat (TicketShow.mk r404.Trip r404.Ticket 10)) r221.Boxes),(TicketBook.mk r252.Tally r252.Fare r252.Tickets r252.Shows (r252.Boxes.set (0:Int).toNat (TicketBox.mk r412.From 2 r412.Pence r412.Lost))),(TicketBook.mk r283.Tally r283.Fare r283.Tickets r283.Shows (r283.Boxes.set (0:Int).toNat (TicketBox.mk r420.From r420.To r420.Pence 41))),(TicketBook.mk r314.Tally r314.Fare r314.Tickets (List.replicate 6 (TicketShow.mk 0 0 0)) r314.Boxes)] z_1).bind fun r595=>
 (ticket_Lent r595).bind fun r603=>
 (getI [(TicketBook.mk (TallyBook.mk 0 0 ([]:List TallyCount)) 0 ([]:List TicketSeason) ([]:List TicketShow) ([]:List TicketBox)),(TicketBook.mk (TallyBook.mk 4 r4.Tally.Room r4.Tally.Counts) r4.Fare r4.Tickets r4.Shows r4.Boxes),(TicketBook.mk (TallyBook.mk r35.Tally.Trips 6 r35.Tally.Counts) r35.Fare r35.Tickets r35.Shows r35.Boxes),(TicketBook.mk r66.Tally 0 r66.Tickets r66.Shows r66.Boxes),(TicketBook.mk r97.Tally r97.Fare (r97.Tickets.set (1:Int).toNat (TicketSeason.mk 1 0)) r97.Shows r97.Boxes),(TicketBook.mk r128.Tally r128.Fare (r128.Tickets++([(TicketSeason.mk 0 0)]:List TicketSeason)) r128.Shows r128.Boxes),(TicketBook.mk r159.Tally r159.Fare r159.Tickets (r159.Shows.set (0:Int).toNat (TicketShow.mk 2 r388.Ticket r388.Walker)) r159.Boxes),(TicketBook.mk r190.Tally r190.Fare r190.Tickets (r190.Shows.set (0:Int).toNat (TicketShow.mk r396.Trip 3 r396.Walker)) r190.Boxes),(TicketBook.mk r221.Tally r221.Fare r221.Tickets (r221.Shows.set (0:Int).toNat (TicketShow.mk r404.Trip r404.Ticket 10)) r221.Boxes),(TicketBook.mk r252.Tally r252.Fare r252.Tickets r252.Shows (r252.Boxes.set (0:Int).toNat (TicketBox.mk r412.From 2 r412.Pence r412.Lost))),(TicketBook.mk r283.Tally r283.Fare r283.Tickets r283.Shows (r283.Boxes.set (0:Int).toNat (TicketBox.mk r420.From r420.To r420.Pence 41))),(TicketBook.mk r314.Tally r314.Fare r314.Tickets (List.replicate 6 (TicketShow.mk 0 0 0)) r314.Boxes)] z_1).bind fun r612=>
 (ticket_Fits r612 (TicketBox.mk (-1) 0 0 0)).bind fun r620=>
 (getI [(TicketBook.mk (TallyBook.mk 0 0 ([]:List TallyCount)) 0 ([]:List TicketSeason) ([]:List TicketShow) ([]:List TicketBox)),(TicketBook.mk (TallyBook.mk 4 r4.Tally.Room r4.Tally.Counts) r4.Fare r4.Tickets r4.Shows r4.Boxes),(TicketBook.mk (TallyBook.mk r35.Tally.Trips 6 r35.Tally.Counts) r35.Fare r35.Tickets r35.Shows r35.Boxes),(TicketBook.mk r66.Tally 0 r66.Tickets r66.Shows r66.Boxes),(TicketBook.mk r97.Tally r97.Fare (r97.Tickets.set (1:Int).toNat (TicketSeason.mk 1 0)) r97.Shows r97.Boxes),(TicketBook.mk r128.Tally r128.Fare (r128.Tickets++([(TicketSeason.mk 0 0)]:List TicketSeason)) r128.Shows r128.Boxes),(TicketBook.mk r159.Tally r159.Fare r159.Tickets (r159.Shows.set (0:Int).toNat (TicketShow.mk 2 r388.Ticket r388.Walker)) r159.Boxes),(TicketBook.mk r190.Tally r190.Fare r190.Tickets (r190.Shows.set (0:Int).toNat (TicketShow.mk r396.Trip 3 r396.Walker)) r190.Boxes),(TicketBook.mk r221.Tally r221.Fare r221.Tickets (r221.Shows.set (0:Int).toNat (TicketShow.mk r404.Trip r404.Ticket 10)) r221.Boxes),(TicketBook.mk r252.Tally r252.Fare r252.Tickets r252.Shows (r252.Boxes.set (0:Int).toNat (TicketBox.mk r412.From 2 r412.Pence r412.Lost))),(TicketBook.mk r283.Tally r283.Fare r283.Tickets r283.Shows (r283.Boxes.set (0:Int).toNat (TicketBox.mk r420.From r420.To r420.Pence 41))),(TicketBook.mk r314.Tally r314.Fare r314.Tickets (List.replicate 6 (TicketShow.mk 0 0 0)) r314.Boxes)] z_1).bind fun r624=>
 (ticket_Wrong r624).bind fun r632=>
 (getI [(TicketBook.mk (TallyBook.mk 0 0 ([]:List TallyCount)) 0 ([]:List TicketSeason) ([]:List TicketShow) ([]:List TicketBox)),(TicketBook.mk (TallyBook.mk 4 r4.Tally.Room r4.Tally.Counts) r4.Fare r4.Tickets r4.Shows r4.Boxes),(TicketBook.mk (TallyBook.mk r35.Tally.Trips 6 r35.Tally.Counts) r35.Fare r35.Tickets r35.Shows r35.Boxes),(TicketBook.mk r66.Tally 0 r66.Tickets r66.Shows r66.Boxes),(TicketBook.mk r97.Tally r97.Fare (r97.Tickets.set (1:Int).toNat (TicketSeason.mk 1 0)) r97.Shows r97.Boxes),(TicketBook.mk r128.Tally r128.Fare (r128.Tickets++([(TicketSeason.mk 0 0)]:List TicketSeason)) r128.Shows r128.Boxes),(TicketBook.mk r159.Tally r159.Fare r159.Tickets (r159.Shows.set (0:Int).toNat (TicketShow.mk 2 r388.Ticket r388.Walker)) r159.Boxes),(TicketBook.mk r190.Tally r190.Fare r190.Tickets (r190.Shows.set (0:Int).toNat (TicketShow.mk r396.Trip 3 r396.Walker)) r190.Boxes),(TicketBook.mk r221.Tally r221.Fare r221.Tickets (r221.Shows.set (0:Int).toNat (TicketShow.mk r404.Trip r404.Ticket 10)) r221.Boxes),(TicketBook.mk r252.Tally r252.Fare r252.Tickets r252.Shows (r252.Boxes.set (0:Int).toNat (TicketBox.mk r412.From 2 r412.Pence r412.Lost))),(TicketBook.mk r283.Tally r283.Fare r283.Tickets r283.Shows (r283.Boxes.set (0:Int).toNat (TicketBox.mk r420.From r420.To r420.Pence 41))),(TicketBook.mk r314.Tally r314.Fare r314.Tickets (List.replicate 6 (TicketShow.mk 0 0 0)) r314.Boxes)] z_1).bind fun r641=>
 (ticket_Check r641).bind fun r649=>
 bif (r649 != 100) then (some false)
 else (bif (r511.2 != 100) then (some false)
 else (bif (r523.2 != 100) then (some false)
 else (bif (r540.2 != 100) then (some false)
 else (bif (r557.2 != 100) then (some false)
 else (bif (r574.2 != 100) then (some false)
 else (bif (r591.2.2 != 100) then (some false)
 else (bif (r603.2 != 100) then (some false)
 else (bif (r620.2 != 100) then (some false)
 else (bif (r632.2 != 100) then (some false)
 else (rec_z_1 (wr (z_1+1)))))))))))))
 else ((law_double).bind fun r675=>
 (ticket_Paid r675 1 0).bind fun r706=>
 (law_double).bind fun r716=>
 (ticket_Saved r716 3).bind fun r747=>
 (law_double).bind fun r757=>
 (ticket_Must r757 2).bind fun r788=>
 (law_double).bind fun r798=>
 (ticket_May r798 (-1)).bind fun r829=>
 (law_double).bind fun r838=>
 (ticket_Fits r838 (TicketBox.mk 1 0 0 0)).bind fun r869=>
 (law_double).bind fun r873=>
 (ticket_Paid r873 0 0).bind fun r904=>
 (law_double).bind fun r914=>
 (ticket_Lent r914).bind fun r945=>
 (law_robbed).bind fun r954=>
 (ticket_Fits r954 (TicketBox.mk 0 0 0 0)).bind fun r985=>
 (law_own).bind fun r989=>
 (ticket_Clash r989).bind fun r1020=>
 (law_own).bind fun r1025=>
 need (fitsL (r1025.Tally.Counts.length+([(TallyCount.mk 0 0 0 1 1 0 0)]:List TallyCount).length) 56)<|
 (ticket_Wrong (TicketBook.mk (TallyBook.mk r1025.Tally.Trips r1025.Tally.Room (r1025.Tally.Counts++([(TallyCount.mk 0 0 0 1 1 0 0)]:List TallyCount))) r1025.Fare r1025.Tickets r1025.Shows r1025.Boxes)).bind fun r1078=>
 bif (r706.2 != 101) then (some false)
 else (bif (r747.2 != 101) then (some false)
 else (bif (r788.2 != 101) then (some false)
 else (bif (r829.2 != 101) then (some false)
 else (bif (r869.2 != 101) then (some false)
 else (bif (r904.2 != 102) then (some false)
 else (bif (r945.2 != 102) then (some false)
 else (bif (r985.2 != 102) then (some false)
 else (bif (r1020.2.2 != 4) then (some false)
 else (bif (r1078.2 != 102) then (some false)
 else ((law_own).bind fun r1109=>
 (ticket_Paid r1109 0 0).bind fun r1140=>
 (law_own).bind fun r1150=>
 (ticket_Paid r1150 1 1).bind fun r1181=>
 (law_own).bind fun r1190=>
 (ticket_Saved r1190 1).bind fun r1221=>
 (law_own).bind fun r1230=>
 (ticket_Saved r1230 2).bind fun r1261=>
 (law_own).bind fun r1271=>
 (ticket_May r1271 0).bind fun r1302=>
 (law_own).bind fun r1311=>
 (ticket_Must r1311 1).bind fun r1342=>
 (law_own).bind fun r1351=>
 (ticket_Fits r1351 (TicketBox.mk 0 1 9 0)).bind fun r1382=>
 (law_own).bind fun r1386=>
 (ticket_Fits r1386 (TicketBox.mk 0 1 9 1)).bind fun r1417=>
 (law_double).bind fun r1422=>
 (ticket_Wrong r1422).bind fun r1458=>
 (law_own).bind fun r1467=>
 (ticket_Wrong r1467).bind fun r1503=>
 (law_double).bind fun r1512=>
 (ticket_Right r1512).bind fun r1543=>
 bif (r1140.2==0) then ((B_Point 2).bind fun r1552=>
 bif ((r1140.1.Low==r1552.Low)&&(r1140.1.High==r1552.High)) then (bif (r1181.2==0) then ((B_Range 2 3).bind fun r1572=>
 bif ((r1181.1.Low==r1572.Low)&&(r1181.1.High==r1572.High)) then (bif (r1221.2==0) then ((B_Range 0 1).bind fun r1592=>
 bif ((r1221.1.Low==r1592.Low)&&(r1221.1.High==r1592.High)) then (bif (r1261.2==0) then ((B_Range 0 1).bind fun r1612=>
 bif ((r1261.1.Low==r1612.Low)&&(r1261.1.High==r1612.High)) then (bif (r1302.2==0) then ((B_Alike r1302.1 [0,1]).bind fun r1642=>
 bif r1642 then (bif (r1342.2==0) then ((B_Alike r1342.1 ([0]:List Int)).bind fun r1669=>
 bif r1669 then (bif (r1382.2==0) then (bif !r1382.1 then (bif (r1417.2==0) then (bif r1417.1 then (bif (r1458.2==0) then ((B_Alike r1458.1 ([0]:List Int)).bind fun r1722=>
 bif r1722 then (bif (r1503.2==0) then (bif ((r1503.1.length:Int)==0) then (bif (r1543.2==0) then (bif !r1543.1 then ((law_punched).bind fun r1763=>
 some r1763)
 else (some false))
 else (some false))
 else (some false))
 else (some false))
 else (some false))
 else (some false))
 else (some false))
 else (some false))
 else (some false))
 else (some false))
 else (some false))
 else (some false))
 else (some false))
 else (some false))
 else (some false))
 else (some false))
 else (some false))
 else (some false))
 else (some false))
 else (some false))
 else (some false))
 else (some false))))))))))))
def law_TicketKnown:Option Bool:=
 (law_own).bind fun r4=>
 (law_own).bind fun r35=>
 (law_own).bind fun r66=>
 (law_own).bind fun r97=>
 (law_own).bind fun r128=>
 (law_own).bind fun r159=>
 (law_own).bind fun r190=>
 (law_own).bind fun r221=>
 (law_own).bind fun r252=>
 (law_own).bind fun r283=>
 (law_own).bind fun r314=>
 (getI r97.Tickets 1).bind fun r365=>
 need (fitsL (r128.Tickets.length+([(TicketSeason.mk 0 0)]:List TicketSeason).length) 16)<|
 (getI r159.Shows 0).bind fun r388=>
 (getI r190.Shows 0).bind fun r396=>
 (getI r221.Shows 0).bind fun r404=>
 (getI r252.Boxes 0).bind fun r412=>
 (getI r283.Boxes 0).bind fun r420=>
 loopF (law_TicketKnown_l2 r4 r35 r66 r97 r128 r159 r388 r190 r396 r221 r404 r252 r412 r283 r420 r314) big 0
set_option maxHeartbeats 10000000 in
set_option maxRecDepth 100000 in
theorem law_TicketKnown_ok {w:World} (H:law_TicketKnown=some true) (hg1:(gW0).ok w) (hg2:(gW1).ok w) (hg3:(gW2).ok w):Calls Tryd.prog 8 #[] w (RetV w (B true)):=by
 unfold law_TicketKnown at H
 refine fn_of (n:=507) Tryd.func8 rfl rfl (lE rfl) ?_
 have S:=St.start w nF _ (cA hg1 (cA hg2 (cA hg3 nM)))
 refine c_seq<|reg<|p_aB rfl<|wp_nil<|c_seq<|reg<|p_bld (cs:=[I 0,I 0,SL none 0 0,I 0,SL none 0 0,SL none 0 0,SL none 0 0]) st29 (rfl:_=[]) (by kernel_rfl) ?_
 obtain ⟨r4,h5,H⟩:=bindS H
 refine p_cal (law_own_ok h5) fu39 rfl ?_
 rintro _ w6 ⟨A8,c9,A10,c11,A12,c13,A14,c15,rfl,k7,⟨o16,n17⟩,⟨o18,n19⟩,⟨o20,n21⟩,⟨o22,n23⟩,j24,j25,j26,j27,j28,j29,_⟩
 have S34:=S.callMo k7 [gr eTallyCount 7 81 A8 c9 r4.Tally.Counts,gr eTicketSeason 2 65 A10 c11 r4.Tickets,gr eTicketShow 3 67 A12 c13 r4.Shows,gr eTicketBox 4 72 A14 c15 r4.Boxes] [] (cA ⟨o16,n17⟩ (cA ⟨o18,n19⟩ (cA ⟨o20,n21⟩ (cA ⟨o22,n23⟩ nM)))) (pC (cA j24 (cA j25 (cA j26 nM))) (pC (cA j27 (cA j28 nM)) (pC (cA j29 nM) (pC nM List.Pairwise.nil)))) nM (cA nM (cA nM (cA nM (cA nM nM))))
 obtain ⟨r35,h36,H⟩:=bindS H
 refine p_cal (law_own_ok h36) fu39 rfl ?_
 rintro _ w37 ⟨A39,c40,A41,c42,A43,c44,A45,c46,rfl,k38,⟨o47,n48⟩,⟨o49,n50⟩,⟨o51,n52⟩,⟨o53,n54⟩,j55,j56,j57,j58,j59,j60,_⟩
 have S65:=S34.callMo k38 [gr eTallyCount 7 81 A39 c40 r35.Tally.Counts,gr eTicketSeason 2 65 A41 c42 r35.Tickets,gr eTicketShow 3 67 A43 c44 r35.Shows,gr eTicketBox 4 72 A45 c46 r35.Boxes] [] (cA ⟨o47,n48⟩ (cA ⟨o49,n50⟩ (cA ⟨o51,n52⟩ (cA ⟨o53,n54⟩ nM)))) (pC (cA j55 (cA j56 (cA j57 nM))) (pC (cA j58 (cA j59 nM)) (pC (cA j60 nM) (pC nM List.Pairwise.nil)))) nM (cA nM (cA nM (cA nM (cA nM nM))))
 try clear S34
 obtain ⟨r66,h67,H⟩:=bindS H
 refine p_cal (law_own_ok h67) fu39 rfl ?_
 rintro _ w68 ⟨A70,c71,A72,c73,A74,c75,A76,c77,rfl,k69,⟨o78,n79⟩,⟨o80,n81⟩,⟨o82,n83⟩,⟨o84,n85⟩,j86,j87,j88,j89,j90,j91,_⟩
 have S96:=S65.callMo k69 [gr eTallyCount 7 81 A70 c71 r66.Tally.Counts,gr eTicketSeason 2 65 A72 c73 r66.Tickets,gr eTicketShow 3 67 A74 c75 r66.Shows,gr eTicketBox 4 72 A76 c77 r66.Boxes] [] (cA ⟨o78,n79⟩ (cA ⟨o80,n81⟩ (cA ⟨o82,n83⟩ (cA ⟨o84,n85⟩ nM)))) (pC (cA j86 (cA j87 (cA j88 nM))) (pC (cA j89 (cA j90 nM)) (pC (cA j91 nM) (pC nM List.Pairwise.nil)))) nM (cA nM (cA nM (cA nM (cA nM nM))))
 try clear S65
 obtain ⟨r97,h98,H⟩:=bindS H
 refine p_cal (law_own_ok h98) fu39 rfl ?_
 rintro _ w99 ⟨A101,c102,A103,c104,A105,c106,A107,c108,rfl,k100,⟨o109,n110⟩,⟨o111,n112⟩,⟨o113,n114⟩,⟨o115,n116⟩,j117,j118,j119,j120,j121,j122,_⟩
 have S127:=S96.callMo k100 [gr eTallyCount 7 81 A101 c102 r97.Tally.Counts,gr eTicketSeason 2 65 A103 c104 r97.Tickets,gr eTicketShow 3 67 A105 c106 r97.Shows,gr eTicketBox 4 72 A107 c108 r97.Boxes] [] (cA ⟨o109,n110⟩ (cA ⟨o111,n112⟩ (cA ⟨o113,n114⟩ (cA ⟨o115,n116⟩ nM)))) (pC (cA j117 (cA j118 (cA j119 nM))) (pC (cA j120 (cA j121 nM)) (pC (cA j122 nM) (pC nM List.Pairwise.nil)))) nM (cA nM (cA nM (cA nM (cA nM nM))))
 try clear S96
 obtain ⟨r128,h129,H⟩:=bindS H
 refine p_cal (law_own_ok h129) fu39 rfl ?_
 rintro _ w130 ⟨A132,c133,A134,c135,A136,c137,A138,c139,rfl,k131,⟨o140,n141⟩,⟨o142,n143⟩,⟨o144,n145⟩,⟨o146,n147⟩,j148,j149,j150,j151,j152,j153,_⟩
 have S158:=S127.callMo k131 [gr eTallyCount 7 81 A132 c133 r128.Tally.Counts,gr eTicketSeason 2 65 A134 c135 r128.Tickets,gr eTicketShow 3 67 A136 c137 r128.Shows,gr eTicketBox 4 72 A138 c139 r128.Boxes] [] (cA ⟨o140,n141⟩ (cA ⟨o142,n143⟩ (cA ⟨o144,n145⟩ (cA ⟨o146,n147⟩ nM)))) (pC (cA j148 (cA j149 (cA j150 nM))) (pC (cA j151 (cA j152 nM)) (pC (cA j153 nM) (pC nM List.Pairwise.nil)))) nM (cA nM (cA nM (cA nM (cA nM nM))))
 try clear S127
 obtain ⟨r159,h160,H⟩:=bindS H
 refine p_cal (law_own_ok h160) fu39 rfl ?_
 rintro _ w161 ⟨A163,c164,A165,c166,A167,c168,A169,c170,rfl,k162,⟨o171,n172⟩,⟨o173,n174⟩,⟨o175,n176⟩,⟨o177,n178⟩,j179,j180,j181,j182,j183,j184,_⟩
 have S189:=S158.callMo k162 [gr eTallyCount 7 81 A163 c164 r159.Tally.Counts,gr eTicketSeason 2 65 A165 c166 r159.Tickets,gr eTicketShow 3 67 A167 c168 r159.Shows,gr eTicketBox 4 72 A169 c170 r159.Boxes] [] (cA ⟨o171,n172⟩ (cA ⟨o173,n174⟩ (cA ⟨o175,n176⟩ (cA ⟨o177,n178⟩ nM)))) (pC (cA j179 (cA j180 (cA j181 nM))) (pC (cA j182 (cA j183 nM)) (pC (cA j184 nM) (pC nM List.Pairwise.nil)))) nM (cA nM (cA nM (cA nM (cA nM nM))))
 try clear S158
 obtain ⟨r190,h191,H⟩:=bindS H
 refine p_cal (law_own_ok h191) fu39 rfl ?_
 rintro _ w192 ⟨A194,c195,A196,c197,A198,c199,A200,c201,rfl,k193,⟨o202,n203⟩,⟨o204,n205⟩,⟨o206,n207⟩,⟨o208,n209⟩,j210,j211,j212,j213,j214,j215,_⟩
 have S220:=S189.callMo k193 [gr eTallyCount 7 81 A194 c195 r190.Tally.Counts,gr eTicketSeason 2 65 A196 c197 r190.Tickets,gr eTicketShow 3 67 A198 c199 r190.Shows,gr eTicketBox 4 72 A200 c201 r190.Boxes] [] (cA ⟨o202,n203⟩ (cA ⟨o204,n205⟩ (cA ⟨o206,n207⟩ (cA ⟨o208,n209⟩ nM)))) (pC (cA j210 (cA j211 (cA j212 nM))) (pC (cA j213 (cA j214 nM)) (pC (cA j215 nM) (pC nM List.Pairwise.nil)))) nM (cA nM (cA nM (cA nM (cA nM nM))))
 try clear S189
 obtain ⟨r221,h222,H⟩:=bindS H
 refine p_cal (law_own_ok h222) fu39 rfl ?_
 rintro _ w223 ⟨A225,c226,A227,c228,A229,c230,A231,c232,rfl,k224,⟨o233,n234⟩,⟨o235,n236⟩,⟨o237,n238⟩,⟨o239,n240⟩,j241,j242,j243,j244,j245,j246,_⟩
 have S251:=S220.callMo k224 [gr eTallyCount 7 81 A225 c226 r221.Tally.Counts,gr eTicketSeason 2 65 A227 c228 r221.Tickets,gr eTicketShow 3 67 A229 c230 r221.Shows,gr eTicketBox 4 72 A231 c232 r221.Boxes] [] (cA ⟨o233,n234⟩ (cA ⟨o235,n236⟩ (cA ⟨o237,n238⟩ (cA ⟨o239,n240⟩ nM)))) (pC (cA j241 (cA j242 (cA j243 nM))) (pC (cA j244 (cA j245 nM)) (pC (cA j246 nM) (pC nM List.Pairwise.nil)))) nM (cA nM (cA nM (cA nM (cA nM nM))))
 try clear S220
 obtain ⟨r252,h253,H⟩:=bindS H
 refine p_cal (law_own_ok h253) fu39 rfl ?_
 rintro _ w254 ⟨A256,c257,A258,c259,A260,c261,A262,c263,rfl,k255,⟨o264,n265⟩,⟨o266,n267⟩,⟨o268,n269⟩,⟨o270,n271⟩,j272,j273,j274,j275,j276,j277,_⟩
 have S282:=S251.callMo k255 [gr eTallyCount 7 81 A256 c257 r252.Tally.Counts,gr eTicketSeason 2 65 A258 c259 r252.Tickets,gr eTicketShow 3 67 A260 c261 r252.Shows,gr eTicketBox 4 72 A262 c263 r252.Boxes] [] (cA ⟨o264,n265⟩ (cA ⟨o266,n267⟩ (cA ⟨o268,n269⟩ (cA ⟨o270,n271⟩ nM)))) (pC (cA j272 (cA j273 (cA j274 nM))) (pC (cA j275 (cA j276 nM)) (pC (cA j277 nM) (pC nM List.Pairwise.nil)))) nM (cA nM (cA nM (cA nM (cA nM nM))))
 try clear S251
 obtain ⟨r283,h284,H⟩:=bindS H
 refine p_cal (law_own_ok h284) fu39 rfl ?_
 rintro _ w285 ⟨A287,c288,A289,c290,A291,c292,A293,c294,rfl,k286,⟨o295,n296⟩,⟨o297,n298⟩,⟨o299,n300⟩,⟨o301,n302⟩,j303,j304,j305,j306,j307,j308,_⟩
 have S313:=S282.callMo k286 [gr eTallyCount 7 81 A287 c288 r283.Tally.Counts,gr eTicketSeason 2 65 A289 c290 r283.Tickets,gr eTicketShow 3 67 A291 c292 r283.Shows,gr eTicketBox 4 72 A293 c294 r283.Boxes] [] (cA ⟨o295,n296⟩ (cA ⟨o297,n298⟩ (cA ⟨o299,n300⟩ (cA ⟨o301,n302⟩ nM)))) (pC (cA j303 (cA j304 (cA j305 nM))) (pC (cA j306 (cA j307 nM)) (pC (cA j308 nM) (pC nM List.Pairwise.nil)))) nM (cA nM (cA nM (cA nM (cA nM nM))))
 try clear S282
 obtain ⟨r314,h315,H⟩:=bindS H
 refine p_cal (law_own_ok h315) fu39 rfl ?_
 rintro _ w316 ⟨A318,c319,A320,c321,A322,c323,A324,c325,rfl,k317,⟨o326,n327⟩,⟨o328,n329⟩,⟨o330,n331⟩,⟨o332,n333⟩,j334,j335,j336,j337,j338,j339,_⟩
 have S344:=S313.callMo k317 [gr eTallyCount 7 81 A318 c319 r314.Tally.Counts,gr eTicketSeason 2 65 A320 c321 r314.Tickets,gr eTicketShow 3 67 A322 c323 r314.Shows,gr eTicketBox 4 72 A324 c325 r314.Boxes] [] (cA ⟨o326,n327⟩ (cA ⟨o328,n329⟩ (cA ⟨o330,n331⟩ (cA ⟨o332,n333⟩ nM)))) (pC (cA j334 (cA j335 (cA j336 nM))) (pC (cA j337 (cA j338 nM)) (pC (cA j339 nM) (pC nM List.Pairwise.nil)))) nM (cA nM (cA nM (cA nM (cA nM nM))))
 try clear S313
 refine p_bsl (enc:=nTicketBook) (l:=[((TicketBook.mk (TallyBook.mk 0 0 ([]:List TallyCount)) 0 ([]:List TicketSeason) ([]:List TicketShow) ([]:List TicketBox)),none,0,none,0,none,0,none,0),(r4,A8,c9,A10,c11,A12,c13,A14,c15),(r35,A39,c40,A41,c42,A43,c44,A45,c46),(r66,A70,c71,A72,c73,A74,c75,A76,c77),(r97,A101,c102,A103,c104,A105,c106,A107,c108),(r128,A132,c133,A134,c135,A136,c137,A138,c139),(r159,A163,c164,A165,c166,A167,c168,A169,c170),(r190,A194,c195,A196,c197,A198,c199,A200,c201),(r221,A225,c226,A227,c228,A229,c230,A231,c232),(r252,A256,c257,A258,c259,A260,c261,A262,c263),(r283,A287,c288,A289,c290,A291,c292,A293,c294),(r314,A318,c319,A320,c321,A322,c323,A324,c325)]) (fun h=>AG (nTicketBook h)) (fun _=>rfl) sc79 in29 nTicketBook_len rfl (by decide) (by decide) zr29_12 S344 rfl fun A345 c346 w347 S348=>?_
 try clear S344
 refine p_aS rfl<|wp_nil<|c_seq<|reg<|p_mS rfl ?_
 refine p_ixE sc79 (rfl:getI [((TicketBook.mk (TallyBook.mk 0 0 ([]:List TallyCount)) 0 ([]:List TicketSeason) ([]:List TicketShow) ([]:List TicketBox)),none,0,none,0,none,0,none,0),(r4,A8,c9,A10,c11,A12,c13,A14,c15),(r35,A39,c40,A41,c42,A43,c44,A45,c46),(r66,A70,c71,A72,c73,A74,c75,A76,c77),(r97,A101,c102,A103,c104,A105,c106,A107,c108),(r128,A132,c133,A134,c135,A136,c137,A138,c139),(r159,A163,c164,A165,c166,A167,c168,A169,c170),(r190,A194,c195,A196,c197,A198,c199,A200,c201),(r221,A225,c226,A227,c228,A229,c230,A231,c232),(r252,A256,c257,A258,c259,A260,c261,A262,c263),(r283,A287,c288,A289,c290,A291,c292,A293,c294),(r314,A318,c319,A320,c321,A322,c323,A324,c325)] 1=some (r4,A8,c9,A10,c11,A12,c13,A14,c15)) (gr_sl nTicketBook_len (S348.atX (i:=0) rfl)) rfl rfl rfl ?_
 refine p_fldE fl29_0 (sl_here (gr_sl nTicketBook_len (S348.atX (i:=0) rfl)) (rfl:getI [((TicketBook.mk (TallyBook.mk 0 0 ([]:List TallyCount)) 0 ([]:List TicketSeason) ([]:List TicketShow) ([]:List TicketBox)),none,0,none,0,none,0,none,0),(r4,A8,c9,A10,c11,A12,c13,A14,c15),(r35,A39,c40,A41,c42,A43,c44,A45,c46),(r66,A70,c71,A72,c73,A74,c75,A76,c77),(r97,A101,c102,A103,c104,A105,c106,A107,c108),(r128,A132,c133,A134,c135,A136,c137,A138,c139),(r159,A163,c164,A165,c166,A167,c168,A169,c170),(r190,A194,c195,A196,c197,A198,c199,A200,c201),(r221,A225,c226,A227,c228,A229,c230,A231,c232),(r252,A256,c257,A258,c259,A260,c261,A262,c263),(r283,A287,c288,A289,c290,A291,c292,A293,c294),(r314,A318,c319,A320,c321,A322,c323,A324,c325)] 1=some (r4,A8,c9,A10,c11,A12,c13,A14,c15))) rfl ?_
 refine p_fldE fl24_0 (sl_here (gr_sl nTicketBook_len (S348.atX (i:=0) rfl)) (rfl:getI [((TicketBook.mk (TallyBook.mk 0 0 ([]:List TallyCount)) 0 ([]:List TicketSeason) ([]:List TicketShow) ([]:List TicketBox)),none,0,none,0,none,0,none,0),(r4,A8,c9,A10,c11,A12,c13,A14,c15),(r35,A39,c40,A41,c42,A43,c44,A45,c46),(r66,A70,c71,A72,c73,A74,c75,A76,c77),(r97,A101,c102,A103,c104,A105,c106,A107,c108),(r128,A132,c133,A134,c135,A136,c137,A138,c139),(r159,A163,c164,A165,c166,A167,c168,A169,c170),(r190,A194,c195,A196,c197,A198,c199,A200,c201),(r221,A225,c226,A227,c228,A229,c230,A231,c232),(r252,A256,c257,A258,c259,A260,c261,A262,c263),(r283,A287,c288,A289,c290,A291,c292,A293,c294),(r314,A318,c319,A320,c321,A322,c323,A324,c325)] 1=some (r4,A8,c9,A10,c11,A12,c13,A14,c15))) rfl ?_
 refine p_stE (x' :=((TicketBook.mk (TallyBook.mk 4 r4.Tally.Room r4.Tally.Counts) r4.Fare r4.Tickets r4.Shows r4.Boxes),A8,c9,A10,c11,A12,c13,A14,c15)) (a:=[]) (old:=[I r4.Tally.Trips]) (b:=[I r4.Tally.Room,SL A8 r4.Tally.Counts.length c9,I r4.Fare,SL A10 r4.Tickets.length c11,SL A12 r4.Shows.length c13,SL A14 r4.Boxes.length c15]) (vs:=[I 4]) sz3 nTicketBook_len nTicketBook_one S348 (i:=0) rfl (rfl:getI [((TicketBook.mk (TallyBook.mk 0 0 ([]:List TallyCount)) 0 ([]:List TicketSeason) ([]:List TicketShow) ([]:List TicketBox)),none,0,none,0,none,0,none,0),(r4,A8,c9,A10,c11,A12,c13,A14,c15),(r35,A39,c40,A41,c42,A43,c44,A45,c46),(r66,A70,c71,A72,c73,A74,c75,A76,c77),(r97,A101,c102,A103,c104,A105,c106,A107,c108),(r128,A132,c133,A134,c135,A136,c137,A138,c139),(r159,A163,c164,A165,c166,A167,c168,A169,c170),(r190,A194,c195,A196,c197,A198,c199,A200,c201),(r221,A225,c226,A227,c228,A229,c230,A231,c232),(r252,A256,c257,A258,c259,A260,c261,A262,c263),(r283,A287,c288,A289,c290,A291,c292,A293,c294),(r314,A318,c319,A320,c321,A322,c323,A324,c325)] 1=some (r4,A8,c9,A10,c11,A12,c13,A14,c15)) rfl (rfl:_=I 4) rfl rfl rfl rfl rfl rfl fun l352 w353 h350 h351 S354=>?_
 try clear S348
 obtain rfl:l352=[((TicketBook.mk (TallyBook.mk 0 0 ([]:List TallyCount)) 0 ([]:List TicketSeason) ([]:List TicketShow) ([]:List TicketBox)),none,0,none,0,none,0,none,0),((TicketBook.mk (TallyBook.mk 4 r4.Tally.Room r4.Tally.Counts) r4.Fare r4.Tickets r4.Shows r4.Boxes),A8,c9,A10,c11,A12,c13,A14,c15),(r35,A39,c40,A41,c42,A43,c44,A45,c46),(r66,A70,c71,A72,c73,A74,c75,A76,c77),(r97,A101,c102,A103,c104,A105,c106,A107,c108),(r128,A132,c133,A134,c135,A136,c137,A138,c139),(r159,A163,c164,A165,c166,A167,c168,A169,c170),(r190,A194,c195,A196,c197,A198,c199,A200,c201),(r221,A225,c226,A227,c228,A229,c230,A231,c232),(r252,A256,c257,A258,c259,A260,c261,A262,c263),(r283,A287,c288,A289,c290,A291,c292,A293,c294),(r314,A318,c319,A320,c321,A322,c323,A324,c325)]:=h350
 refine wp_nil<|c_seq<|reg<|p_mS rfl ?_
 refine p_ixE sc79 (rfl:getI [((TicketBook.mk (TallyBook.mk 0 0 ([]:List TallyCount)) 0 ([]:List TicketSeason) ([]:List TicketShow) ([]:List TicketBox)),none,0,none,0,none,0,none,0),((TicketBook.mk (TallyBook.mk 4 r4.Tally.Room r4.Tally.Counts) r4.Fare r4.Tickets r4.Shows r4.Boxes),A8,c9,A10,c11,A12,c13,A14,c15),(r35,A39,c40,A41,c42,A43,c44,A45,c46),(r66,A70,c71,A72,c73,A74,c75,A76,c77),(r97,A101,c102,A103,c104,A105,c106,A107,c108),(r128,A132,c133,A134,c135,A136,c137,A138,c139),(r159,A163,c164,A165,c166,A167,c168,A169,c170),(r190,A194,c195,A196,c197,A198,c199,A200,c201),(r221,A225,c226,A227,c228,A229,c230,A231,c232),(r252,A256,c257,A258,c259,A260,c261,A262,c263),(r283,A287,c288,A289,c290,A291,c292,A293,c294),(r314,A318,c319,A320,c321,A322,c323,A324,c325)] 2=some (r35,A39,c40,A41,c42,A43,c44,A45,c46)) (gr_sl nTicketBook_len (S354.atX (i:=0) rfl)) rfl rfl rfl ?_
 refine p_fldE fl29_0 (sl_here (gr_sl nTicketBook_len (S354.atX (i:=0) rfl)) (rfl:getI [((TicketBook.mk (TallyBook.mk 0 0 ([]:List TallyCount)) 0 ([]:List TicketSeason) ([]:List TicketShow) ([]:List TicketBox)),none,0,none,0,none,0,none,0),((TicketBook.mk (TallyBook.mk 4 r4.Tally.Room r4.Tally.Counts) r4.Fare r4.Tickets r4.Shows r4.Boxes),A8,c9,A10,c11,A12,c13,A14,c15),(r35,A39,c40,A41,c42,A43,c44,A45,c46),(r66,A70,c71,A72,c73,A74,c75,A76,c77),(r97,A101,c102,A103,c104,A105,c106,A107,c108),(r128,A132,c133,A134,c135,A136,c137,A138,c139),(r159,A163,c164,A165,c166,A167,c168,A169,c170),(r190,A194,c195,A196,c197,A198,c199,A200,c201),(r221,A225,c226,A227,c228,A229,c230,A231,c232),(r252,A256,c257,A258,c259,A260,c261,A262,c263),(r283,A287,c288,A289,c290,A291,c292,A293,c294),(r314,A318,c319,A320,c321,A322,c323,A324,c325)] 2=some (r35,A39,c40,A41,c42,A43,c44,A45,c46))) rfl ?_
 refine p_fldE fl24_1 (sl_here (gr_sl nTicketBook_len (S354.atX (i:=0) rfl)) (rfl:getI [((TicketBook.mk (TallyBook.mk 0 0 ([]:List TallyCount)) 0 ([]:List TicketSeason) ([]:List TicketShow) ([]:List TicketBox)),none,0,none,0,none,0,none,0),((TicketBook.mk (TallyBook.mk 4 r4.Tally.Room r4.Tally.Counts) r4.Fare r4.Tickets r4.Shows r4.Boxes),A8,c9,A10,c11,A12,c13,A14,c15),(r35,A39,c40,A41,c42,A43,c44,A45,c46),(r66,A70,c71,A72,c73,A74,c75,A76,c77),(r97,A101,c102,A103,c104,A105,c106,A107,c108),(r128,A132,c133,A134,c135,A136,c137,A138,c139),(r159,A163,c164,A165,c166,A167,c168,A169,c170),(r190,A194,c195,A196,c197,A198,c199,A200,c201),(r221,A225,c226,A227,c228,A229,c230,A231,c232),(r252,A256,c257,A258,c259,A260,c261,A262,c263),(r283,A287,c288,A289,c290,A291,c292,A293,c294),(r314,A318,c319,A320,c321,A322,c323,A324,c325)] 2=some (r35,A39,c40,A41,c42,A43,c44,A45,c46))) rfl ?_
 refine p_stE (x' :=((TicketBook.mk (TallyBook.mk r35.Tally.Trips 6 r35.Tally.Counts) r35.Fare r35.Tickets r35.Shows r35.Boxes),A39,c40,A41,c42,A43,c44,A45,c46)) (a:=[I r35.Tally.Trips]) (old:=[I r35.Tally.Room]) (b:=[SL A39 r35.Tally.Counts.length c40,I r35.Fare,SL A41 r35.Tickets.length c42,SL A43 r35.Shows.length c44,SL A45 r35.Boxes.length c46]) (vs:=[I 6]) sz3 nTicketBook_len nTicketBook_one S354 (i:=0) rfl (rfl:getI [((TicketBook.mk (TallyBook.mk 0 0 ([]:List TallyCount)) 0 ([]:List TicketSeason) ([]:List TicketShow) ([]:List TicketBox)),none,0,none,0,none,0,none,0),((TicketBook.mk (TallyBook.mk 4 r4.Tally.Room r4.Tally.Counts) r4.Fare r4.Tickets r4.Shows r4.Boxes),A8,c9,A10,c11,A12,c13,A14,c15),(r35,A39,c40,A41,c42,A43,c44,A45,c46),(r66,A70,c71,A72,c73,A74,c75,A76,c77),(r97,A101,c102,A103,c104,A105,c106,A107,c108),(r128,A132,c133,A134,c135,A136,c137,A138,c139),(r159,A163,c164,A165,c166,A167,c168,A169,c170),(r190,A194,c195,A196,c197,A198,c199,A200,c201),(r221,A225,c226,A227,c228,A229,c230,A231,c232),(r252,A256,c257,A258,c259,A260,c261,A262,c263),(r283,A287,c288,A289,c290,A291,c292,A293,c294),(r314,A318,c319,A320,c321,A322,c323,A324,c325)] 2=some (r35,A39,c40,A41,c42,A43,c44,A45,c46)) rfl (rfl:_=I 6) rfl rfl rfl rfl rfl rfl fun l357 w358 h355 h356 S359=>?_
 try clear S354
 obtain rfl:l357=[((TicketBook.mk (TallyBook.mk 0 0 ([]:List TallyCount)) 0 ([]:List TicketSeason) ([]:List TicketShow) ([]:List TicketBox)),none,0,none,0,none,0,none,0),((TicketBook.mk (TallyBook.mk 4 r4.Tally.Room r4.Tally.Counts) r4.Fare r4.Tickets r4.Shows r4.Boxes),A8,c9,A10,c11,A12,c13,A14,c15),((TicketBook.mk (TallyBook.mk r35.Tally.Trips 6 r35.Tally.Counts) r35.Fare r35.Tickets r35.Shows r35.Boxes),A39,c40,A41,c42,A43,c44,A45,c46),(r66,A70,c71,A72,c73,A74,c75,A76,c77),(r97,A101,c102,A103,c104,A105,c106,A107,c108),(r128,A132,c133,A134,c135,A136,c137,A138,c139),(r159,A163,c164,A165,c166,A167,c168,A169,c170),(r190,A194,c195,A196,c197,A198,c199,A200,c201),(r221,A225,c226,A227,c228,A229,c230,A231,c232),(r252,A256,c257,A258,c259,A260,c261,A262,c263),(r283,A287,c288,A289,c290,A291,c292,A293,c294),(r314,A318,c319,A320,c321,A322,c323,A324,c325)]:=h355
 refine wp_nil<|c_seq<|reg<|p_mS rfl ?_
 refine p_ixE sc79 (rfl:getI [((TicketBook.mk (TallyBook.mk 0 0 ([]:List TallyCount)) 0 ([]:List TicketSeason) ([]:List TicketShow) ([]:List TicketBox)),none,0,none,0,none,0,none,0),((TicketBook.mk (TallyBook.mk 4 r4.Tally.Room r4.Tally.Counts) r4.Fare r4.Tickets r4.Shows r4.Boxes),A8,c9,A10,c11,A12,c13,A14,c15),((TicketBook.mk (TallyBook.mk r35.Tally.Trips 6 r35.Tally.Counts) r35.Fare r35.Tickets r35.Shows r35.Boxes),A39,c40,A41,c42,A43,c44,A45,c46),(r66,A70,c71,A72,c73,A74,c75,A76,c77),(r97,A101,c102,A103,c104,A105,c106,A107,c108),(r128,A132,c133,A134,c135,A136,c137,A138,c139),(r159,A163,c164,A165,c166,A167,c168,A169,c170),(r190,A194,c195,A196,c197,A198,c199,A200,c201),(r221,A225,c226,A227,c228,A229,c230,A231,c232),(r252,A256,c257,A258,c259,A260,c261,A262,c263),(r283,A287,c288,A289,c290,A291,c292,A293,c294),(r314,A318,c319,A320,c321,A322,c323,A324,c325)] 3=some (r66,A70,c71,A72,c73,A74,c75,A76,c77)) (gr_sl nTicketBook_len (S359.atX (i:=0) rfl)) rfl rfl rfl ?_
 refine p_fldE fl29_1 (sl_here (gr_sl nTicketBook_len (S359.atX (i:=0) rfl)) (rfl:getI [((TicketBook.mk (TallyBook.mk 0 0 ([]:List TallyCount)) 0 ([]:List TicketSeason) ([]:List TicketShow) ([]:List TicketBox)),none,0,none,0,none,0,none,0),((TicketBook.mk (TallyBook.mk 4 r4.Tally.Room r4.Tally.Counts) r4.Fare r4.Tickets r4.Shows r4.Boxes),A8,c9,A10,c11,A12,c13,A14,c15),((TicketBook.mk (TallyBook.mk r35.Tally.Trips 6 r35.Tally.Counts) r35.Fare r35.Tickets r35.Shows r35.Boxes),A39,c40,A41,c42,A43,c44,A45,c46),(r66,A70,c71,A72,c73,A74,c75,A76,c77),(r97,A101,c102,A103,c104,A105,c106,A107,c108),(r128,A132,c133,A134,c135,A136,c137,A138,c139),(r159,A163,c164,A165,c166,A167,c168,A169,c170),(r190,A194,c195,A196,c197,A198,c199,A200,c201),(r221,A225,c226,A227,c228,A229,c230,A231,c232),(r252,A256,c257,A258,c259,A260,c261,A262,c263),(r283,A287,c288,A289,c290,A291,c292,A293,c294),(r314,A318,c319,A320,c321,A322,c323,A324,c325)] 3=some (r66,A70,c71,A72,c73,A74,c75,A76,c77))) rfl ?_
 refine p_stE (x' :=((TicketBook.mk r66.Tally 0 r66.Tickets r66.Shows r66.Boxes),A70,c71,A72,c73,A74,c75,A76,c77)) (a:=[I r66.Tally.Trips,I r66.Tally.Room,SL A70 r66.Tally.Counts.length c71]) (old:=[I r66.Fare]) (b:=[SL A72 r66.Tickets.length c73,SL A74 r66.Shows.length c75,SL A76 r66.Boxes.length c77]) (vs:=[I 0]) sz3 nTicketBook_len nTicketBook_one S359 (i:=0) rfl (rfl:getI [((TicketBook.mk (TallyBook.mk 0 0 ([]:List TallyCount)) 0 ([]:List TicketSeason) ([]:List TicketShow) ([]:List TicketBox)),none,0,none,0,none,0,none,0),((TicketBook.mk (TallyBook.mk 4 r4.Tally.Room r4.Tally.Counts) r4.Fare r4.Tickets r4.Shows r4.Boxes),A8,c9,A10,c11,A12,c13,A14,c15),((TicketBook.mk (TallyBook.mk r35.Tally.Trips 6 r35.Tally.Counts) r35.Fare r35.Tickets r35.Shows r35.Boxes),A39,c40,A41,c42,A43,c44,A45,c46),(r66,A70,c71,A72,c73,A74,c75,A76,c77),(r97,A101,c102,A103,c104,A105,c106,A107,c108),(r128,A132,c133,A134,c135,A136,c137,A138,c139),(r159,A163,c164,A165,c166,A167,c168,A169,c170),(r190,A194,c195,A196,c197,A198,c199,A200,c201),(r221,A225,c226,A227,c228,A229,c230,A231,c232),(r252,A256,c257,A258,c259,A260,c261,A262,c263),(r283,A287,c288,A289,c290,A291,c292,A293,c294),(r314,A318,c319,A320,c321,A322,c323,A324,c325)] 3=some (r66,A70,c71,A72,c73,A74,c75,A76,c77)) rfl (rfl:_=I 0) rfl rfl rfl rfl rfl rfl fun l362 w363 h360 h361 S364=>?_
 try clear S359
 obtain rfl:l362=[((TicketBook.mk (TallyBook.mk 0 0 ([]:List TallyCount)) 0 ([]:List TicketSeason) ([]:List TicketShow) ([]:List TicketBox)),none,0,none,0,none,0,none,0),((TicketBook.mk (TallyBook.mk 4 r4.Tally.Room r4.Tally.Counts) r4.Fare r4.Tickets r4.Shows r4.Boxes),A8,c9,A10,c11,A12,c13,A14,c15),((TicketBook.mk (TallyBook.mk r35.Tally.Trips 6 r35.Tally.Counts) r35.Fare r35.Tickets r35.Shows r35.Boxes),A39,c40,A41,c42,A43,c44,A45,c46),((TicketBook.mk r66.Tally 0 r66.Tickets r66.Shows r66.Boxes),A70,c71,A72,c73,A74,c75,A76,c77),(r97,A101,c102,A103,c104,A105,c106,A107,c108),(r128,A132,c133,A134,c135,A136,c137,A138,c139),(r159,A163,c164,A165,c166,A167,c168,A169,c170),(r190,A194,c195,A196,c197,A198,c199,A200,c201),(r221,A225,c226,A227,c228,A229,c230,A231,c232),(r252,A256,c257,A258,c259,A260,c261,A262,c263),(r283,A287,c288,A289,c290,A291,c292,A293,c294),(r314,A318,c319,A320,c321,A322,c323,A324,c325)]:=h360
 refine wp_nil<|c_seq<|reg<|p_mS rfl ?_
 refine p_ixE sc79 (rfl:getI [((TicketBook.mk (TallyBook.mk 0 0 ([]:List TallyCount)) 0 ([]:List TicketSeason) ([]:List TicketShow) ([]:List TicketBox)),none,0,none,0,none,0,none,0),((TicketBook.mk (TallyBook.mk 4 r4.Tally.Room r4.Tally.Counts) r4.Fare r4.Tickets r4.Shows r4.Boxes),A8,c9,A10,c11,A12,c13,A14,c15),((TicketBook.mk (TallyBook.mk r35.Tally.Trips 6 r35.Tally.Counts) r35.Fare r35.Tickets r35.Shows r35.Boxes),A39,c40,A41,c42,A43,c44,A45,c46),((TicketBook.mk r66.Tally 0 r66.Tickets r66.Shows r66.Boxes),A70,c71,A72,c73,A74,c75,A76,c77),(r97,A101,c102,A103,c104,A105,c106,A107,c108),(r128,A132,c133,A134,c135,A136,c137,A138,c139),(r159,A163,c164,A165,c166,A167,c168,A169,c170),(r190,A194,c195,A196,c197,A198,c199,A200,c201),(r221,A225,c226,A227,c228,A229,c230,A231,c232),(r252,A256,c257,A258,c259,A260,c261,A262,c263),(r283,A287,c288,A289,c290,A291,c292,A293,c294),(r314,A318,c319,A320,c321,A322,c323,A324,c325)] 4=some (r97,A101,c102,A103,c104,A105,c106,A107,c108)) (gr_sl nTicketBook_len (S364.atX (i:=0) rfl)) rfl rfl rfl ?_
 refine p_fldE fl29_2 (sl_here (gr_sl nTicketBook_len (S364.atX (i:=0) rfl)) (rfl:getI [((TicketBook.mk (TallyBook.mk 0 0 ([]:List TallyCount)) 0 ([]:List TicketSeason) ([]:List TicketShow) ([]:List TicketBox)),none,0,none,0,none,0,none,0),((TicketBook.mk (TallyBook.mk 4 r4.Tally.Room r4.Tally.Counts) r4.Fare r4.Tickets r4.Shows r4.Boxes),A8,c9,A10,c11,A12,c13,A14,c15),((TicketBook.mk (TallyBook.mk r35.Tally.Trips 6 r35.Tally.Counts) r35.Fare r35.Tickets r35.Shows r35.Boxes),A39,c40,A41,c42,A43,c44,A45,c46),((TicketBook.mk r66.Tally 0 r66.Tickets r66.Shows r66.Boxes),A70,c71,A72,c73,A74,c75,A76,c77),(r97,A101,c102,A103,c104,A105,c106,A107,c108),(r128,A132,c133,A134,c135,A136,c137,A138,c139),(r159,A163,c164,A165,c166,A167,c168,A169,c170),(r190,A194,c195,A196,c197,A198,c199,A200,c201),(r221,A225,c226,A227,c228,A229,c230,A231,c232),(r252,A256,c257,A258,c259,A260,c261,A262,c263),(r283,A287,c288,A289,c290,A291,c292,A293,c294),(r314,A318,c319,A320,c321,A322,c323,A324,c325)] 4=some (r97,A101,c102,A103,c104,A105,c106,A107,c108))) rfl ?_
 refine p_ldE ty25 (rfl:getI [((TicketBook.mk (TallyBook.mk 0 0 ([]:List TallyCount)) 0 ([]:List TicketSeason) ([]:List TicketShow) ([]:List TicketBox)),none,0,none,0,none,0,none,0),((TicketBook.mk (TallyBook.mk 4 r4.Tally.Room r4.Tally.Counts) r4.Fare r4.Tickets r4.Shows r4.Boxes),A8,c9,A10,c11,A12,c13,A14,c15),((TicketBook.mk (TallyBook.mk r35.Tally.Trips 6 r35.Tally.Counts) r35.Fare r35.Tickets r35.Shows r35.Boxes),A39,c40,A41,c42,A43,c44,A45,c46),((TicketBook.mk r66.Tally 0 r66.Tickets r66.Shows r66.Boxes),A70,c71,A72,c73,A74,c75,A76,c77),(r97,A101,c102,A103,c104,A105,c106,A107,c108),(r128,A132,c133,A134,c135,A136,c137,A138,c139),(r159,A163,c164,A165,c166,A167,c168,A169,c170),(r190,A194,c195,A196,c197,A198,c199,A200,c201),(r221,A225,c226,A227,c228,A229,c230,A231,c232),(r252,A256,c257,A258,c259,A260,c261,A262,c263),(r283,A287,c288,A289,c290,A291,c292,A293,c294),(r314,A318,c319,A320,c321,A322,c323,A324,c325)] 4=some (r97,A101,c102,A103,c104,A105,c106,A107,c108)) (gr_sl nTicketBook_len (S364.atX (i:=0) rfl)) rfl rfl ?_
 refine p_bld (cs:=[I 1,I 0]) st65 (rfl:_=[(0,I 1),(1,I 0)]) (by kernel_rfl) ?_
 obtain ⟨r365,h366,H⟩:=bindS H
 refine p_ixE sc25 h366 (gr_sl eTicketSeason_len (S364.atX (i:=30) rfl)) rfl rfl rfl<|p_stE (x' :=(TicketSeason.mk 1 0)) (a:=[]) (old:=[I r365.From,I r365.To]) (b:=[]) (vs:=[I 1,I 0]) sz65 eTicketSeason_len eTicketSeason_one S364 (i:=30) rfl h366 rfl (rfl:_=AG [I 1,I 0]) rfl rfl rfl rfl rfl rfl fun l369 w370 h367 h368 S371=>?_
 try clear S364
 obtain rfl:l369=(r97.Tickets.set (1:Int).toNat (TicketSeason.mk 1 0)):=h367
 try rw [← h368]
 try rw [← h368] at S371
 have S372:=S371.grEq (l' :=[((TicketBook.mk (TallyBook.mk 0 0 ([]:List TallyCount)) 0 ([]:List TicketSeason) ([]:List TicketShow) ([]:List TicketBox)),none,0,none,0,none,0,none,0),((TicketBook.mk (TallyBook.mk 4 r4.Tally.Room r4.Tally.Counts) r4.Fare r4.Tickets r4.Shows r4.Boxes),A8,c9,A10,c11,A12,c13,A14,c15),((TicketBook.mk (TallyBook.mk r35.Tally.Trips 6 r35.Tally.Counts) r35.Fare r35.Tickets r35.Shows r35.Boxes),A39,c40,A41,c42,A43,c44,A45,c46),((TicketBook.mk r66.Tally 0 r66.Tickets r66.Shows r66.Boxes),A70,c71,A72,c73,A74,c75,A76,c77),((TicketBook.mk r97.Tally r97.Fare (r97.Tickets.set (1:Int).toNat (TicketSeason.mk 1 0)) r97.Shows r97.Boxes),A101,c102,A103,c104,A105,c106,A107,c108),(r128,A132,c133,A134,c135,A136,c137,A138,c139),(r159,A163,c164,A165,c166,A167,c168,A169,c170),(r190,A194,c195,A196,c197,A198,c199,A200,c201),(r221,A225,c226,A227,c228,A229,c230,A231,c232),(r252,A256,c257,A258,c259,A260,c261,A262,c263),(r283,A287,c288,A289,c290,A291,c292,A293,c294),(r314,A318,c319,A320,c321,A322,c323,A324,c325)]) (i:=0) rfl (by simp only [List.flatMap_cons,List.flatMap_nil,nTicketBook,vB,List.length_set]) rfl
 try clear S371
 try simp only [List.set_cons_zero,List.set_cons_succ] at S372
 refine wp_nil<|c_seq<|reg<|p_mS rfl<|p_mS rfl ?_
 refine p_ixE sc79 (rfl:getI [((TicketBook.mk (TallyBook.mk 0 0 ([]:List TallyCount)) 0 ([]:List TicketSeason) ([]:List TicketShow) ([]:List TicketBox)),none,0,none,0,none,0,none,0),((TicketBook.mk (TallyBook.mk 4 r4.Tally.Room r4.Tally.Counts) r4.Fare r4.Tickets r4.Shows r4.Boxes),A8,c9,A10,c11,A12,c13,A14,c15),((TicketBook.mk (TallyBook.mk r35.Tally.Trips 6 r35.Tally.Counts) r35.Fare r35.Tickets r35.Shows r35.Boxes),A39,c40,A41,c42,A43,c44,A45,c46),((TicketBook.mk r66.Tally 0 r66.Tickets r66.Shows r66.Boxes),A70,c71,A72,c73,A74,c75,A76,c77),((TicketBook.mk r97.Tally r97.Fare (r97.Tickets.set (1:Int).toNat (TicketSeason.mk 1 0)) r97.Shows r97.Boxes),A101,c102,A103,c104,A105,c106,A107,c108),(r128,A132,c133,A134,c135,A136,c137,A138,c139),(r159,A163,c164,A165,c166,A167,c168,A169,c170),(r190,A194,c195,A196,c197,A198,c199,A200,c201),(r221,A225,c226,A227,c228,A229,c230,A231,c232),(r252,A256,c257,A258,c259,A260,c261,A262,c263),(r283,A287,c288,A289,c290,A291,c292,A293,c294),(r314,A318,c319,A320,c321,A322,c323,A324,c325)] 5=some (r128,A132,c133,A134,c135,A136,c137,A138,c139)) (gr_sl nTicketBook_len (S372.atX (i:=0) rfl)) rfl rfl rfl ?_
 refine p_fldE fl29_2 (sl_here (gr_sl nTicketBook_len (S372.atX (i:=0) rfl)) (rfl:getI [((TicketBook.mk (TallyBook.mk 0 0 ([]:List TallyCount)) 0 ([]:List TicketSeason) ([]:List TicketShow) ([]:List TicketBox)),none,0,none,0,none,0,none,0),((TicketBook.mk (TallyBook.mk 4 r4.Tally.Room r4.Tally.Counts) r4.Fare r4.Tickets r4.Shows r4.Boxes),A8,c9,A10,c11,A12,c13,A14,c15),((TicketBook.mk (TallyBook.mk r35.Tally.Trips 6 r35.Tally.Counts) r35.Fare r35.Tickets r35.Shows r35.Boxes),A39,c40,A41,c42,A43,c44,A45,c46),((TicketBook.mk r66.Tally 0 r66.Tickets r66.Shows r66.Boxes),A70,c71,A72,c73,A74,c75,A76,c77),((TicketBook.mk r97.Tally r97.Fare (r97.Tickets.set (1:Int).toNat (TicketSeason.mk 1 0)) r97.Shows r97.Boxes),A101,c102,A103,c104,A105,c106,A107,c108),(r128,A132,c133,A134,c135,A136,c137,A138,c139),(r159,A163,c164,A165,c166,A167,c168,A169,c170),(r190,A194,c195,A196,c197,A198,c199,A200,c201),(r221,A225,c226,A227,c228,A229,c230,A231,c232),(r252,A256,c257,A258,c259,A260,c261,A262,c263),(r283,A287,c288,A289,c290,A291,c292,A293,c294),(r314,A318,c319,A320,c321,A322,c323,A324,c325)] 5=some (r128,A132,c133,A134,c135,A136,c137,A138,c139))) rfl ?_
 refine p_ldE ty25 (rfl:getI [((TicketBook.mk (TallyBook.mk 0 0 ([]:List TallyCount)) 0 ([]:List TicketSeason) ([]:List TicketShow) ([]:List TicketBox)),none,0,none,0,none,0,none,0),((TicketBook.mk (TallyBook.mk 4 r4.Tally.Room r4.Tally.Counts) r4.Fare r4.Tickets r4.Shows r4.Boxes),A8,c9,A10,c11,A12,c13,A14,c15),((TicketBook.mk (TallyBook.mk r35.Tally.Trips 6 r35.Tally.Counts) r35.Fare r35.Tickets r35.Shows r35.Boxes),A39,c40,A41,c42,A43,c44,A45,c46),((TicketBook.mk r66.Tally 0 r66.Tickets r66.Shows r66.Boxes),A70,c71,A72,c73,A74,c75,A76,c77),((TicketBook.mk r97.Tally r97.Fare (r97.Tickets.set (1:Int).toNat (TicketSeason.mk 1 0)) r97.Shows r97.Boxes),A101,c102,A103,c104,A105,c106,A107,c108),(r128,A132,c133,A134,c135,A136,c137,A138,c139),(r159,A163,c164,A165,c166,A167,c168,A169,c170),(r190,A194,c195,A196,c197,A198,c199,A200,c201),(r221,A225,c226,A227,c228,A229,c230,A231,c232),(r252,A256,c257,A258,c259,A260,c261,A262,c263),(r283,A287,c288,A289,c290,A291,c292,A293,c294),(r314,A318,c319,A320,c321,A322,c323,A324,c325)] 5=some (r128,A132,c133,A134,c135,A136,c137,A138,c139)) (gr_sl nTicketBook_len (S372.atX (i:=0) rfl)) rfl rfl ?_
 refine p_bld (cs:=[I 0,I 0]) st65 (rfl:_=[]) (by kernel_rfl)<|p_bsl (enc:=eTicketSeason) (l:=([(TicketSeason.mk 0 0)]:List TicketSeason)) (fun x=>AG (eTicketSeason x)) (fun _=>rfl) sc25 in65 eTicketSeason_len rfl (by decide) (by decide) zr65_1 S372 rfl fun A373 c374 w375 S376=>?_
 try clear S372
 obtain ⟨h382,H⟩:=needS H
 refine p_app (enc:=eTicketSeason) sc25 in65 rfl eTicketSeason_len eTicketSeason_one (by decide) S376 (k:=27) rfl (gr_sl eTicketSeason_len (S376.atX (i:=0) rfl)) h382 (by simp) rfl rfl fun A380 c381 w378 S379=>?_
 try clear S376
 refine p_ixE sc79 (rfl:getI [((TicketBook.mk (TallyBook.mk 0 0 ([]:List TallyCount)) 0 ([]:List TicketSeason) ([]:List TicketShow) ([]:List TicketBox)),none,0,none,0,none,0,none,0),((TicketBook.mk (TallyBook.mk 4 r4.Tally.Room r4.Tally.Counts) r4.Fare r4.Tickets r4.Shows r4.Boxes),A8,c9,A10,c11,A12,c13,A14,c15),((TicketBook.mk (TallyBook.mk r35.Tally.Trips 6 r35.Tally.Counts) r35.Fare r35.Tickets r35.Shows r35.Boxes),A39,c40,A41,c42,A43,c44,A45,c46),((TicketBook.mk r66.Tally 0 r66.Tickets r66.Shows r66.Boxes),A70,c71,A72,c73,A74,c75,A76,c77),((TicketBook.mk r97.Tally r97.Fare (r97.Tickets.set (1:Int).toNat (TicketSeason.mk 1 0)) r97.Shows r97.Boxes),A101,c102,A103,c104,A105,c106,A107,c108),(r128,A132,c133,A134,c135,A136,c137,A138,c139),(r159,A163,c164,A165,c166,A167,c168,A169,c170),(r190,A194,c195,A196,c197,A198,c199,A200,c201),(r221,A225,c226,A227,c228,A229,c230,A231,c232),(r252,A256,c257,A258,c259,A260,c261,A262,c263),(r283,A287,c288,A289,c290,A291,c292,A293,c294),(r314,A318,c319,A320,c321,A322,c323,A324,c325)] 5=some (r128,A132,c133,A134,c135,A136,c137,A138,c139)) (gr_sl nTicketBook_len (S379.atX (i:=1) rfl)) rfl rfl rfl ?_
 refine p_fldE fl29_2 (sl_here (gr_sl nTicketBook_len (S379.atX (i:=1) rfl)) (rfl:getI [((TicketBook.mk (TallyBook.mk 0 0 ([]:List TallyCount)) 0 ([]:List TicketSeason) ([]:List TicketShow) ([]:List TicketBox)),none,0,none,0,none,0,none,0),((TicketBook.mk (TallyBook.mk 4 r4.Tally.Room r4.Tally.Counts) r4.Fare r4.Tickets r4.Shows r4.Boxes),A8,c9,A10,c11,A12,c13,A14,c15),((TicketBook.mk (TallyBook.mk r35.Tally.Trips 6 r35.Tally.Counts) r35.Fare r35.Tickets r35.Shows r35.Boxes),A39,c40,A41,c42,A43,c44,A45,c46),((TicketBook.mk r66.Tally 0 r66.Tickets r66.Shows r66.Boxes),A70,c71,A72,c73,A74,c75,A76,c77),((TicketBook.mk r97.Tally r97.Fare (r97.Tickets.set (1:Int).toNat (TicketSeason.mk 1 0)) r97.Shows r97.Boxes),A101,c102,A103,c104,A105,c106,A107,c108),(r128,A132,c133,A134,c135,A136,c137,A138,c139),(r159,A163,c164,A165,c166,A167,c168,A169,c170),(r190,A194,c195,A196,c197,A198,c199,A200,c201),(r221,A225,c226,A227,c228,A229,c230,A231,c232),(r252,A256,c257,A258,c259,A260,c261,A262,c263),(r283,A287,c288,A289,c290,A291,c292,A293,c294),(r314,A318,c319,A320,c321,A322,c323,A324,c325)] 5=some (r128,A132,c133,A134,c135,A136,c137,A138,c139))) rfl ?_
 refine p_stE (x' :=((TicketBook.mk r128.Tally r128.Fare (r128.Tickets++([(TicketSeason.mk 0 0)]:List TicketSeason)) r128.Shows r128.Boxes),A132,c133,A380,c381,A136,c137,A138,c139)) (a:=[I r128.Tally.Trips,I r128.Tally.Room,SL A132 r128.Tally.Counts.length c133,I r128.Fare]) (old:=[SL A134 r128.Tickets.length c135]) (b:=[SL A136 r128.Shows.length c137,SL A138 r128.Boxes.length c139]) (vs:=[SL A380 (r128.Tickets++([(TicketSeason.mk 0 0)]:List TicketSeason)).length c381]) sz25 nTicketBook_len nTicketBook_one S379 (i:=1) rfl (rfl:getI [((TicketBook.mk (TallyBook.mk 0 0 ([]:List TallyCount)) 0 ([]:List TicketSeason) ([]:List TicketShow) ([]:List TicketBox)),none,0,none,0,none,0,none,0),((TicketBook.mk (TallyBook.mk 4 r4.Tally.Room r4.Tally.Counts) r4.Fare r4.Tickets r4.Shows r4.Boxes),A8,c9,A10,c11,A12,c13,A14,c15),((TicketBook.mk (TallyBook.mk r35.Tally.Trips 6 r35.Tally.Counts) r35.Fare r35.Tickets r35.Shows r35.Boxes),A39,c40,A41,c42,A43,c44,A45,c46),((TicketBook.mk r66.Tally 0 r66.Tickets r66.Shows r66.Boxes),A70,c71,A72,c73,A74,c75,A76,c77),((TicketBook.mk r97.Tally r97.Fare (r97.Tickets.set (1:Int).toNat (TicketSeason.mk 1 0)) r97.Shows r97.Boxes),A101,c102,A103,c104,A105,c106,A107,c108),(r128,A132,c133,A134,c135,A136,c137,A138,c139),(r159,A163,c164,A165,c166,A167,c168,A169,c170),(r190,A194,c195,A196,c197,A198,c199,A200,c201),(r221,A225,c226,A227,c228,A229,c230,A231,c232),(r252,A256,c257,A258,c259,A260,c261,A262,c263),(r283,A287,c288,A289,c290,A291,c292,A293,c294),(r314,A318,c319,A320,c321,A322,c323,A324,c325)] 5=some (r128,A132,c133,A134,c135,A136,c137,A138,c139)) rfl (rfl:_=SL A380 (r128.Tickets++([(TicketSeason.mk 0 0)]:List TicketSeason)).length c381) rfl rfl rfl rfl rfl rfl fun l385 w386 h383 h384 S387=>?_
 try clear S379
 obtain rfl:l385=[((TicketBook.mk (TallyBook.mk 0 0 ([]:List TallyCount)) 0 ([]:List TicketSeason) ([]:List TicketShow) ([]:List TicketBox)),none,0,none,0,none,0,none,0),((TicketBook.mk (TallyBook.mk 4 r4.Tally.Room r4.Tally.Counts) r4.Fare r4.Tickets r4.Shows r4.Boxes),A8,c9,A10,c11,A12,c13,A14,c15),((TicketBook.mk (TallyBook.mk r35.Tally.Trips 6 r35.Tally.Counts) r35.Fare r35.Tickets r35.Shows r35.Boxes),A39,c40,A41,c42,A43,c44,A45,c46),((TicketBook.mk r66.Tally 0 r66.Tickets r66.Shows r66.Boxes),A70,c71,A72,c73,A74,c75,A76,c77),((TicketBook.mk r97.Tally r97.Fare (r97.Tickets.set (1:Int).toNat (TicketSeason.mk 1 0)) r97.Shows r97.Boxes),A101,c102,A103,c104,A105,c106,A107,c108),((TicketBook.mk r128.Tally r128.Fare (r128.Tickets++([(TicketSeason.mk 0 0)]:List TicketSeason)) r128.Shows r128.Boxes),A132,c133,A380,c381,A136,c137,A138,c139),(r159,A163,c164,A165,c166,A167,c168,A169,c170),(r190,A194,c195,A196,c197,A198,c199,A200,c201),(r221,A225,c226,A227,c228,A229,c230,A231,c232),(r252,A256,c257,A258,c259,A260,c261,A262,c263),(r283,A287,c288,A289,c290,A291,c292,A293,c294),(r314,A318,c319,A320,c321,A322,c323,A324,c325)]:=h383
 refine wp_nil<|c_seq<|reg<|p_mS rfl ?_
 refine p_ixE sc79 (rfl:getI [((TicketBook.mk (TallyBook.mk 0 0 ([]:List TallyCount)) 0 ([]:List TicketSeason) ([]:List TicketShow) ([]:List TicketBox)),none,0,none,0,none,0,none,0),((TicketBook.mk (TallyBook.mk 4 r4.Tally.Room r4.Tally.Counts) r4.Fare r4.Tickets r4.Shows r4.Boxes),A8,c9,A10,c11,A12,c13,A14,c15),((TicketBook.mk (TallyBook.mk r35.Tally.Trips 6 r35.Tally.Counts) r35.Fare r35.Tickets r35.Shows r35.Boxes),A39,c40,A41,c42,A43,c44,A45,c46),((TicketBook.mk r66.Tally 0 r66.Tickets r66.Shows r66.Boxes),A70,c71,A72,c73,A74,c75,A76,c77),((TicketBook.mk r97.Tally r97.Fare (r97.Tickets.set (1:Int).toNat (TicketSeason.mk 1 0)) r97.Shows r97.Boxes),A101,c102,A103,c104,A105,c106,A107,c108),((TicketBook.mk r128.Tally r128.Fare (r128.Tickets++([(TicketSeason.mk 0 0)]:List TicketSeason)) r128.Shows r128.Boxes),A132,c133,A380,c381,A136,c137,A138,c139),(r159,A163,c164,A165,c166,A167,c168,A169,c170),(r190,A194,c195,A196,c197,A198,c199,A200,c201),(r221,A225,c226,A227,c228,A229,c230,A231,c232),(r252,A256,c257,A258,c259,A260,c261,A262,c263),(r283,A287,c288,A289,c290,A291,c292,A293,c294),(r314,A318,c319,A320,c321,A322,c323,A324,c325)] 6=some (r159,A163,c164,A165,c166,A167,c168,A169,c170)) (gr_sl nTicketBook_len (S387.atX (i:=1) rfl)) rfl rfl rfl ?_
 refine p_fldE fl29_3 (sl_here (gr_sl nTicketBook_len (S387.atX (i:=1) rfl)) (rfl:getI [((TicketBook.mk (TallyBook.mk 0 0 ([]:List TallyCount)) 0 ([]:List TicketSeason) ([]:List TicketShow) ([]:List TicketBox)),none,0,none,0,none,0,none,0),((TicketBook.mk (TallyBook.mk 4 r4.Tally.Room r4.Tally.Counts) r4.Fare r4.Tickets r4.Shows r4.Boxes),A8,c9,A10,c11,A12,c13,A14,c15),((TicketBook.mk (TallyBook.mk r35.Tally.Trips 6 r35.Tally.Counts) r35.Fare r35.Tickets r35.Shows r35.Boxes),A39,c40,A41,c42,A43,c44,A45,c46),((TicketBook.mk r66.Tally 0 r66.Tickets r66.Shows r66.Boxes),A70,c71,A72,c73,A74,c75,A76,c77),((TicketBook.mk r97.Tally r97.Fare (r97.Tickets.set (1:Int).toNat (TicketSeason.mk 1 0)) r97.Shows r97.Boxes),A101,c102,A103,c104,A105,c106,A107,c108),((TicketBook.mk r128.Tally r128.Fare (r128.Tickets++([(TicketSeason.mk 0 0)]:List TicketSeason)) r128.Shows r128.Boxes),A132,c133,A380,c381,A136,c137,A138,c139),(r159,A163,c164,A165,c166,A167,c168,A169,c170),(r190,A194,c195,A196,c197,A198,c199,A200,c201),(r221,A225,c226,A227,c228,A229,c230,A231,c232),(r252,A256,c257,A258,c259,A260,c261,A262,c263),(r283,A287,c288,A289,c290,A291,c292,A293,c294),(r314,A318,c319,A320,c321,A322,c323,A324,c325)] 6=some (r159,A163,c164,A165,c166,A167,c168,A169,c170))) rfl ?_
 refine p_ldE ty26 (rfl:getI [((TicketBook.mk (TallyBook.mk 0 0 ([]:List TallyCount)) 0 ([]:List TicketSeason) ([]:List TicketShow) ([]:List TicketBox)),none,0,none,0,none,0,none,0),((TicketBook.mk (TallyBook.mk 4 r4.Tally.Room r4.Tally.Counts) r4.Fare r4.Tickets r4.Shows r4.Boxes),A8,c9,A10,c11,A12,c13,A14,c15),((TicketBook.mk (TallyBook.mk r35.Tally.Trips 6 r35.Tally.Counts) r35.Fare r35.Tickets r35.Shows r35.Boxes),A39,c40,A41,c42,A43,c44,A45,c46),((TicketBook.mk r66.Tally 0 r66.Tickets r66.Shows r66.Boxes),A70,c71,A72,c73,A74,c75,A76,c77),((TicketBook.mk r97.Tally r97.Fare (r97.Tickets.set (1:Int).toNat (TicketSeason.mk 1 0)) r97.Shows r97.Boxes),A101,c102,A103,c104,A105,c106,A107,c108),((TicketBook.mk r128.Tally r128.Fare (r128.Tickets++([(TicketSeason.mk 0 0)]:List TicketSeason)) r128.Shows r128.Boxes),A132,c133,A380,c381,A136,c137,A138,c139),(r159,A163,c164,A165,c166,A167,c168,A169,c170),(r190,A194,c195,A196,c197,A198,c199,A200,c201),(r221,A225,c226,A227,c228,A229,c230,A231,c232),(r252,A256,c257,A258,c259,A260,c261,A262,c263),(r283,A287,c288,A289,c290,A291,c292,A293,c294),(r314,A318,c319,A320,c321,A322,c323,A324,c325)] 6=some (r159,A163,c164,A165,c166,A167,c168,A169,c170)) (gr_sl nTicketBook_len (S387.atX (i:=1) rfl)) rfl rfl ?_
 obtain ⟨r388,h389,H⟩:=bindS H
 refine p_ixE sc26 h389 (gr_sl eTicketShow_len (S387.atX (i:=24) rfl)) rfl rfl rfl<|p_fldE fl67_0 (sl_here (gr_sl eTicketShow_len (S387.atX (i:=24) rfl)) h389) rfl ?_
 refine p_stE (x' :=(TicketShow.mk 2 r388.Ticket r388.Walker)) (a:=[]) (old:=[I r388.Trip]) (b:=[I r388.Ticket,I r388.Walker]) (vs:=[I 2]) sz3 eTicketShow_len eTicketShow_one S387 (i:=24) rfl h389 rfl (rfl:_=I 2) rfl rfl rfl rfl rfl rfl fun l392 w393 h390 h391 S394=>?_
 try clear S387
 obtain rfl:l392=(r159.Shows.set (0:Int).toNat (TicketShow.mk 2 r388.Ticket r388.Walker)):=h390
 try rw [← h391]
 try rw [← h391] at S394
 have S395:=S394.grEq (l' :=[((TicketBook.mk (TallyBook.mk 0 0 ([]:List TallyCount)) 0 ([]:List TicketSeason) ([]:List TicketShow) ([]:List TicketBox)),none,0,none,0,none,0,none,0),((TicketBook.mk (TallyBook.mk 4 r4.Tally.Room r4.Tally.Counts) r4.Fare r4.Tickets r4.Shows r4.Boxes),A8,c9,A10,c11,A12,c13,A14,c15),((TicketBook.mk (TallyBook.mk r35.Tally.Trips 6 r35.Tally.Counts) r35.Fare r35.Tickets r35.Shows r35.Boxes),A39,c40,A41,c42,A43,c44,A45,c46),((TicketBook.mk r66.Tally 0 r66.Tickets r66.Shows r66.Boxes),A70,c71,A72,c73,A74,c75,A76,c77),((TicketBook.mk r97.Tally r97.Fare (r97.Tickets.set (1:Int).toNat (TicketSeason.mk 1 0)) r97.Shows r97.Boxes),A101,c102,A103,c104,A105,c106,A107,c108),((TicketBook.mk r128.Tally r128.Fare (r128.Tickets++([(TicketSeason.mk 0 0)]:List TicketSeason)) r128.Shows r128.Boxes),A132,c133,A380,c381,A136,c137,A138,c139),((TicketBook.mk r159.Tally r159.Fare r159.Tickets (r159.Shows.set (0:Int).toNat (TicketShow.mk 2 r388.Ticket r388.Walker)) r159.Boxes),A163,c164,A165,c166,A167,c168,A169,c170),(r190,A194,c195,A196,c197,A198,c199,A200,c201),(r221,A225,c226,A227,c228,A229,c230,A231,c232),(r252,A256,c257,A258,c259,A260,c261,A262,c263),(r283,A287,c288,A289,c290,A291,c292,A293,c294),(r314,A318,c319,A320,c321,A322,c323,A324,c325)]) (i:=1) rfl (by simp only [List.flatMap_cons,List.flatMap_nil,nTicketBook,vB,List.length_set]) rfl
 try clear S394
 try simp only [List.set_cons_zero,List.set_cons_succ] at S395
 refine wp_nil<|c_seq<|reg<|p_mS rfl ?_
 refine p_ixE sc79 (rfl:getI [((TicketBook.mk (TallyBook.mk 0 0 ([]:List TallyCount)) 0 ([]:List TicketSeason) ([]:List TicketShow) ([]:List TicketBox)),none,0,none,0,none,0,none,0),((TicketBook.mk (TallyBook.mk 4 r4.Tally.Room r4.Tally.Counts) r4.Fare r4.Tickets r4.Shows r4.Boxes),A8,c9,A10,c11,A12,c13,A14,c15),((TicketBook.mk (TallyBook.mk r35.Tally.Trips 6 r35.Tally.Counts) r35.Fare r35.Tickets r35.Shows r35.Boxes),A39,c40,A41,c42,A43,c44,A45,c46),((TicketBook.mk r66.Tally 0 r66.Tickets r66.Shows r66.Boxes),A70,c71,A72,c73,A74,c75,A76,c77),((TicketBook.mk r97.Tally r97.Fare (r97.Tickets.set (1:Int).toNat (TicketSeason.mk 1 0)) r97.Shows r97.Boxes),A101,c102,A103,c104,A105,c106,A107,c108),((TicketBook.mk r128.Tally r128.Fare (r128.Tickets++([(TicketSeason.mk 0 0)]:List TicketSeason)) r128.Shows r128.Boxes),A132,c133,A380,c381,A136,c137,A138,c139),((TicketBook.mk r159.Tally r159.Fare r159.Tickets (r159.Shows.set (0:Int).toNat (TicketShow.mk 2 r388.Ticket r388.Walker)) r159.Boxes),A163,c164,A165,c166,A167,c168,A169,c170),(r190,A194,c195,A196,c197,A198,c199,A200,c201),(r221,A225,c226,A227,c228,A229,c230,A231,c232),(r252,A256,c257,A258,c259,A260,c261,A262,c263),(r283,A287,c288,A289,c290,A291,c292,A293,c294),(r314,A318,c319,A320,c321,A322,c323,A324,c325)] 7=some (r190,A194,c195,A196,c197,A198,c199,A200,c201)) (gr_sl nTicketBook_len (S395.atX (i:=1) rfl)) rfl rfl rfl ?_
 refine p_fldE fl29_3 (sl_here (gr_sl nTicketBook_len (S395.atX (i:=1) rfl)) (rfl:getI [((TicketBook.mk (TallyBook.mk 0 0 ([]:List TallyCount)) 0 ([]:List TicketSeason) ([]:List TicketShow) ([]:List TicketBox)),none,0,none,0,none,0,none,0),((TicketBook.mk (TallyBook.mk 4 r4.Tally.Room r4.Tally.Counts) r4.Fare r4.Tickets r4.Shows r4.Boxes),A8,c9,A10,c11,A12,c13,A14,c15),((TicketBook.mk (TallyBook.mk r35.Tally.Trips 6 r35.Tally.Counts) r35.Fare r35.Tickets r35.Shows r35.Boxes),A39,c40,A41,c42,A43,c44,A45,c46),((TicketBook.mk r66.Tally 0 r66.Tickets r66.Shows r66.Boxes),A70,c71,A72,c73,A74,c75,A76,c77),((TicketBook.mk r97.Tally r97.Fare (r97.Tickets.set (1:Int).toNat (TicketSeason.mk 1 0)) r97.Shows r97.Boxes),A101,c102,A103,c104,A105,c106,A107,c108),((TicketBook.mk r128.Tally r128.Fare (r128.Tickets++([(TicketSeason.mk 0 0)]:List TicketSeason)) r128.Shows r128.Boxes),A132,c133,A380,c381,A136,c137,A138,c139),((TicketBook.mk r159.Tally r159.Fare r159.Tickets (r159.Shows.set (0:Int).toNat (TicketShow.mk 2 r388.Ticket r388.Walker)) r159.Boxes),A163,c164,A165,c166,A167,c168,A169,c170),(r190,A194,c195,A196,c197,A198,c199,A200,c201),(r221,A225,c226,A227,c228,A229,c230,A231,c232),(r252,A256,c257,A258,c259,A260,c261,A262,c263),(r283,A287,c288,A289,c290,A291,c292,A293,c294),(r314,A318,c319,A320,c321,A322,c323,A324,c325)] 7=some (r190,A194,c195,A196,c197,A198,c199,A200,c201))) rfl ?_
 refine p_ldE ty26 (rfl:getI [((TicketBook.mk (TallyBook.mk 0 0 ([]:List TallyCount)) 0 ([]:List TicketSeason) ([]:List TicketShow) ([]:List TicketBox)),none,0,none,0,none,0,none,0),((TicketBook.mk (TallyBook.mk 4 r4.Tally.Room r4.Tally.Counts) r4.Fare r4.Tickets r4.Shows r4.Boxes),A8,c9,A10,c11,A12,c13,A14,c15),((TicketBook.mk (TallyBook.mk r35.Tally.Trips 6 r35.Tally.Counts) r35.Fare r35.Tickets r35.Shows r35.Boxes),A39,c40,A41,c42,A43,c44,A45,c46),((TicketBook.mk r66.Tally 0 r66.Tickets r66.Shows r66.Boxes),A70,c71,A72,c73,A74,c75,A76,c77),((TicketBook.mk r97.Tally r97.Fare (r97.Tickets.set (1:Int).toNat (TicketSeason.mk 1 0)) r97.Shows r97.Boxes),A101,c102,A103,c104,A105,c106,A107,c108),((TicketBook.mk r128.Tally r128.Fare (r128.Tickets++([(TicketSeason.mk 0 0)]:List TicketSeason)) r128.Shows r128.Boxes),A132,c133,A380,c381,A136,c137,A138,c139),((TicketBook.mk r159.Tally r159.Fare r159.Tickets (r159.Shows.set (0:Int).toNat (TicketShow.mk 2 r388.Ticket r388.Walker)) r159.Boxes),A163,c164,A165,c166,A167,c168,A169,c170),(r190,A194,c195,A196,c197,A198,c199,A200,c201),(r221,A225,c226,A227,c228,A229,c230,A231,c232),(r252,A256,c257,A258,c259,A260,c261,A262,c263),(r283,A287,c288,A289,c290,A291,c292,A293,c294),(r314,A318,c319,A320,c321,A322,c323,A324,c325)] 7=some (r190,A194,c195,A196,c197,A198,c199,A200,c201)) (gr_sl nTicketBook_len (S395.atX (i:=1) rfl)) rfl rfl ?_
 obtain ⟨r396,h397,H⟩:=bindS H
 refine p_ixE sc26 h397 (gr_sl eTicketShow_len (S395.atX (i:=20) rfl)) rfl rfl rfl<|p_fldE fl67_1 (sl_here (gr_sl eTicketShow_len (S395.atX (i:=20) rfl)) h397) rfl ?_
 refine p_stE (x' :=(TicketShow.mk r396.Trip 3 r396.Walker)) (a:=[I r396.Trip]) (old:=[I r396.Ticket]) (b:=[I r396.Walker]) (vs:=[I 3]) sz3 eTicketShow_len eTicketShow_one S395 (i:=20) rfl h397 rfl (rfl:_=I 3) rfl rfl rfl rfl rfl rfl fun l400 w401 h398 h399 S402=>?_
 try clear S395
 obtain rfl:l400=(r190.Shows.set (0:Int).toNat (TicketShow.mk r396.Trip 3 r396.Walker)):=h398
 try rw [← h399]
 try rw [← h399] at S402
 have S403:=S402.grEq (l' :=[((TicketBook.mk (TallyBook.mk 0 0 ([]:List TallyCount)) 0 ([]:List TicketSeason) ([]:List TicketShow) ([]:List TicketBox)),none,0,none,0,none,0,none,0),((TicketBook.mk (TallyBook.mk 4 r4.Tally.Room r4.Tally.Counts) r4.Fare r4.Tickets r4.Shows r4.Boxes),A8,c9,A10,c11,A12,c13,A14,c15),((TicketBook.mk (TallyBook.mk r35.Tally.Trips 6 r35.Tally.Counts) r35.Fare r35.Tickets r35.Shows r35.Boxes),A39,c40,A41,c42,A43,c44,A45,c46),((TicketBook.mk r66.Tally 0 r66.Tickets r66.Shows r66.Boxes),A70,c71,A72,c73,A74,c75,A76,c77),((TicketBook.mk r97.Tally r97.Fare (r97.Tickets.set (1:Int).toNat (TicketSeason.mk 1 0)) r97.Shows r97.Boxes),A101,c102,A103,c104,A105,c106,A107,c108),((TicketBook.mk r128.Tally r128.Fare (r128.Tickets++([(TicketSeason.mk 0 0)]:List TicketSeason)) r128.Shows r128.Boxes),A132,c133,A380,c381,A136,c137,A138,c139),((TicketBook.mk r159.Tally r159.Fare r159.Tickets (r159.Shows.set (0:Int).toNat (TicketShow.mk 2 r388.Ticket r388.Walker)) r159.Boxes),A163,c164,A165,c166,A167,c168,A169,c170),((TicketBook.mk r190.Tally r190.Fare r190.Tickets (r190.Shows.set (0:Int).toNat (TicketShow.mk r396.Trip 3 r396.Walker)) r190.Boxes),A194,c195,A196,c197,A198,c199,A200,c201),(r221,A225,c226,A227,c228,A229,c230,A231,c232),(r252,A256,c257,A258,c259,A260,c261,A262,c263),(r283,A287,c288,A289,c290,A291,c292,A293,c294),(r314,A318,c319,A320,c321,A322,c323,A324,c325)]) (i:=1) rfl (by simp only [List.flatMap_cons,List.flatMap_nil,nTicketBook,vB,List.length_set]) rfl
 try clear S402
 try simp only [List.set_cons_zero,List.set_cons_succ] at S403
 refine wp_nil<|c_seq<|reg<|p_mS rfl ?_
 refine p_ixE sc79 (rfl:getI [((TicketBook.mk (TallyBook.mk 0 0 ([]:List TallyCount)) 0 ([]:List TicketSeason) ([]:List TicketShow) ([]:List TicketBox)),none,0,none,0,none,0,none,0),((TicketBook.mk (TallyBook.mk 4 r4.Tally.Room r4.Tally.Counts) r4.Fare r4.Tickets r4.Shows r4.Boxes),A8,c9,A10,c11,A12,c13,A14,c15),((TicketBook.mk (TallyBook.mk r35.Tally.Trips 6 r35.Tally.Counts) r35.Fare r35.Tickets r35.Shows r35.Boxes),A39,c40,A41,c42,A43,c44,A45,c46),((TicketBook.mk r66.Tally 0 r66.Tickets r66.Shows r66.Boxes),A70,c71,A72,c73,A74,c75,A76,c77),((TicketBook.mk r97.Tally r97.Fare (r97.Tickets.set (1:Int).toNat (TicketSeason.mk 1 0)) r97.Shows r97.Boxes),A101,c102,A103,c104,A105,c106,A107,c108),((TicketBook.mk r128.Tally r128.Fare (r128.Tickets++([(TicketSeason.mk 0 0)]:List TicketSeason)) r128.Shows r128.Boxes),A132,c133,A380,c381,A136,c137,A138,c139),((TicketBook.mk r159.Tally r159.Fare r159.Tickets (r159.Shows.set (0:Int).toNat (TicketShow.mk 2 r388.Ticket r388.Walker)) r159.Boxes),A163,c164,A165,c166,A167,c168,A169,c170),((TicketBook.mk r190.Tally r190.Fare r190.Tickets (r190.Shows.set (0:Int).toNat (TicketShow.mk r396.Trip 3 r396.Walker)) r190.Boxes),A194,c195,A196,c197,A198,c199,A200,c201),(r221,A225,c226,A227,c228,A229,c230,A231,c232),(r252,A256,c257,A258,c259,A260,c261,A262,c263),(r283,A287,c288,A289,c290,A291,c292,A293,c294),(r314,A318,c319,A320,c321,A322,c323,A324,c325)] 8=some (r221,A225,c226,A227,c228,A229,c230,A231,c232)) (gr_sl nTicketBook_len (S403.atX (i:=1) rfl)) rfl rfl rfl ?_
 refine p_fldE fl29_3 (sl_here (gr_sl nTicketBook_len (S403.atX (i:=1) rfl)) (rfl:getI [((TicketBook.mk (TallyBook.mk 0 0 ([]:List TallyCount)) 0 ([]:List TicketSeason) ([]:List TicketShow) ([]:List TicketBox)),none,0,none,0,none,0,none,0),((TicketBook.mk (TallyBook.mk 4 r4.Tally.Room r4.Tally.Counts) r4.Fare r4.Tickets r4.Shows r4.Boxes),A8,c9,A10,c11,A12,c13,A14,c15),((TicketBook.mk (TallyBook.mk r35.Tally.Trips 6 r35.Tally.Counts) r35.Fare r35.Tickets r35.Shows r35.Boxes),A39,c40,A41,c42,A43,c44,A45,c46),((TicketBook.mk r66.Tally 0 r66.Tickets r66.Shows r66.Boxes),A70,c71,A72,c73,A74,c75,A76,c77),((TicketBook.mk r97.Tally r97.Fare (r97.Tickets.set (1:Int).toNat (TicketSeason.mk 1 0)) r97.Shows r97.Boxes),A101,c102,A103,c104,A105,c106,A107,c108),((TicketBook.mk r128.Tally r128.Fare (r128.Tickets++([(TicketSeason.mk 0 0)]:List TicketSeason)) r128.Shows r128.Boxes),A132,c133,A380,c381,A136,c137,A138,c139),((TicketBook.mk r159.Tally r159.Fare r159.Tickets (r159.Shows.set (0:Int).toNat (TicketShow.mk 2 r388.Ticket r388.Walker)) r159.Boxes),A163,c164,A165,c166,A167,c168,A169,c170),((TicketBook.mk r190.Tally r190.Fare r190.Tickets (r190.Shows.set (0:Int).toNat (TicketShow.mk r396.Trip 3 r396.Walker)) r190.Boxes),A194,c195,A196,c197,A198,c199,A200,c201),(r221,A225,c226,A227,c228,A229,c230,A231,c232),(r252,A256,c257,A258,c259,A260,c261,A262,c263),(r283,A287,c288,A289,c290,A291,c292,A293,c294),(r314,A318,c319,A320,c321,A322,c323,A324,c325)] 8=some (r221,A225,c226,A227,c228,A229,c230,A231,c232))) rfl ?_
 refine p_ldE ty26 (rfl:getI [((TicketBook.mk (TallyBook.mk 0 0 ([]:List TallyCount)) 0 ([]:List TicketSeason) ([]:List TicketShow) ([]:List TicketBox)),none,0,none,0,none,0,none,0),((TicketBook.mk (TallyBook.mk 4 r4.Tally.Room r4.Tally.Counts) r4.Fare r4.Tickets r4.Shows r4.Boxes),A8,c9,A10,c11,A12,c13,A14,c15),((TicketBook.mk (TallyBook.mk r35.Tally.Trips 6 r35.Tally.Counts) r35.Fare r35.Tickets r35.Shows r35.Boxes),A39,c40,A41,c42,A43,c44,A45,c46),((TicketBook.mk r66.Tally 0 r66.Tickets r66.Shows r66.Boxes),A70,c71,A72,c73,A74,c75,A76,c77),((TicketBook.mk r97.Tally r97.Fare (r97.Tickets.set (1:Int).toNat (TicketSeason.mk 1 0)) r97.Shows r97.Boxes),A101,c102,A103,c104,A105,c106,A107,c108),((TicketBook.mk r128.Tally r128.Fare (r128.Tickets++([(TicketSeason.mk 0 0)]:List TicketSeason)) r128.Shows r128.Boxes),A132,c133,A380,c381,A136,c137,A138,c139),((TicketBook.mk r159.Tally r159.Fare r159.Tickets (r159.Shows.set (0:Int).toNat (TicketShow.mk 2 r388.Ticket r388.Walker)) r159.Boxes),A163,c164,A165,c166,A167,c168,A169,c170),((TicketBook.mk r190.Tally r190.Fare r190.Tickets (r190.Shows.set (0:Int).toNat (TicketShow.mk r396.Trip 3 r396.Walker)) r190.Boxes),A194,c195,A196,c197,A198,c199,A200,c201),(r221,A225,c226,A227,c228,A229,c230,A231,c232),(r252,A256,c257,A258,c259,A260,c261,A262,c263),(r283,A287,c288,A289,c290,A291,c292,A293,c294),(r314,A318,c319,A320,c321,A322,c323,A324,c325)] 8=some (r221,A225,c226,A227,c228,A229,c230,A231,c232)) (gr_sl nTicketBook_len (S403.atX (i:=1) rfl)) rfl rfl ?_
 obtain ⟨r404,h405,H⟩:=bindS H
 refine p_ixE sc26 h405 (gr_sl eTicketShow_len (S403.atX (i:=16) rfl)) rfl rfl rfl<|p_fldE fl67_2 (sl_here (gr_sl eTicketShow_len (S403.atX (i:=16) rfl)) h405) rfl ?_
 refine p_stE (x' :=(TicketShow.mk r404.Trip r404.Ticket 10)) (a:=[I r404.Trip,I r404.Ticket]) (old:=[I r404.Walker]) (b:=[]) (vs:=[I 10]) sz3 eTicketShow_len eTicketShow_one S403 (i:=16) rfl h405 rfl (rfl:_=I 10) rfl rfl rfl rfl rfl rfl fun l408 w409 h406 h407 S410=>?_
 try clear S403
 obtain rfl:l408=(r221.Shows.set (0:Int).toNat (TicketShow.mk r404.Trip r404.Ticket 10)):=h406
 try rw [← h407]
 try rw [← h407] at S410
 have S411:=S410.grEq (l' :=[((TicketBook.mk (TallyBook.mk 0 0 ([]:List TallyCount)) 0 ([]:List TicketSeason) ([]:List TicketShow) ([]:List TicketBox)),none,0,none,0,none,0,none,0),((TicketBook.mk (TallyBook.mk 4 r4.Tally.Room r4.Tally.Counts) r4.Fare r4.Tickets r4.Shows r4.Boxes),A8,c9,A10,c11,A12,c13,A14,c15),((TicketBook.mk (TallyBook.mk r35.Tally.Trips 6 r35.Tally.Counts) r35.Fare r35.Tickets r35.Shows r35.Boxes),A39,c40,A41,c42,A43,c44,A45,c46),((TicketBook.mk r66.Tally 0 r66.Tickets r66.Shows r66.Boxes),A70,c71,A72,c73,A74,c75,A76,c77),((TicketBook.mk r97.Tally r97.Fare (r97.Tickets.set (1:Int).toNat (TicketSeason.mk 1 0)) r97.Shows r97.Boxes),A101,c102,A103,c104,A105,c106,A107,c108),((TicketBook.mk r128.Tally r128.Fare (r128.Tickets++([(TicketSeason.mk 0 0)]:List TicketSeason)) r128.Shows r128.Boxes),A132,c133,A380,c381,A136,c137,A138,c139),((TicketBook.mk r159.Tally r159.Fare r159.Tickets (r159.Shows.set (0:Int).toNat (TicketShow.mk 2 r388.Ticket r388.Walker)) r159.Boxes),A163,c164,A165,c166,A167,c168,A169,c170),((TicketBook.mk r190.Tally r190.Fare r190.Tickets (r190.Shows.set (0:Int).toNat (TicketShow.mk r396.Trip 3 r396.Walker)) r190.Boxes),A194,c195,A196,c197,A198,c199,A200,c201),((TicketBook.mk r221.Tally r221.Fare r221.Tickets (r221.Shows.set (0:Int).toNat (TicketShow.mk r404.Trip r404.Ticket 10)) r221.Boxes),A225,c226,A227,c228,A229,c230,A231,c232),(r252,A256,c257,A258,c259,A260,c261,A262,c263),(r283,A287,c288,A289,c290,A291,c292,A293,c294),(r314,A318,c319,A320,c321,A322,c323,A324,c325)]) (i:=1) rfl (by simp only [List.flatMap_cons,List.flatMap_nil,nTicketBook,vB,List.length_set]) rfl
 try clear S410
 try simp only [List.set_cons_zero,List.set_cons_succ] at S411
 refine wp_nil<|c_seq<|reg<|p_mS rfl ?_
 refine p_ixE sc79 (rfl:getI [((TicketBook.mk (TallyBook.mk 0 0 ([]:List TallyCount)) 0 ([]:List TicketSeason) ([]:List TicketShow) ([]:List TicketBox)),none,0,none,0,none,0,none,0),((TicketBook.mk (TallyBook.mk 4 r4.Tally.Room r4.Tally.Counts) r4.Fare r4.Tickets r4.Shows r4.Boxes),A8,c9,A10,c11,A12,c13,A14,c15),((TicketBook.mk (TallyBook.mk r35.Tally.Trips 6 r35.Tally.Counts) r35.Fare r35.Tickets r35.Shows r35.Boxes),A39,c40,A41,c42,A43,c44,A45,c46),((TicketBook.mk r66.Tally 0 r66.Tickets r66.Shows r66.Boxes),A70,c71,A72,c73,A74,c75,A76,c77),((TicketBook.mk r97.Tally r97.Fare (r97.Tickets.set (1:Int).toNat (TicketSeason.mk 1 0)) r97.Shows r97.Boxes),A101,c102,A103,c104,A105,c106,A107,c108),((TicketBook.mk r128.Tally r128.Fare (r128.Tickets++([(TicketSeason.mk 0 0)]:List TicketSeason)) r128.Shows r128.Boxes),A132,c133,A380,c381,A136,c137,A138,c139),((TicketBook.mk r159.Tally r159.Fare r159.Tickets (r159.Shows.set (0:Int).toNat (TicketShow.mk 2 r388.Ticket r388.Walker)) r159.Boxes),A163,c164,A165,c166,A167,c168,A169,c170),((TicketBook.mk r190.Tally r190.Fare r190.Tickets (r190.Shows.set (0:Int).toNat (TicketShow.mk r396.Trip 3 r396.Walker)) r190.Boxes),A194,c195,A196,c197,A198,c199,A200,c201),((TicketBook.mk r221.Tally r221.Fare r221.Tickets (r221.Shows.set (0:Int).toNat (TicketShow.mk r404.Trip r404.Ticket 10)) r221.Boxes),A225,c226,A227,c228,A229,c230,A231,c232),(r252,A256,c257,A258,c259,A260,c261,A262,c263),(r283,A287,c288,A289,c290,A291,c292,A293,c294),(r314,A318,c319,A320,c321,A322,c323,A324,c325)] 9=some (r252,A256,c257,A258,c259,A260,c261,A262,c263)) (gr_sl nTicketBook_len (S411.atX (i:=1) rfl)) rfl rfl rfl ?_
 refine p_fldE fl29_4 (sl_here (gr_sl nTicketBook_len (S411.atX (i:=1) rfl)) (rfl:getI [((TicketBook.mk (TallyBook.mk 0 0 ([]:List TallyCount)) 0 ([]:List TicketSeason) ([]:List TicketShow) ([]:List TicketBox)),none,0,none,0,none,0,none,0),((TicketBook.mk (TallyBook.mk 4 r4.Tally.Room r4.Tally.Counts) r4.Fare r4.Tickets r4.Shows r4.Boxes),A8,c9,A10,c11,A12,c13,A14,c15),((TicketBook.mk (TallyBook.mk r35.Tally.Trips 6 r35.Tally.Counts) r35.Fare r35.Tickets r35.Shows r35.Boxes),A39,c40,A41,c42,A43,c44,A45,c46),((TicketBook.mk r66.Tally 0 r66.Tickets r66.Shows r66.Boxes),A70,c71,A72,c73,A74,c75,A76,c77),((TicketBook.mk r97.Tally r97.Fare (r97.Tickets.set (1:Int).toNat (TicketSeason.mk 1 0)) r97.Shows r97.Boxes),A101,c102,A103,c104,A105,c106,A107,c108),((TicketBook.mk r128.Tally r128.Fare (r128.Tickets++([(TicketSeason.mk 0 0)]:List TicketSeason)) r128.Shows r128.Boxes),A132,c133,A380,c381,A136,c137,A138,c139),((TicketBook.mk r159.Tally r159.Fare r159.Tickets (r159.Shows.set (0:Int).toNat (TicketShow.mk 2 r388.Ticket r388.Walker)) r159.Boxes),A163,c164,A165,c166,A167,c168,A169,c170),((TicketBook.mk r190.Tally r190.Fare r190.Tickets (r190.Shows.set (0:Int).toNat (TicketShow.mk r396.Trip 3 r396.Walker)) r190.Boxes),A194,c195,A196,c197,A198,c199,A200,c201),((TicketBook.mk r221.Tally r221.Fare r221.Tickets (r221.Shows.set (0:Int).toNat (TicketShow.mk r404.Trip r404.Ticket 10)) r221.Boxes),A225,c226,A227,c228,A229,c230,A231,c232),(r252,A256,c257,A258,c259,A260,c261,A262,c263),(r283,A287,c288,A289,c290,A291,c292,A293,c294),(r314,A318,c319,A320,c321,A322,c323,A324,c325)] 9=some (r252,A256,c257,A258,c259,A260,c261,A262,c263))) rfl ?_
 refine p_ldE ty27 (rfl:getI [((TicketBook.mk (TallyBook.mk 0 0 ([]:List TallyCount)) 0 ([]:List TicketSeason) ([]:List TicketShow) ([]:List TicketBox)),none,0,none,0,none,0,none,0),((TicketBook.mk (TallyBook.mk 4 r4.Tally.Room r4.Tally.Counts) r4.Fare r4.Tickets r4.Shows r4.Boxes),A8,c9,A10,c11,A12,c13,A14,c15),((TicketBook.mk (TallyBook.mk r35.Tally.Trips 6 r35.Tally.Counts) r35.Fare r35.Tickets r35.Shows r35.Boxes),A39,c40,A41,c42,A43,c44,A45,c46),((TicketBook.mk r66.Tally 0 r66.Tickets r66.Shows r66.Boxes),A70,c71,A72,c73,A74,c75,A76,c77),((TicketBook.mk r97.Tally r97.Fare (r97.Tickets.set (1:Int).toNat (TicketSeason.mk 1 0)) r97.Shows r97.Boxes),A101,c102,A103,c104,A105,c106,A107,c108),((TicketBook.mk r128.Tally r128.Fare (r128.Tickets++([(TicketSeason.mk 0 0)]:List TicketSeason)) r128.Shows r128.Boxes),A132,c133,A380,c381,A136,c137,A138,c139),((TicketBook.mk r159.Tally r159.Fare r159.Tickets (r159.Shows.set (0:Int).toNat (TicketShow.mk 2 r388.Ticket r388.Walker)) r159.Boxes),A163,c164,A165,c166,A167,c168,A169,c170),((TicketBook.mk r190.Tally r190.Fare r190.Tickets (r190.Shows.set (0:Int).toNat (TicketShow.mk r396.Trip 3 r396.Walker)) r190.Boxes),A194,c195,A196,c197,A198,c199,A200,c201),((TicketBook.mk r221.Tally r221.Fare r221.Tickets (r221.Shows.set (0:Int).toNat (TicketShow.mk r404.Trip r404.Ticket 10)) r221.Boxes),A225,c226,A227,c228,A229,c230,A231,c232),(r252,A256,c257,A258,c259,A260,c261,A262,c263),(r283,A287,c288,A289,c290,A291,c292,A293,c294),(r314,A318,c319,A320,c321,A322,c323,A324,c325)] 9=some (r252,A256,c257,A258,c259,A260,c261,A262,c263)) (gr_sl nTicketBook_len (S411.atX (i:=1) rfl)) rfl rfl ?_
 obtain ⟨r412,h413,H⟩:=bindS H
 refine p_ixE sc27 h413 (gr_sl eTicketBox_len (S411.atX (i:=13) rfl)) rfl rfl rfl<|p_fldE fl72_1 (sl_here (gr_sl eTicketBox_len (S411.atX (i:=13) rfl)) h413) rfl ?_
 refine p_stE (x' :=(TicketBox.mk r412.From 2 r412.Pence r412.Lost)) (a:=[I r412.From]) (old:=[I r412.To]) (b:=[I r412.Pence,I r412.Lost]) (vs:=[I 2]) sz3 eTicketBox_len eTicketBox_one S411 (i:=13) rfl h413 rfl (rfl:_=I 2) rfl rfl rfl rfl rfl rfl fun l416 w417 h414 h415 S418=>?_
 try clear S411
 obtain rfl:l416=(r252.Boxes.set (0:Int).toNat (TicketBox.mk r412.From 2 r412.Pence r412.Lost)):=h414
 try rw [← h415]
 try rw [← h415] at S418
 have S419:=S418.grEq (l' :=[((TicketBook.mk (TallyBook.mk 0 0 ([]:List TallyCount)) 0 ([]:List TicketSeason) ([]:List TicketShow) ([]:List TicketBox)),none,0,none,0,none,0,none,0),((TicketBook.mk (TallyBook.mk 4 r4.Tally.Room r4.Tally.Counts) r4.Fare r4.Tickets r4.Shows r4.Boxes),A8,c9,A10,c11,A12,c13,A14,c15),((TicketBook.mk (TallyBook.mk r35.Tally.Trips 6 r35.Tally.Counts) r35.Fare r35.Tickets r35.Shows r35.Boxes),A39,c40,A41,c42,A43,c44,A45,c46),((TicketBook.mk r66.Tally 0 r66.Tickets r66.Shows r66.Boxes),A70,c71,A72,c73,A74,c75,A76,c77),((TicketBook.mk r97.Tally r97.Fare (r97.Tickets.set (1:Int).toNat (TicketSeason.mk 1 0)) r97.Shows r97.Boxes),A101,c102,A103,c104,A105,c106,A107,c108),((TicketBook.mk r128.Tally r128.Fare (r128.Tickets++([(TicketSeason.mk 0 0)]:List TicketSeason)) r128.Shows r128.Boxes),A132,c133,A380,c381,A136,c137,A138,c139),((TicketBook.mk r159.Tally r159.Fare r159.Tickets (r159.Shows.set (0:Int).toNat (TicketShow.mk 2 r388.Ticket r388.Walker)) r159.Boxes),A163,c164,A165,c166,A167,c168,A169,c170),((TicketBook.mk r190.Tally r190.Fare r190.Tickets (r190.Shows.set (0:Int).toNat (TicketShow.mk r396.Trip 3 r396.Walker)) r190.Boxes),A194,c195,A196,c197,A198,c199,A200,c201),((TicketBook.mk r221.Tally r221.Fare r221.Tickets (r221.Shows.set (0:Int).toNat (TicketShow.mk r404.Trip r404.Ticket 10)) r221.Boxes),A225,c226,A227,c228,A229,c230,A231,c232),((TicketBook.mk r252.Tally r252.Fare r252.Tickets r252.Shows (r252.Boxes.set (0:Int).toNat (TicketBox.mk r412.From 2 r412.Pence r412.Lost))),A256,c257,A258,c259,A260,c261,A262,c263),(r283,A287,c288,A289,c290,A291,c292,A293,c294),(r314,A318,c319,A320,c321,A322,c323,A324,c325)]) (i:=1) rfl (by simp only [List.flatMap_cons,List.flatMap_nil,nTicketBook,vB,List.length_set]) rfl
 try clear S418
 try simp only [List.set_cons_zero,List.set_cons_succ] at S419
 refine wp_nil<|c_seq<|reg<|p_mS rfl ?_
 refine p_ixE sc79 (rfl:getI [((TicketBook.mk (TallyBook.mk 0 0 ([]:List TallyCount)) 0 ([]:List TicketSeason) ([]:List TicketShow) ([]:List TicketBox)),none,0,none,0,none,0,none,0),((TicketBook.mk (TallyBook.mk 4 r4.Tally.Room r4.Tally.Counts) r4.Fare r4.Tickets r4.Shows r4.Boxes),A8,c9,A10,c11,A12,c13,A14,c15),((TicketBook.mk (TallyBook.mk r35.Tally.Trips 6 r35.Tally.Counts) r35.Fare r35.Tickets r35.Shows r35.Boxes),A39,c40,A41,c42,A43,c44,A45,c46),((TicketBook.mk r66.Tally 0 r66.Tickets r66.Shows r66.Boxes),A70,c71,A72,c73,A74,c75,A76,c77),((TicketBook.mk r97.Tally r97.Fare (r97.Tickets.set (1:Int).toNat (TicketSeason.mk 1 0)) r97.Shows r97.Boxes),A101,c102,A103,c104,A105,c106,A107,c108),((TicketBook.mk r128.Tally r128.Fare (r128.Tickets++([(TicketSeason.mk 0 0)]:List TicketSeason)) r128.Shows r128.Boxes),A132,c133,A380,c381,A136,c137,A138,c139),((TicketBook.mk r159.Tally r159.Fare r159.Tickets (r159.Shows.set (0:Int).toNat (TicketShow.mk 2 r388.Ticket r388.Walker)) r159.Boxes),A163,c164,A165,c166,A167,c168,A169,c170),((TicketBook.mk r190.Tally r190.Fare r190.Tickets (r190.Shows.set (0:Int).toNat (TicketShow.mk r396.Trip 3 r396.Walker)) r190.Boxes),A194,c195,A196,c197,A198,c199,A200,c201),((TicketBook.mk r221.Tally r221.Fare r221.Tickets (r221.Shows.set (0:Int).toNat (TicketShow.mk r404.Trip r404.Ticket 10)) r221.Boxes),A225,c226,A227,c228,A229,c230,A231,c232),((TicketBook.mk r252.Tally r252.Fare r252.Tickets r252.Shows (r252.Boxes.set (0:Int).toNat (TicketBox.mk r412.From 2 r412.Pence r412.Lost))),A256,c257,A258,c259,A260,c261,A262,c263),(r283,A287,c288,A289,c290,A291,c292,A293,c294),(r314,A318,c319,A320,c321,A322,c323,A324,c325)] 10=some (r283,A287,c288,A289,c290,A291,c292,A293,c294)) (gr_sl nTicketBook_len (S419.atX (i:=1) rfl)) rfl rfl rfl ?_
 refine p_fldE fl29_4 (sl_here (gr_sl nTicketBook_len (S419.atX (i:=1) rfl)) (rfl:getI [((TicketBook.mk (TallyBook.mk 0 0 ([]:List TallyCount)) 0 ([]:List TicketSeason) ([]:List TicketShow) ([]:List TicketBox)),none,0,none,0,none,0,none,0),((TicketBook.mk (TallyBook.mk 4 r4.Tally.Room r4.Tally.Counts) r4.Fare r4.Tickets r4.Shows r4.Boxes),A8,c9,A10,c11,A12,c13,A14,c15),((TicketBook.mk (TallyBook.mk r35.Tally.Trips 6 r35.Tally.Counts) r35.Fare r35.Tickets r35.Shows r35.Boxes),A39,c40,A41,c42,A43,c44,A45,c46),((TicketBook.mk r66.Tally 0 r66.Tickets r66.Shows r66.Boxes),A70,c71,A72,c73,A74,c75,A76,c77),((TicketBook.mk r97.Tally r97.Fare (r97.Tickets.set (1:Int).toNat (TicketSeason.mk 1 0)) r97.Shows r97.Boxes),A101,c102,A103,c104,A105,c106,A107,c108),((TicketBook.mk r128.Tally r128.Fare (r128.Tickets++([(TicketSeason.mk 0 0)]:List TicketSeason)) r128.Shows r128.Boxes),A132,c133,A380,c381,A136,c137,A138,c139),((TicketBook.mk r159.Tally r159.Fare r159.Tickets (r159.Shows.set (0:Int).toNat (TicketShow.mk 2 r388.Ticket r388.Walker)) r159.Boxes),A163,c164,A165,c166,A167,c168,A169,c170),((TicketBook.mk r190.Tally r190.Fare r190.Tickets (r190.Shows.set (0:Int).toNat (TicketShow.mk r396.Trip 3 r396.Walker)) r190.Boxes),A194,c195,A196,c197,A198,c199,A200,c201),((TicketBook.mk r221.Tally r221.Fare r221.Tickets (r221.Shows.set (0:Int).toNat (TicketShow.mk r404.Trip r404.Ticket 10)) r221.Boxes),A225,c226,A227,c228,A229,c230,A231,c232),((TicketBook.mk r252.Tally r252.Fare r252.Tickets r252.Shows (r252.Boxes.set (0:Int).toNat (TicketBox.mk r412.From 2 r412.Pence r412.Lost))),A256,c257,A258,c259,A260,c261,A262,c263),(r283,A287,c288,A289,c290,A291,c292,A293,c294),(r314,A318,c319,A320,c321,A322,c323,A324,c325)] 10=some (r283,A287,c288,A289,c290,A291,c292,A293,c294))) rfl ?_
 refine p_ldE ty27 (rfl:getI [((TicketBook.mk (TallyBook.mk 0 0 ([]:List TallyCount)) 0 ([]:List TicketSeason) ([]:List TicketShow) ([]:List TicketBox)),none,0,none,0,none,0,none,0),((TicketBook.mk (TallyBook.mk 4 r4.Tally.Room r4.Tally.Counts) r4.Fare r4.Tickets r4.Shows r4.Boxes),A8,c9,A10,c11,A12,c13,A14,c15),((TicketBook.mk (TallyBook.mk r35.Tally.Trips 6 r35.Tally.Counts) r35.Fare r35.Tickets r35.Shows r35.Boxes),A39,c40,A41,c42,A43,c44,A45,c46),((TicketBook.mk r66.Tally 0 r66.Tickets r66.Shows r66.Boxes),A70,c71,A72,c73,A74,c75,A76,c77),((TicketBook.mk r97.Tally r97.Fare (r97.Tickets.set (1:Int).toNat (TicketSeason.mk 1 0)) r97.Shows r97.Boxes),A101,c102,A103,c104,A105,c106,A107,c108),((TicketBook.mk r128.Tally r128.Fare (r128.Tickets++([(TicketSeason.mk 0 0)]:List TicketSeason)) r128.Shows r128.Boxes),A132,c133,A380,c381,A136,c137,A138,c139),((TicketBook.mk r159.Tally r159.Fare r159.Tickets (r159.Shows.set (0:Int).toNat (TicketShow.mk 2 r388.Ticket r388.Walker)) r159.Boxes),A163,c164,A165,c166,A167,c168,A169,c170),((TicketBook.mk r190.Tally r190.Fare r190.Tickets (r190.Shows.set (0:Int).toNat (TicketShow.mk r396.Trip 3 r396.Walker)) r190.Boxes),A194,c195,A196,c197,A198,c199,A200,c201),((TicketBook.mk r221.Tally r221.Fare r221.Tickets (r221.Shows.set (0:Int).toNat (TicketShow.mk r404.Trip r404.Ticket 10)) r221.Boxes),A225,c226,A227,c228,A229,c230,A231,c232),((TicketBook.mk r252.Tally r252.Fare r252.Tickets r252.Shows (r252.Boxes.set (0:Int).toNat (TicketBox.mk r412.From 2 r412.Pence r412.Lost))),A256,c257,A258,c259,A260,c261,A262,c263),(r283,A287,c288,A289,c290,A291,c292,A293,c294),(r314,A318,c319,A320,c321,A322,c323,A324,c325)] 10=some (r283,A287,c288,A289,c290,A291,c292,A293,c294)) (gr_sl nTicketBook_len (S419.atX (i:=1) rfl)) rfl rfl ?_
 obtain ⟨r420,h421,H⟩:=bindS H
 refine p_ixE sc27 h421 (gr_sl eTicketBox_len (S419.atX (i:=9) rfl)) rfl rfl rfl<|p_fldE fl72_3 (sl_here (gr_sl eTicketBox_len (S419.atX (i:=9) rfl)) h421) rfl ?_
 refine p_stE (x' :=(TicketBox.mk r420.From r420.To r420.Pence 41)) (a:=[I r420.From,I r420.To,I r420.Pence]) (old:=[I r420.Lost]) (b:=[]) (vs:=[I 41]) sz3 eTicketBox_len eTicketBox_one S419 (i:=9) rfl h421 rfl (rfl:_=I 41) rfl rfl rfl rfl rfl rfl fun l424 w425 h422 h423 S426=>?_
 try clear S419
 obtain rfl:l424=(r283.Boxes.set (0:Int).toNat (TicketBox.mk r420.From r420.To r420.Pence 41)):=h422
 try rw [← h423]
 try rw [← h423] at S426
 have S427:=S426.grEq (l' :=[((TicketBook.mk (TallyBook.mk 0 0 ([]:List TallyCount)) 0 ([]:List TicketSeason) ([]:List TicketShow) ([]:List TicketBox)),none,0,none,0,none,0,none,0),((TicketBook.mk (TallyBook.mk 4 r4.Tally.Room r4.Tally.Counts) r4.Fare r4.Tickets r4.Shows r4.Boxes),A8,c9,A10,c11,A12,c13,A14,c15),((TicketBook.mk (TallyBook.mk r35.Tally.Trips 6 r35.Tally.Counts) r35.Fare r35.Tickets r35.Shows r35.Boxes),A39,c40,A41,c42,A43,c44,A45,c46),((TicketBook.mk r66.Tally 0 r66.Tickets r66.Shows r66.Boxes),A70,c71,A72,c73,A74,c75,A76,c77),((TicketBook.mk r97.Tally r97.Fare (r97.Tickets.set (1:Int).toNat (TicketSeason.mk 1 0)) r97.Shows r97.Boxes),A101,c102,A103,c104,A105,c106,A107,c108),((TicketBook.mk r128.Tally r128.Fare (r128.Tickets++([(TicketSeason.mk 0 0)]:List TicketSeason)) r128.Shows r128.Boxes),A132,c133,A380,c381,A136,c137,A138,c139),((TicketBook.mk r159.Tally r159.Fare r159.Tickets (r159.Shows.set (0:Int).toNat (TicketShow.mk 2 r388.Ticket r388.Walker)) r159.Boxes),A163,c164,A165,c166,A167,c168,A169,c170),((TicketBook.mk r190.Tally r190.Fare r190.Tickets (r190.Shows.set (0:Int).toNat (TicketShow.mk r396.Trip 3 r396.Walker)) r190.Boxes),A194,c195,A196,c197,A198,c199,A200,c201),((TicketBook.mk r221.Tally r221.Fare r221.Tickets (r221.Shows.set (0:Int).toNat (TicketShow.mk r404.Trip r404.Ticket 10)) r221.Boxes),A225,c226,A227,c228,A229,c230,A231,c232),((TicketBook.mk r252.Tally r252.Fare r252.Tickets r252.Shows (r252.Boxes.set (0:Int).toNat (TicketBox.mk r412.From 2 r412.Pence r412.Lost))),A256,c257,A258,c259,A260,c261,A262,c263),((TicketBook.mk r283.Tally r283.Fare r283.Tickets r283.Shows (r283.Boxes.set (0:Int).toNat (TicketBox.mk r420.From r420.To r420.Pence 41))),A287,c288,A289,c290,A291,c292,A293,c294),(r314,A318,c319,A320,c321,A322,c323,A324,c325)]) (i:=1) rfl (by simp only [List.flatMap_cons,List.flatMap_nil,nTicketBook,vB,List.length_set]) rfl
 try clear S426
 try simp only [List.set_cons_zero,List.set_cons_succ] at S427
 refine wp_nil<|c_seq<|reg<|p_mS rfl<|p_mkS (enc:=eTicketShow) (x0:=(TicketShow.mk 0 0 0)) (k:=6) sc26 in67 eTicketShow_len rfl (by decide) (by decide) S427 rfl rfl fun A428 w429 S430=>?_
 try clear S427
 refine p_ixE sc79 (rfl:getI [((TicketBook.mk (TallyBook.mk 0 0 ([]:List TallyCount)) 0 ([]:List TicketSeason) ([]:List TicketShow) ([]:List TicketBox)),none,0,none,0,none,0,none,0),((TicketBook.mk (TallyBook.mk 4 r4.Tally.Room r4.Tally.Counts) r4.Fare r4.Tickets r4.Shows r4.Boxes),A8,c9,A10,c11,A12,c13,A14,c15),((TicketBook.mk (TallyBook.mk r35.Tally.Trips 6 r35.Tally.Counts) r35.Fare r35.Tickets r35.Shows r35.Boxes),A39,c40,A41,c42,A43,c44,A45,c46),((TicketBook.mk r66.Tally 0 r66.Tickets r66.Shows r66.Boxes),A70,c71,A72,c73,A74,c75,A76,c77),((TicketBook.mk r97.Tally r97.Fare (r97.Tickets.set (1:Int).toNat (TicketSeason.mk 1 0)) r97.Shows r97.Boxes),A101,c102,A103,c104,A105,c106,A107,c108),((TicketBook.mk r128.Tally r128.Fare (r128.Tickets++([(TicketSeason.mk 0 0)]:List TicketSeason)) r128.Shows r128.Boxes),A132,c133,A380,c381,A136,c137,A138,c139),((TicketBook.mk r159.Tally r159.Fare r159.Tickets (r159.Shows.set (0:Int).toNat (TicketShow.mk 2 r388.Ticket r388.Walker)) r159.Boxes),A163,c164,A165,c166,A167,c168,A169,c170),((TicketBook.mk r190.Tally r190.Fare r190.Tickets (r190.Shows.set (0:Int).toNat (TicketShow.mk r396.Trip 3 r396.Walker)) r190.Boxes),A194,c195,A196,c197,A198,c199,A200,c201),((TicketBook.mk r221.Tally r221.Fare r221.Tickets (r221.Shows.set (0:Int).toNat (TicketShow.mk r404.Trip r404.Ticket 10)) r221.Boxes),A225,c226,A227,c228,A229,c230,A231,c232),((TicketBook.mk r252.Tally r252.Fare r252.Tickets r252.Shows (r252.Boxes.set (0:Int).toNat (TicketBox.mk r412.From 2 r412.Pence r412.Lost))),A256,c257,A258,c259,A260,c261,A262,c263),((TicketBook.mk r283.Tally r283.Fare r283.Tickets r283.Shows (r283.Boxes.set (0:Int).toNat (TicketBox.mk r420.From r420.To r420.Pence 41))),A287,c288,A289,c290,A291,c292,A293,c294),(r314,A318,c319,A320,c321,A322,c323,A324,c325)] 11=some (r314,A318,c319,A320,c321,A322,c323,A324,c325)) (gr_sl nTicketBook_len (S430.atX (i:=2) rfl)) rfl rfl rfl ?_
 refine p_fldE fl29_3 (sl_here (gr_sl nTicketBook_len (S430.atX (i:=2) rfl)) (rfl:getI [((TicketBook.mk (TallyBook.mk 0 0 ([]:List TallyCount)) 0 ([]:List TicketSeason) ([]:List TicketShow) ([]:List TicketBox)),none,0,none,0,none,0,none,0),((TicketBook.mk (TallyBook.mk 4 r4.Tally.Room r4.Tally.Counts) r4.Fare r4.Tickets r4.Shows r4.Boxes),A8,c9,A10,c11,A12,c13,A14,c15),((TicketBook.mk (TallyBook.mk r35.Tally.Trips 6 r35.Tally.Counts) r35.Fare r35.Tickets r35.Shows r35.Boxes),A39,c40,A41,c42,A43,c44,A45,c46),((TicketBook.mk r66.Tally 0 r66.Tickets r66.Shows r66.Boxes),A70,c71,A72,c73,A74,c75,A76,c77),((TicketBook.mk r97.Tally r97.Fare (r97.Tickets.set (1:Int).toNat (TicketSeason.mk 1 0)) r97.Shows r97.Boxes),A101,c102,A103,c104,A105,c106,A107,c108),((TicketBook.mk r128.Tally r128.Fare (r128.Tickets++([(TicketSeason.mk 0 0)]:List TicketSeason)) r128.Shows r128.Boxes),A132,c133,A380,c381,A136,c137,A138,c139),((TicketBook.mk r159.Tally r159.Fare r159.Tickets (r159.Shows.set (0:Int).toNat (TicketShow.mk 2 r388.Ticket r388.Walker)) r159.Boxes),A163,c164,A165,c166,A167,c168,A169,c170),((TicketBook.mk r190.Tally r190.Fare r190.Tickets (r190.Shows.set (0:Int).toNat (TicketShow.mk r396.Trip 3 r396.Walker)) r190.Boxes),A194,c195,A196,c197,A198,c199,A200,c201),((TicketBook.mk r221.Tally r221.Fare r221.Tickets (r221.Shows.set (0:Int).toNat (TicketShow.mk r404.Trip r404.Ticket 10)) r221.Boxes),A225,c226,A227,c228,A229,c230,A231,c232),((TicketBook.mk r252.Tally r252.Fare r252.Tickets r252.Shows (r252.Boxes.set (0:Int).toNat (TicketBox.mk r412.From 2 r412.Pence r412.Lost))),A256,c257,A258,c259,A260,c261,A262,c263),((TicketBook.mk r283.Tally r283.Fare r283.Tickets r283.Shows (r283.Boxes.set (0:Int).toNat (TicketBox.mk r420.From r420.To r420.Pence 41))),A287,c288,A289,c290,A291,c292,A293,c294),(r314,A318,c319,A320,c321,A322,c323,A324,c325)] 11=some (r314,A318,c319,A320,c321,A322,c323,A324,c325))) rfl ?_
 refine p_stE (x' :=((TicketBook.mk r314.Tally r314.Fare r314.Tickets (List.replicate 6 (TicketShow.mk 0 0 0)) r314.Boxes),A318,c319,A320,c321,A428,6,A324,c325)) (a:=[I r314.Tally.Trips,I r314.Tally.Room,SL A318 r314.Tally.Counts.length c319,I r314.Fare,SL A320 r314.Tickets.length c321]) (old:=[SL A322 r314.Shows.length c323]) (b:=[SL A324 r314.Boxes.length c325]) (vs:=[SL A428 (List.replicate 6 (TicketShow.mk 0 0 0)).length 6]) sz26 nTicketBook_len nTicketBook_one S430 (i:=2) rfl (rfl:getI [((TicketBook.mk (TallyBook.mk 0 0 ([]:List TallyCount)) 0 ([]:List TicketSeason) ([]:List TicketShow) ([]:List TicketBox)),none,0,none,0,none,0,none,0),((TicketBook.mk (TallyBook.mk 4 r4.Tally.Room r4.Tally.Counts) r4.Fare r4.Tickets r4.Shows r4.Boxes),A8,c9,A10,c11,A12,c13,A14,c15),((TicketBook.mk (TallyBook.mk r35.Tally.Trips 6 r35.Tally.Counts) r35.Fare r35.Tickets r35.Shows r35.Boxes),A39,c40,A41,c42,A43,c44,A45,c46),((TicketBook.mk r66.Tally 0 r66.Tickets r66.Shows r66.Boxes),A70,c71,A72,c73,A74,c75,A76,c77),((TicketBook.mk r97.Tally r97.Fare (r97.Tickets.set (1:Int).toNat (TicketSeason.mk 1 0)) r97.Shows r97.Boxes),A101,c102,A103,c104,A105,c106,A107,c108),((TicketBook.mk r128.Tally r128.Fare (r128.Tickets++([(TicketSeason.mk 0 0)]:List TicketSeason)) r128.Shows r128.Boxes),A132,c133,A380,c381,A136,c137,A138,c139),((TicketBook.mk r159.Tally r159.Fare r159.Tickets (r159.Shows.set (0:Int).toNat (TicketShow.mk 2 r388.Ticket r388.Walker)) r159.Boxes),A163,c164,A165,c166,A167,c168,A169,c170),((TicketBook.mk r190.Tally r190.Fare r190.Tickets (r190.Shows.set (0:Int).toNat (TicketShow.mk r396.Trip 3 r396.Walker)) r190.Boxes),A194,c195,A196,c197,A198,c199,A200,c201),((TicketBook.mk r221.Tally r221.Fare r221.Tickets (r221.Shows.set (0:Int).toNat (TicketShow.mk r404.Trip r404.Ticket 10)) r221.Boxes),A225,c226,A227,c228,A229,c230,A231,c232),((TicketBook.mk r252.Tally r252.Fare r252.Tickets r252.Shows (r252.Boxes.set (0:Int).toNat (TicketBox.mk r412.From 2 r412.Pence r412.Lost))),A256,c257,A258,c259,A260,c261,A262,c263),((TicketBook.mk r283.Tally r283.Fare r283.Tickets r283.Shows (r283.Boxes.set (0:Int).toNat (TicketBox.mk r420.From r420.To r420.Pence 41))),A287,c288,A289,c290,A291,c292,A293,c294),(r314,A318,c319,A320,c321,A322,c323,A324,c325)] 11=some (r314,A318,c319,A320,c321,A322,c323,A324,c325)) rfl (rfl:_=SL A428 (List.replicate 6 (TicketShow.mk 0 0 0)).length 6) rfl rfl rfl rfl rfl rfl fun l434 w435 h432 h433 S436=>?_
 try clear S430
 obtain rfl:l434=[((TicketBook.mk (TallyBook.mk 0 0 ([]:List TallyCount)) 0 ([]:List TicketSeason) ([]:List TicketShow) ([]:List TicketBox)),none,0,none,0,none,0,none,0),((TicketBook.mk (TallyBook.mk 4 r4.Tally.Room r4.Tally.Counts) r4.Fare r4.Tickets r4.Shows r4.Boxes),A8,c9,A10,c11,A12,c13,A14,c15),((TicketBook.mk (TallyBook.mk r35.Tally.Trips 6 r35.Tally.Counts) r35.Fare r35.Tickets r35.Shows r35.Boxes),A39,c40,A41,c42,A43,c44,A45,c46),((TicketBook.mk r66.Tally 0 r66.Tickets r66.Shows r66.Boxes),A70,c71,A72,c73,A74,c75,A76,c77),((TicketBook.mk r97.Tally r97.Fare (r97.Tickets.set (1:Int).toNat (TicketSeason.mk 1 0)) r97.Shows r97.Boxes),A101,c102,A103,c104,A105,c106,A107,c108),((TicketBook.mk r128.Tally r128.Fare (r128.Tickets++([(TicketSeason.mk 0 0)]:List TicketSeason)) r128.Shows r128.Boxes),A132,c133,A380,c381,A136,c137,A138,c139),((TicketBook.mk r159.Tally r159.Fare r159.Tickets (r159.Shows.set (0:Int).toNat (TicketShow.mk 2 r388.Ticket r388.Walker)) r159.Boxes),A163,c164,A165,c166,A167,c168,A169,c170),((TicketBook.mk r190.Tally r190.Fare r190.Tickets (r190.Shows.set (0:Int).toNat (TicketShow.mk r396.Trip 3 r396.Walker)) r190.Boxes),A194,c195,A196,c197,A198,c199,A200,c201),((TicketBook.mk r221.Tally r221.Fare r221.Tickets (r221.Shows.set (0:Int).toNat (TicketShow.mk r404.Trip r404.Ticket 10)) r221.Boxes),A225,c226,A227,c228,A229,c230,A231,c232),((TicketBook.mk r252.Tally r252.Fare r252.Tickets r252.Shows (r252.Boxes.set (0:Int).toNat (TicketBox.mk r412.From 2 r412.Pence r412.Lost))),A256,c257,A258,c259,A260,c261,A262,c263),((TicketBook.mk r283.Tally r283.Fare r283.Tickets r283.Shows (r283.Boxes.set (0:Int).toNat (TicketBox.mk r420.From r420.To r420.Pence 41))),A287,c288,A289,c290,A291,c292,A293,c294),((TicketBook.mk r314.Tally r314.Fare r314.Tickets (List.replicate 6 (TicketShow.mk 0 0 0)) r314.Boxes),A318,c319,A320,c321,A428,6,A324,c325)]:=h432
 refine wp_nil<|c_seq<|c_seq<|reg<|p_aI rfl<|wp_nil<|c_block ?_
 have S437:St w nF w435 [gr eTicketShow 3 67 A428 6 (List.replicate 6 (TicketShow.mk 0 0 0)),gr eTicketSeason 2 65 A373 c374 ([(TicketSeason.mk 0 0)]:List TicketSeason),gr nTicketBook 7 29 A345 c346 [((TicketBook.mk (TallyBook.mk 0 0 ([]:List TallyCount)) 0 ([]:List TicketSeason) ([]:List TicketShow) ([]:List TicketBox)),none,0,none,0,none,0,none,0),((TicketBook.mk (TallyBook.mk 4 r4.Tally.Room r4.Tally.Counts) r4.Fare r4.Tickets r4.Shows r4.Boxes),A8,c9,A10,c11,A12,c13,A14,c15),((TicketBook.mk (TallyBook.mk r35.Tally.Trips 6 r35.Tally.Counts) r35.Fare r35.Tickets r35.Shows r35.Boxes),A39,c40,A41,c42,A43,c44,A45,c46),((TicketBook.mk r66.Tally 0 r66.Tickets r66.Shows r66.Boxes),A70,c71,A72,c73,A74,c75,A76,c77),((TicketBook.mk r97.Tally r97.Fare (r97.Tickets.set (1:Int).toNat (TicketSeason.mk 1 0)) r97.Shows r97.Boxes),A101,c102,A103,c104,A105,c106,A107,c108),((TicketBook.mk r128.Tally r128.Fare (r128.Tickets++([(TicketSeason.mk 0 0)]:List TicketSeason)) r128.Shows r128.Boxes),A132,c133,A380,c381,A136,c137,A138,c139),((TicketBook.mk r159.Tally r159.Fare r159.Tickets (r159.Shows.set (0:Int).toNat (TicketShow.mk 2 r388.Ticket r388.Walker)) r159.Boxes),A163,c164,A165,c166,A167,c168,A169,c170),((TicketBook.mk r190.Tally r190.Fare r190.Tickets (r190.Shows.set (0:Int).toNat (TicketShow.mk r396.Trip 3 r396.Walker)) r190.Boxes),A194,c195,A196,c197,A198,c199,A200,c201),((TicketBook.mk r221.Tally r221.Fare r221.Tickets (r221.Shows.set (0:Int).toNat (TicketShow.mk r404.Trip r404.Ticket 10)) r221.Boxes),A225,c226,A227,c228,A229,c230,A231,c232),((TicketBook.mk r252.Tally r252.Fare r252.Tickets r252.Shows (r252.Boxes.set (0:Int).toNat (TicketBox.mk r412.From 2 r412.Pence r412.Lost))),A256,c257,A258,c259,A260,c261,A262,c263),((TicketBook.mk r283.Tally r283.Fare r283.Tickets r283.Shows (r283.Boxes.set (0:Int).toNat (TicketBox.mk r420.From r420.To r420.Pence 41))),A287,c288,A289,c290,A291,c292,A293,c294),((TicketBook.mk r314.Tally r314.Fare r314.Tickets (List.replicate 6 (TicketShow.mk 0 0 0)) r314.Boxes),A318,c319,A320,c321,A428,6,A324,c325)],gr eTallyCount 7 81 A318 c319 r314.Tally.Counts,gr eTicketSeason 2 65 A320 c321 r314.Tickets,gr eTicketShow 3 67 A322 c323 r314.Shows,gr eTicketBox 4 72 A324 c325 r314.Boxes,gr eTallyCount 7 81 A287 c288 r283.Tally.Counts,gr eTicketSeason 2 65 A289 c290 r283.Tickets,gr eTicketShow 3 67 A291 c292 r283.Shows,gr eTicketBox 4 72 A293 c294 (r283.Boxes.set (0:Int).toNat (TicketBox.mk r420.From r420.To r420.Pence 41)),gr eTallyCount 7 81 A256 c257 r252.Tally.Counts,gr eTicketSeason 2 65 A258 c259 r252.Tickets,gr eTicketShow 3 67 A260 c261 r252.Shows,gr eTicketBox 4 72 A262 c263 (r252.Boxes.set (0:Int).toNat (TicketBox.mk r412.From 2 r412.Pence r412.Lost)),gr eTallyCount 7 81 A225 c226 r221.Tally.Counts,gr eTicketSeason 2 65 A227 c228 r221.Tickets,gr eTicketShow 3 67 A229 c230 (r221.Shows.set (0:Int).toNat (TicketShow.mk r404.Trip r404.Ticket 10)),gr eTicketBox 4 72 A231 c232 r221.Boxes,gr eTallyCount 7 81 A194 c195 r190.Tally.Counts,gr eTicketSeason 2 65 A196 c197 r190.Tickets,gr eTicketShow 3 67 A198 c199 (r190.Shows.set (0:Int).toNat (TicketShow.mk r396.Trip 3 r396.Walker)),gr eTicketBox 4 72 A200 c201 r190.Boxes,gr eTallyCount 7 81 A163 c164 r159.Tally.Counts,gr eTicketSeason 2 65 A165 c166 r159.Tickets,gr eTicketShow 3 67 A167 c168 (r159.Shows.set (0:Int).toNat (TicketShow.mk 2 r388.Ticket r388.Walker)),gr eTicketBox 4 72 A169 c170 r159.Boxes,gr eTallyCount 7 81 A132 c133 r128.Tally.Counts,gr eTicketSeason 2 65 A380 c381 (r128.Tickets++([(TicketSeason.mk 0 0)]:List TicketSeason)),gr eTicketShow 3 67 A136 c137 r128.Shows,gr eTicketBox 4 72 A138 c139 r128.Boxes,gr eTallyCount 7 81 A101 c102 r97.Tally.Counts,gr eTicketSeason 2 65 A103 c104 (r97.Tickets.set (1:Int).toNat (TicketSeason.mk 1 0)),gr eTicketShow 3 67 A105 c106 r97.Shows,gr eTicketBox 4 72 A107 c108 r97.Boxes,gr eTallyCount 7 81 A70 c71 r66.Tally.Counts,gr eTicketSeason 2 65 A72 c73 r66.Tickets,gr eTicketShow 3 67 A74 c75 r66.Shows,gr eTicketBox 4 72 A76 c77 r66.Boxes,gr eTallyCount 7 81 A39 c40 r35.Tally.Counts,gr eTicketSeason 2 65 A41 c42 r35.Tickets,gr eTicketShow 3 67 A43 c44 r35.Shows,gr eTicketBox 4 72 A45 c46 r35.Boxes,gr eTallyCount 7 81 A8 c9 r4.Tally.Counts,gr eTicketSeason 2 65 A10 c11 r4.Tickets,gr eTicketShow 3 67 A12 c13 r4.Shows,gr eTicketBox 4 72 A14 c15 r4.Boxes] [gW0,gW1,gW2]:=S436
 try clear S436
 have S438:=S437.fixRd eTallyCount_len (i:=43) rfl
 try clear S437
 have S439:=S438.fixRd eTicketSeason_len (i:=43) rfl
 try clear S438
 have S440:=S439.fixRd eTicketShow_len (i:=43) rfl
 try clear S439
 have S441:=S440.fixRd eTicketBox_len (i:=43) rfl
 try clear S440
 have S442:St w nF w435 [gr eTicketShow 3 67 A428 6 (List.replicate 6 (TicketShow.mk 0 0 0)),gr eTicketSeason 2 65 A373 c374 ([(TicketSeason.mk 0 0)]:List TicketSeason),gr nTicketBook 7 29 A345 c346 [((TicketBook.mk (TallyBook.mk 0 0 ([]:List TallyCount)) 0 ([]:List TicketSeason) ([]:List TicketShow) ([]:List TicketBox)),none,0,none,0,none,0,none,0),((TicketBook.mk (TallyBook.mk 4 r4.Tally.Room r4.Tally.Counts) r4.Fare r4.Tickets r4.Shows r4.Boxes),A8,c9,A10,c11,A12,c13,A14,c15),((TicketBook.mk (TallyBook.mk r35.Tally.Trips 6 r35.Tally.Counts) r35.Fare r35.Tickets r35.Shows r35.Boxes),A39,c40,A41,c42,A43,c44,A45,c46),((TicketBook.mk r66.Tally 0 r66.Tickets r66.Shows r66.Boxes),A70,c71,A72,c73,A74,c75,A76,c77),((TicketBook.mk r97.Tally r97.Fare (r97.Tickets.set (1:Int).toNat (TicketSeason.mk 1 0)) r97.Shows r97.Boxes),A101,c102,A103,c104,A105,c106,A107,c108),((TicketBook.mk r128.Tally r128.Fare (r128.Tickets++([(TicketSeason.mk 0 0)]:List TicketSeason)) r128.Shows r128.Boxes),A132,c133,A380,c381,A136,c137,A138,c139),((TicketBook.mk r159.Tally r159.Fare r159.Tickets (r159.Shows.set (0:Int).toNat (TicketShow.mk 2 r388.Ticket r388.Walker)) r159.Boxes),A163,c164,A165,c166,A167,c168,A169,c170),((TicketBook.mk r190.Tally r190.Fare r190.Tickets (r190.Shows.set (0:Int).toNat (TicketShow.mk r396.Trip 3 r396.Walker)) r190.Boxes),A194,c195,A196,c197,A198,c199,A200,c201),((TicketBook.mk r221.Tally r221.Fare r221.Tickets (r221.Shows.set (0:Int).toNat (TicketShow.mk r404.Trip r404.Ticket 10)) r221.Boxes),A225,c226,A227,c228,A229,c230,A231,c232),((TicketBook.mk r252.Tally r252.Fare r252.Tickets r252.Shows (r252.Boxes.set (0:Int).toNat (TicketBox.mk r412.From 2 r412.Pence r412.Lost))),A256,c257,A258,c259,A260,c261,A262,c263),((TicketBook.mk r283.Tally r283.Fare r283.Tickets r283.Shows (r283.Boxes.set (0:Int).toNat (TicketBox.mk r420.From r420.To r420.Pence 41))),A287,c288,A289,c290,A291,c292,A293,c294),((TicketBook.mk r314.Tally r314.Fare r314.Tickets (List.replicate 6 (TicketShow.mk 0 0 0)) r314.Boxes),A318,c319,A320,c321,A428,6,A324,c325)],gr eTallyCount 7 81 A318 c319 r314.Tally.Counts,gr eTicketSeason 2 65 A320 c321 r314.Tickets,gr eTicketShow 3 67 A322 c323 r314.Shows,gr eTicketBox 4 72 A324 c325 r314.Boxes,gr eTallyCount 7 81 A287 c288 r283.Tally.Counts,gr eTicketSeason 2 65 A289 c290 r283.Tickets,gr eTicketShow 3 67 A291 c292 r283.Shows,gr eTicketBox 4 72 A293 c294 (r283.Boxes.set (0:Int).toNat (TicketBox.mk r420.From r420.To r420.Pence 41)),gr eTallyCount 7 81 A256 c257 r252.Tally.Counts,gr eTicketSeason 2 65 A258 c259 r252.Tickets,gr eTicketShow 3 67 A260 c261 r252.Shows,gr eTicketBox 4 72 A262 c263 (r252.Boxes.set (0:Int).toNat (TicketBox.mk r412.From 2 r412.Pence r412.Lost)),gr eTallyCount 7 81 A225 c226 r221.Tally.Counts,gr eTicketSeason 2 65 A227 c228 r221.Tickets,gr eTicketShow 3 67 A229 c230 (r221.Shows.set (0:Int).toNat (TicketShow.mk r404.Trip r404.Ticket 10)),gr eTicketBox 4 72 A231 c232 r221.Boxes,gr eTallyCount 7 81 A194 c195 r190.Tally.Counts,gr eTicketSeason 2 65 A196 c197 r190.Tickets,gr eTicketShow 3 67 A198 c199 (r190.Shows.set (0:Int).toNat (TicketShow.mk r396.Trip 3 r396.Walker)),gr eTicketBox 4 72 A200 c201 r190.Boxes,gr eTallyCount 7 81 A163 c164 r159.Tally.Counts,gr eTicketSeason 2 65 A165 c166 r159.Tickets,gr eTicketShow 3 67 A167 c168 (r159.Shows.set (0:Int).toNat (TicketShow.mk 2 r388.Ticket r388.Walker)),gr eTicketBox 4 72 A169 c170 r159.Boxes,gr eTallyCount 7 81 A132 c133 r128.Tally.Counts,gr eTicketSeason 2 65 A380 c381 (r128.Tickets++([(TicketSeason.mk 0 0)]:List TicketSeason)),gr eTicketShow 3 67 A136 c137 r128.Shows,gr eTicketBox 4 72 A138 c139 r128.Boxes,gr eTallyCount 7 81 A101 c102 r97.Tally.Counts,gr eTicketSeason 2 65 A103 c104 (r97.Tickets.set (1:Int).toNat (TicketSeason.mk 1 0)),gr eTicketShow 3 67 A105 c106 r97.Shows,gr eTicketBox 4 72 A107 c108 r97.Boxes,gr eTallyCount 7 81 A70 c71 r66.Tally.Counts,gr eTicketSeason 2 65 A72 c73 r66.Tickets,gr eTicketShow 3 67 A74 c75 r66.Shows,gr eTicketBox 4 72 A76 c77 r66.Boxes,gr eTallyCount 7 81 A39 c40 r35.Tally.Counts,gr eTicketSeason 2 65 A41 c42 r35.Tickets,gr eTicketShow 3 67 A43 c44 r35.Shows,gr eTicketBox 4 72 A45 c46 r35.Boxes] [rd eTicketBox 4 A14 c15 r4.Boxes,rd eTicketShow 3 A12 c13 r4.Shows,rd eTicketSeason 2 A10 c11 r4.Tickets,rd eTallyCount 7 A8 c9 r4.Tally.Counts,gW0,gW1,gW2]:=S441
 try clear S441
 have S443:=S442.fixRd eTallyCount_len (i:=39) rfl
 try clear S442
 have S444:=S443.fixRd eTicketSeason_len (i:=39) rfl
 try clear S443
 have S445:=S444.fixRd eTicketShow_len (i:=39) rfl
 try clear S444
 have S446:=S445.fixRd eTicketBox_len (i:=39) rfl
 try clear S445
 have S447:St w nF w435 [gr eTicketShow 3 67 A428 6 (List.replicate 6 (TicketShow.mk 0 0 0)),gr eTicketSeason 2 65 A373 c374 ([(TicketSeason.mk 0 0)]:List TicketSeason),gr nTicketBook 7 29 A345 c346 [((TicketBook.mk (TallyBook.mk 0 0 ([]:List TallyCount)) 0 ([]:List TicketSeason) ([]:List TicketShow) ([]:List TicketBox)),none,0,none,0,none,0,none,0),((TicketBook.mk (TallyBook.mk 4 r4.Tally.Room r4.Tally.Counts) r4.Fare r4.Tickets r4.Shows r4.Boxes),A8,c9,A10,c11,A12,c13,A14,c15),((TicketBook.mk (TallyBook.mk r35.Tally.Trips 6 r35.Tally.Counts) r35.Fare r35.Tickets r35.Shows r35.Boxes),A39,c40,A41,c42,A43,c44,A45,c46),((TicketBook.mk r66.Tally 0 r66.Tickets r66.Shows r66.Boxes),A70,c71,A72,c73,A74,c75,A76,c77),((TicketBook.mk r97.Tally r97.Fare (r97.Tickets.set (1:Int).toNat (TicketSeason.mk 1 0)) r97.Shows r97.Boxes),A101,c102,A103,c104,A105,c106,A107,c108),((TicketBook.mk r128.Tally r128.Fare (r128.Tickets++([(TicketSeason.mk 0 0)]:List TicketSeason)) r128.Shows r128.Boxes),A132,c133,A380,c381,A136,c137,A138,c139),((TicketBook.mk r159.Tally r159.Fare r159.Tickets (r159.Shows.set (0:Int).toNat (TicketShow.mk 2 r388.Ticket r388.Walker)) r159.Boxes),A163,c164,A165,c166,A167,c168,A169,c170),((TicketBook.mk r190.Tally r190.Fare r190.Tickets (r190.Shows.set (0:Int).toNat (TicketShow.mk r396.Trip 3 r396.Walker)) r190.Boxes),A194,c195,A196,c197,A198,c199,A200,c201),((TicketBook.mk r221.Tally r221.Fare r221.Tickets (r221.Shows.set (0:Int).toNat (TicketShow.mk r404.Trip r404.Ticket 10)) r221.Boxes),A225,c226,A227,c228,A229,c230,A231,c232),((TicketBook.mk r252.Tally r252.Fare r252.Tickets r252.Shows (r252.Boxes.set (0:Int).toNat (TicketBox.mk r412.From 2 r412.Pence r412.Lost))),A256,c257,A258,c259,A260,c261,A262,c263),((TicketBook.mk r283.Tally r283.Fare r283.Tickets r283.Shows (r283.Boxes.set (0:Int).toNat (TicketBox.mk r420.From r420.To r420.Pence 41))),A287,c288,A289,c290,A291,c292,A293,c294),((TicketBook.mk r314.Tally r314.Fare r314.Tickets (List.replicate 6 (TicketShow.mk 0 0 0)) r314.Boxes),A318,c319,A320,c321,A428,6,A324,c325)],gr eTallyCount 7 81 A318 c319 r314.Tally.Counts,gr eTicketSeason 2 65 A320 c321 r314.Tickets,gr eTicketShow 3 67 A322 c323 r314.Shows,gr eTicketBox 4 72 A324 c325 r314.Boxes,gr eTallyCount 7 81 A287 c288 r283.Tally.Counts,gr eTicketSeason 2 65 A289 c290 r283.Tickets,gr eTicketShow 3 67 A291 c292 r283.Shows,gr eTicketBox 4 72 A293 c294 (r283.Boxes.set (0:Int).toNat (TicketBox.mk r420.From r420.To r420.Pence 41)),gr eTallyCount 7 81 A256 c257 r252.Tally.Counts,gr eTicketSeason 2 65 A258 c259 r252.Tickets,gr eTicketShow 3 67 A260 c261 r252.Shows,gr eTicketBox 4 72 A262 c263 (r252.Boxes.set (0:Int).toNat (TicketBox.mk r412.From 2 r412.Pence r412.Lost)),gr eTallyCount 7 81 A225 c226 r221.Tally.Counts,gr eTicketSeason 2 65 A227 c228 r221.Tickets,gr eTicketShow 3 67 A229 c230 (r221.Shows.set (0:Int).toNat (TicketShow.mk r404.Trip r404.Ticket 10)),gr eTicketBox 4 72 A231 c232 r221.Boxes,gr eTallyCount 7 81 A194 c195 r190.Tally.Counts,gr eTicketSeason 2 65 A196 c197 r190.Tickets,gr eTicketShow 3 67 A198 c199 (r190.Shows.set (0:Int).toNat (TicketShow.mk r396.Trip 3 r396.Walker)),gr eTicketBox 4 72 A200 c201 r190.Boxes,gr eTallyCount 7 81 A163 c164 r159.Tally.Counts,gr eTicketSeason 2 65 A165 c166 r159.Tickets,gr eTicketShow 3 67 A167 c168 (r159.Shows.set (0:Int).toNat (TicketShow.mk 2 r388.Ticket r388.Walker)),gr eTicketBox 4 72 A169 c170 r159.Boxes,gr eTallyCount 7 81 A132 c133 r128.Tally.Counts,gr eTicketSeason 2 65 A380 c381 (r128.Tickets++([(TicketSeason.mk 0 0)]:List TicketSeason)),gr eTicketShow 3 67 A136 c137 r128.Shows,gr eTicketBox 4 72 A138 c139 r128.Boxes,gr eTallyCount 7 81 A101 c102 r97.Tally.Counts,gr eTicketSeason 2 65 A103 c104 (r97.Tickets.set (1:Int).toNat (TicketSeason.mk 1 0)),gr eTicketShow 3 67 A105 c106 r97.Shows,gr eTicketBox 4 72 A107 c108 r97.Boxes,gr eTallyCount 7 81 A70 c71 r66.Tally.Counts,gr eTicketSeason 2 65 A72 c73 r66.Tickets,gr eTicketShow 3 67 A74 c75 r66.Shows,gr eTicketBox 4 72 A76 c77 r66.Boxes] [rd eTicketBox 4 A45 c46 r35.Boxes,rd eTicketShow 3 A43 c44 r35.Shows,rd eTicketSeason 2 A41 c42 r35.Tickets,rd eTallyCount 7 A39 c40 r35.Tally.Counts,rd eTicketBox 4 A14 c15 r4.Boxes,rd eTicketShow 3 A12 c13 r4.Shows,rd eTicketSeason 2 A10 c11 r4.Tickets,rd eTallyCount 7 A8 c9 r4.Tally.Counts,gW0,gW1,gW2]:=S446
 try clear S446
 have S448:=S447.fixRd eTallyCount_len (i:=35) rfl
 try clear S447
 have S449:=S448.fixRd eTicketSeason_len (i:=35) rfl
 try clear S448
 have S450:=S449.fixRd eTicketShow_len (i:=35) rfl
 try clear S449
 have S451:=S450.fixRd eTicketBox_len (i:=35) rfl
 try clear S450
 have S452:St w nF w435 [gr eTicketShow 3 67 A428 6 (List.replicate 6 (TicketShow.mk 0 0 0)),gr eTicketSeason 2 65 A373 c374 ([(TicketSeason.mk 0 0)]:List TicketSeason),gr nTicketBook 7 29 A345 c346 [((TicketBook.mk (TallyBook.mk 0 0 ([]:List TallyCount)) 0 ([]:List TicketSeason) ([]:List TicketShow) ([]:List TicketBox)),none,0,none,0,none,0,none,0),((TicketBook.mk (TallyBook.mk 4 r4.Tally.Room r4.Tally.Counts) r4.Fare r4.Tickets r4.Shows r4.Boxes),A8,c9,A10,c11,A12,c13,A14,c15),((TicketBook.mk (TallyBook.mk r35.Tally.Trips 6 r35.Tally.Counts) r35.Fare r35.Tickets r35.Shows r35.Boxes),A39,c40,A41,c42,A43,c44,A45,c46),((TicketBook.mk r66.Tally 0 r66.Tickets r66.Shows r66.Boxes),A70,c71,A72,c73,A74,c75,A76,c77),((TicketBook.mk r97.Tally r97.Fare (r97.Tickets.set (1:Int).toNat (TicketSeason.mk 1 0)) r97.Shows r97.Boxes),A101,c102,A103,c104,A105,c106,A107,c108),((TicketBook.mk r128.Tally r128.Fare (r128.Tickets++([(TicketSeason.mk 0 0)]:List TicketSeason)) r128.Shows r128.Boxes),A132,c133,A380,c381,A136,c137,A138,c139),((TicketBook.mk r159.Tally r159.Fare r159.Tickets (r159.Shows.set (0:Int).toNat (TicketShow.mk 2 r388.Ticket r388.Walker)) r159.Boxes),A163,c164,A165,c166,A167,c168,A169,c170),((TicketBook.mk r190.Tally r190.Fare r190.Tickets (r190.Shows.set (0:Int).toNat (TicketShow.mk r396.Trip 3 r396.Walker)) r190.Boxes),A194,c195,A196,c197,A198,c199,A200,c201),((TicketBook.mk r221.Tally r221.Fare r221.Tickets (r221.Shows.set (0:Int).toNat (TicketShow.mk r404.Trip r404.Ticket 10)) r221.Boxes),A225,c226,A227,c228,A229,c230,A231,c232),((TicketBook.mk r252.Tally r252.Fare r252.Tickets r252.Shows (r252.Boxes.set (0:Int).toNat (TicketBox.mk r412.From 2 r412.Pence r412.Lost))),A256,c257,A258,c259,A260,c261,A262,c263),((TicketBook.mk r283.Tally r283.Fare r283.Tickets r283.Shows (r283.Boxes.set (0:Int).toNat (TicketBox.mk r420.From r420.To r420.Pence 41))),A287,c288,A289,c290,A291,c292,A293,c294),((TicketBook.mk r314.Tally r314.Fare r314.Tickets (List.replicate 6 (TicketShow.mk 0 0 0)) r314.Boxes),A318,c319,A320,c321,A428,6,A324,c325)],gr eTallyCount 7 81 A318 c319 r314.Tally.Counts,gr eTicketSeason 2 65 A320 c321 r314.Tickets,gr eTicketShow 3 67 A322 c323 r314.Shows,gr eTicketBox 4 72 A324 c325 r314.Boxes,gr eTallyCount 7 81 A287 c288 r283.Tally.Counts,gr eTicketSeason 2 65 A289 c290 r283.Tickets,gr eTicketShow 3 67 A291 c292 r283.Shows,gr eTicketBox 4 72 A293 c294 (r283.Boxes.set (0:Int).toNat (TicketBox.mk r420.From r420.To r420.Pence 41)),gr eTallyCount 7 81 A256 c257 r252.Tally.Counts,gr eTicketSeason 2 65 A258 c259 r252.Tickets,gr eTicketShow 3 67 A260 c261 r252.Shows,gr eTicketBox 4 72 A262 c263 (r252.Boxes.set (0:Int).toNat (TicketBox.mk r412.From 2 r412.Pence r412.Lost)),gr eTallyCount 7 81 A225 c226 r221.Tally.Counts,gr eTicketSeason 2 65 A227 c228 r221.Tickets,gr eTicketShow 3 67 A229 c230 (r221.Shows.set (0:Int).toNat (TicketShow.mk r404.Trip r404.Ticket 10)),gr eTicketBox 4 72 A231 c232 r221.Boxes,gr eTallyCount 7 81 A194 c195 r190.Tally.Counts,gr eTicketSeason 2 65 A196 c197 r190.Tickets,gr eTicketShow 3 67 A198 c199 (r190.Shows.set (0:Int).toNat (TicketShow.mk r396.Trip 3 r396.Walker)),gr eTicketBox 4 72 A200 c201 r190.Boxes,gr eTallyCount 7 81 A163 c164 r159.Tally.Counts,gr eTicketSeason 2 65 A165 c166 r159.Tickets,gr eTicketShow 3 67 A167 c168 (r159.Shows.set (0:Int).toNat (TicketShow.mk 2 r388.Ticket r388.Walker)),gr eTicketBox 4 72 A169 c170 r159.Boxes,gr eTallyCount 7 81 A132 c133 r128.Tally.Counts,gr eTicketSeason 2 65 A380 c381 (r128.Tickets++([(TicketSeason.mk 0 0)]:List TicketSeason)),gr eTicketShow 3 67 A136 c137 r128.Shows,gr eTicketBox 4 72 A138 c139 r128.Boxes,gr eTallyCount 7 81 A101 c102 r97.Tally.Counts,gr eTicketSeason 2 65 A103 c104 (r97.Tickets.set (1:Int).toNat (TicketSeason.mk 1 0)),gr eTicketShow 3 67 A105 c106 r97.Shows,gr eTicketBox 4 72 A107 c108 r97.Boxes] [rd eTicketBox 4 A76 c77 r66.Boxes,rd eTicketShow 3 A74 c75 r66.Shows,rd eTicketSeason 2 A72 c73 r66.Tickets,rd eTallyCount 7 A70 c71 r66.Tally.Counts,rd eTicketBox 4 A45 c46 r35.Boxes,rd eTicketShow 3 A43 c44 r35.Shows,rd eTicketSeason 2 A41 c42 r35.Tickets,rd eTallyCount 7 A39 c40 r35.Tally.Counts,rd eTicketBox 4 A14 c15 r4.Boxes,rd eTicketShow 3 A12 c13 r4.Shows,rd eTicketSeason 2 A10 c11 r4.Tickets,rd eTallyCount 7 A8 c9 r4.Tally.Counts,gW0,gW1,gW2]:=S451
 try clear S451
 have S453:=S452.fixRd eTallyCount_len (i:=31) rfl
 try clear S452
 have S454:=S453.fixRd eTicketSeason_len (i:=31) rfl
 try clear S453
 have S455:=S454.fixRd eTicketShow_len (i:=31) rfl
 try clear S454
 have S456:=S455.fixRd eTicketBox_len (i:=31) rfl
 try clear S455
 have S457:St w nF w435 [gr eTicketShow 3 67 A428 6 (List.replicate 6 (TicketShow.mk 0 0 0)),gr eTicketSeason 2 65 A373 c374 ([(TicketSeason.mk 0 0)]:List TicketSeason),gr nTicketBook 7 29 A345 c346 [((TicketBook.mk (TallyBook.mk 0 0 ([]:List TallyCount)) 0 ([]:List TicketSeason) ([]:List TicketShow) ([]:List TicketBox)),none,0,none,0,none,0,none,0),((TicketBook.mk (TallyBook.mk 4 r4.Tally.Room r4.Tally.Counts) r4.Fare r4.Tickets r4.Shows r4.Boxes),A8,c9,A10,c11,A12,c13,A14,c15),((TicketBook.mk (TallyBook.mk r35.Tally.Trips 6 r35.Tally.Counts) r35.Fare r35.Tickets r35.Shows r35.Boxes),A39,c40,A41,c42,A43,c44,A45,c46),((TicketBook.mk r66.Tally 0 r66.Tickets r66.Shows r66.Boxes),A70,c71,A72,c73,A74,c75,A76,c77),((TicketBook.mk r97.Tally r97.Fare (r97.Tickets.set (1:Int).toNat (TicketSeason.mk 1 0)) r97.Shows r97.Boxes),A101,c102,A103,c104,A105,c106,A107,c108),((TicketBook.mk r128.Tally r128.Fare (r128.Tickets++([(TicketSeason.mk 0 0)]:List TicketSeason)) r128.Shows r128.Boxes),A132,c133,A380,c381,A136,c137,A138,c139),((TicketBook.mk r159.Tally r159.Fare r159.Tickets (r159.Shows.set (0:Int).toNat (TicketShow.mk 2 r388.Ticket r388.Walker)) r159.Boxes),A163,c164,A165,c166,A167,c168,A169,c170),((TicketBook.mk r190.Tally r190.Fare r190.Tickets (r190.Shows.set (0:Int).toNat (TicketShow.mk r396.Trip 3 r396.Walker)) r190.Boxes),A194,c195,A196,c197,A198,c199,A200,c201),((TicketBook.mk r221.Tally r221.Fare r221.Tickets (r221.Shows.set (0:Int).toNat (TicketShow.mk r404.Trip r404.Ticket 10)) r221.Boxes),A225,c226,A227,c228,A229,c230,A231,c232),((TicketBook.mk r252.Tally r252.Fare r252.Tickets r252.Shows (r252.Boxes.set (0:Int).toNat (TicketBox.mk r412.From 2 r412.Pence r412.Lost))),A256,c257,A258,c259,A260,c261,A262,c263),((TicketBook.mk r283.Tally r283.Fare r283.Tickets r283.Shows (r283.Boxes.set (0:Int).toNat (TicketBox.mk r420.From r420.To r420.Pence 41))),A287,c288,A289,c290,A291,c292,A293,c294),((TicketBook.mk r314.Tally r314.Fare r314.Tickets (List.replicate 6 (TicketShow.mk 0 0 0)) r314.Boxes),A318,c319,A320,c321,A428,6,A324,c325)],gr eTallyCount 7 81 A318 c319 r314.Tally.Counts,gr eTicketSeason 2 65 A320 c321 r314.Tickets,gr eTicketShow 3 67 A322 c323 r314.Shows,gr eTicketBox 4 72 A324 c325 r314.Boxes,gr eTallyCount 7 81 A287 c288 r283.Tally.Counts,gr eTicketSeason 2 65 A289 c290 r283.Tickets,gr eTicketShow 3 67 A291 c292 r283.Shows,gr eTicketBox 4 72 A293 c294 (r283.Boxes.set (0:Int).toNat (TicketBox.mk r420.From r420.To r420.Pence 41)),gr eTallyCount 7 81 A256 c257 r252.Tally.Counts,gr eTicketSeason 2 65 A258 c259 r252.Tickets,gr eTicketShow 3 67 A260 c261 r252.Shows,gr eTicketBox 4 72 A262 c263 (r252.Boxes.set (0:Int).toNat (TicketBox.mk r412.From 2 r412.Pence r412.Lost)),gr eTallyCount 7 81 A225 c226 r221.Tally.Counts,gr eTicketSeason 2 65 A227 c228 r221.Tickets,gr eTicketShow 3 67 A229 c230 (r221.Shows.set (0:Int).toNat (TicketShow.mk r404.Trip r404.Ticket 10)),gr eTicketBox 4 72 A231 c232 r221.Boxes,gr eTallyCount 7 81 A194 c195 r190.Tally.Counts,gr eTicketSeason 2 65 A196 c197 r190.Tickets,gr eTicketShow 3 67 A198 c199 (r190.Shows.set (0:Int).toNat (TicketShow.mk r396.Trip 3 r396.Walker)),gr eTicketBox 4 72 A200 c201 r190.Boxes,gr eTallyCount 7 81 A163 c164 r159.Tally.Counts,gr eTicketSeason 2 65 A165 c166 r159.Tickets,gr eTicketShow 3 67 A167 c168 (r159.Shows.set (0:Int).toNat (TicketShow.mk 2 r388.Ticket r388.Walker)),gr eTicketBox 4 72 A169 c170 r159.Boxes,gr eTallyCount 7 81 A132 c133 r128.Tally.Counts,gr eTicketSeason 2 65 A380 c381 (r128.Tickets++([(TicketSeason.mk 0 0)]:List TicketSeason)),gr eTicketShow 3 67 A136 c137 r128.Shows,gr eTicketBox 4 72 A138 c139 r128.Boxes] [rd eTicketBox 4 A107 c108 r97.Boxes,rd eTicketShow 3 A105 c106 r97.Shows,rd eTicketSeason 2 A103 c104 (r97.Tickets.set (1:Int).toNat (TicketSeason.mk 1 0)),rd eTallyCount 7 A101 c102 r97.Tally.Counts,rd eTicketBox 4 A76 c77 r66.Boxes,rd eTicketShow 3 A74 c75 r66.Shows,rd eTicketSeason 2 A72 c73 r66.Tickets,rd eTallyCount 7 A70 c71 r66.Tally.Counts,rd eTicketBox 4 A45 c46 r35.Boxes,rd eTicketShow 3 A43 c44 r35.Shows,rd eTicketSeason 2 A41 c42 r35.Tickets,rd eTallyCount 7 A39 c40 r35.Tally.Counts,rd eTicketBox 4 A14 c15 r4.Boxes,rd eTicketShow 3 A12 c13 r4.Shows,rd eTicketSeason 2 A10 c11 r4.Tickets,rd eTallyCount 7 A8 c9 r4.Tally.Counts,gW0,gW1,gW2]:=S456
 try clear S456
 have S458:=S457.fixRd eTallyCount_len (i:=27) rfl
 try clear S457
 have S459:=S458.fixRd eTicketSeason_len (i:=27) rfl
 try clear S458
 have S460:=S459.fixRd eTicketShow_len (i:=27) rfl
 try clear S459
 have S461:=S460.fixRd eTicketBox_len (i:=27) rfl
 try clear S460
 have S462:St w nF w435 [gr eTicketShow 3 67 A428 6 (List.replicate 6 (TicketShow.mk 0 0 0)),gr eTicketSeason 2 65 A373 c374 ([(TicketSeason.mk 0 0)]:List TicketSeason),gr nTicketBook 7 29 A345 c346 [((TicketBook.mk (TallyBook.mk 0 0 ([]:List TallyCount)) 0 ([]:List TicketSeason) ([]:List TicketShow) ([]:List TicketBox)),none,0,none,0,none,0,none,0),((TicketBook.mk (TallyBook.mk 4 r4.Tally.Room r4.Tally.Counts) r4.Fare r4.Tickets r4.Shows r4.Boxes),A8,c9,A10,c11,A12,c13,A14,c15),((TicketBook.mk (TallyBook.mk r35.Tally.Trips 6 r35.Tally.Counts) r35.Fare r35.Tickets r35.Shows r35.Boxes),A39,c40,A41,c42,A43,c44,A45,c46),((TicketBook.mk r66.Tally 0 r66.Tickets r66.Shows r66.Boxes),A70,c71,A72,c73,A74,c75,A76,c77),((TicketBook.mk r97.Tally r97.Fare (r97.Tickets.set (1:Int).toNat (TicketSeason.mk 1 0)) r97.Shows r97.Boxes),A101,c102,A103,c104,A105,c106,A107,c108),((TicketBook.mk r128.Tally r128.Fare (r128.Tickets++([(TicketSeason.mk 0 0)]:List TicketSeason)) r128.Shows r128.Boxes),A132,c133,A380,c381,A136,c137,A138,c139),((TicketBook.mk r159.Tally r159.Fare r159.Tickets (r159.Shows.set (0:Int).toNat (TicketShow.mk 2 r388.Ticket r388.Walker)) r159.Boxes),A163,c164,A165,c166,A167,c168,A169,c170),((TicketBook.mk r190.Tally r190.Fare r190.Tickets (r190.Shows.set (0:Int).toNat (TicketShow.mk r396.Trip 3 r396.Walker)) r190.Boxes),A194,c195,A196,c197,A198,c199,A200,c201),((TicketBook.mk r221.Tally r221.Fare r221.Tickets (r221.Shows.set (0:Int).toNat (TicketShow.mk r404.Trip r404.Ticket 10)) r221.Boxes),A225,c226,A227,c228,A229,c230,A231,c232),((TicketBook.mk r252.Tally r252.Fare r252.Tickets r252.Shows (r252.Boxes.set (0:Int).toNat (TicketBox.mk r412.From 2 r412.Pence r412.Lost))),A256,c257,A258,c259,A260,c261,A262,c263),((TicketBook.mk r283.Tally r283.Fare r283.Tickets r283.Shows (r283.Boxes.set (0:Int).toNat (TicketBox.mk r420.From r420.To r420.Pence 41))),A287,c288,A289,c290,A291,c292,A293,c294),((TicketBook.mk r314.Tally r314.Fare r314.Tickets (List.replicate 6 (TicketShow.mk 0 0 0)) r314.Boxes),A318,c319,A320,c321,A428,6,A324,c325)],gr eTallyCount 7 81 A318 c319 r314.Tally.Counts,gr eTicketSeason 2 65 A320 c321 r314.Tickets,gr eTicketShow 3 67 A322 c323 r314.Shows,gr eTicketBox 4 72 A324 c325 r314.Boxes,gr eTallyCount 7 81 A287 c288 r283.Tally.Counts,gr eTicketSeason 2 65 A289 c290 r283.Tickets,gr eTicketShow 3 67 A291 c292 r283.Shows,gr eTicketBox 4 72 A293 c294 (r283.Boxes.set (0:Int).toNat (TicketBox.mk r420.From r420.To r420.Pence 41)),gr eTallyCount 7 81 A256 c257 r252.Tally.Counts,gr eTicketSeason 2 65 A258 c259 r252.Tickets,gr eTicketShow 3 67 A260 c261 r252.Shows,gr eTicketBox 4 72 A262 c263 (r252.Boxes.set (0:Int).toNat (TicketBox.mk r412.From 2 r412.Pence r412.Lost)),gr eTallyCount 7 81 A225 c226 r221.Tally.Counts,gr eTicketSeason 2 65 A227 c228 r221.Tickets,gr eTicketShow 3 67 A229 c230 (r221.Shows.set (0:Int).toNat (TicketShow.mk r404.Trip r404.Ticket 10)),gr eTicketBox 4 72 A231 c232 r221.Boxes,gr eTallyCount 7 81 A194 c195 r190.Tally.Counts,gr eTicketSeason 2 65 A196 c197 r190.Tickets,gr eTicketShow 3 67 A198 c199 (r190.Shows.set (0:Int).toNat (TicketShow.mk r396.Trip 3 r396.Walker)),gr eTicketBox 4 72 A200 c201 r190.Boxes,gr eTallyCount 7 81 A163 c164 r159.Tally.Counts,gr eTicketSeason 2 65 A165 c166 r159.Tickets,gr eTicketShow 3 67 A167 c168 (r159.Shows.set (0:Int).toNat (TicketShow.mk 2 r388.Ticket r388.Walker)),gr eTicketBox 4 72 A169 c170 r159.Boxes] [rd eTicketBox 4 A138 c139 r128.Boxes,rd eTicketShow 3 A136 c137 r128.Shows,rd eTicketSeason 2 A380 c381 (r128.Tickets++([(TicketSeason.mk 0 0)]:List TicketSeason)),rd eTallyCount 7 A132 c133 r128.Tally.Counts,rd eTicketBox 4 A107 c108 r97.Boxes,rd eTicketShow 3 A105 c106 r97.Shows,rd eTicketSeason 2 A103 c104 (r97.Tickets.set (1:Int).toNat (TicketSeason.mk 1 0)),rd eTallyCount 7 A101 c102 r97.Tally.Counts,rd eTicketBox 4 A76 c77 r66.Boxes,rd eTicketShow 3 A74 c75 r66.Shows,rd eTicketSeason 2 A72 c73 r66.Tickets,rd eTallyCount 7 A70 c71 r66.Tally.Counts,rd eTicketBox 4 A45 c46 r35.Boxes,rd eTicketShow 3 A43 c44 r35.Shows,rd eTicketSeason 2 A41 c42 r35.Tickets,rd eTallyCount 7 A39 c40 r35.Tally.Counts,rd eTicketBox 4 A14 c15 r4.Boxes,rd eTicketShow 3 A12 c13 r4.Shows,rd eTicketSeason 2 A10 c11 r4.Tickets,rd eTallyCount 7 A8 c9 r4.Tally.Counts,gW0,gW1,gW2]:=S461
 try clear S461
 have S463:=S462.fixRd eTallyCount_len (i:=23) rfl
 try clear S462
 have S464:=S463.fixRd eTicketSeason_len (i:=23) rfl
 try clear S463
 have S465:=S464.fixRd eTicketShow_len (i:=23) rfl
 try clear S464
 have S466:=S465.fixRd eTicketBox_len (i:=23) rfl
 try clear S465
 have S467:St w nF w435 [gr eTicketShow 3 67 A428 6 (List.replicate 6 (TicketShow.mk 0 0 0)),gr eTicketSeason 2 65 A373 c374 ([(TicketSeason.mk 0 0)]:List TicketSeason),gr nTicketBook 7 29 A345 c346 [((TicketBook.mk (TallyBook.mk 0 0 ([]:List TallyCount)) 0 ([]:List TicketSeason) ([]:List TicketShow) ([]:List TicketBox)),none,0,none,0,none,0,none,0),((TicketBook.mk (TallyBook.mk 4 r4.Tally.Room r4.Tally.Counts) r4.Fare r4.Tickets r4.Shows r4.Boxes),A8,c9,A10,c11,A12,c13,A14,c15),((TicketBook.mk (TallyBook.mk r35.Tally.Trips 6 r35.Tally.Counts) r35.Fare r35.Tickets r35.Shows r35.Boxes),A39,c40,A41,c42,A43,c44,A45,c46),((TicketBook.mk r66.Tally 0 r66.Tickets r66.Shows r66.Boxes),A70,c71,A72,c73,A74,c75,A76,c77),((TicketBook.mk r97.Tally r97.Fare (r97.Tickets.set (1:Int).toNat (TicketSeason.mk 1 0)) r97.Shows r97.Boxes),A101,c102,A103,c104,A105,c106,A107,c108),((TicketBook.mk r128.Tally r128.Fare (r128.Tickets++([(TicketSeason.mk 0 0)]:List TicketSeason)) r128.Shows r128.Boxes),A132,c133,A380,c381,A136,c137,A138,c139),((TicketBook.mk r159.Tally r159.Fare r159.Tickets (r159.Shows.set (0:Int).toNat (TicketShow.mk 2 r388.Ticket r388.Walker)) r159.Boxes),A163,c164,A165,c166,A167,c168,A169,c170),((TicketBook.mk r190.Tally r190.Fare r190.Tickets (r190.Shows.set (0:Int).toNat (TicketShow.mk r396.Trip 3 r396.Walker)) r190.Boxes),A194,c195,A196,c197,A198,c199,A200,c201),((TicketBook.mk r221.Tally r221.Fare r221.Tickets (r221.Shows.set (0:Int).toNat (TicketShow.mk r404.Trip r404.Ticket 10)) r221.Boxes),A225,c226,A227,c228,A229,c230,A231,c232),((TicketBook.mk r252.Tally r252.Fare r252.Tickets r252.Shows (r252.Boxes.set (0:Int).toNat (TicketBox.mk r412.From 2 r412.Pence r412.Lost))),A256,c257,A258,c259,A260,c261,A262,c263),((TicketBook.mk r283.Tally r283.Fare r283.Tickets r283.Shows (r283.Boxes.set (0:Int).toNat (TicketBox.mk r420.From r420.To r420.Pence 41))),A287,c288,A289,c290,A291,c292,A293,c294),((TicketBook.mk r314.Tally r314.Fare r314.Tickets (List.replicate 6 (TicketShow.mk 0 0 0)) r314.Boxes),A318,c319,A320,c321,A428,6,A324,c325)],gr eTallyCount 7 81 A318 c319 r314.Tally.Counts,gr eTicketSeason 2 65 A320 c321 r314.Tickets,gr eTicketShow 3 67 A322 c323 r314.Shows,gr eTicketBox 4 72 A324 c325 r314.Boxes,gr eTallyCount 7 81 A287 c288 r283.Tally.Counts,gr eTicketSeason 2 65 A289 c290 r283.Tickets,gr eTicketShow 3 67 A291 c292 r283.Shows,gr eTicketBox 4 72 A293 c294 (r283.Boxes.set (0:Int).toNat (TicketBox.mk r420.From r420.To r420.Pence 41)),gr eTallyCount 7 81 A256 c257 r252.Tally.Counts,gr eTicketSeason 2 65 A258 c259 r252.Tickets,gr eTicketShow 3 67 A260 c261 r252.Shows,gr eTicketBox 4 72 A262 c263 (r252.Boxes.set (0:Int).toNat (TicketBox.mk r412.From 2 r412.Pence r412.Lost)),gr eTallyCount 7 81 A225 c226 r221.Tally.Counts,gr eTicketSeason 2 65 A227 c228 r221.Tickets,gr eTicketShow 3 67 A229 c230 (r221.Shows.set (0:Int).toNat (TicketShow.mk r404.Trip r404.Ticket 10)),gr eTicketBox 4 72 A231 c232 r221.Boxes,gr eTallyCount 7 81 A194 c195 r190.Tally.Counts,gr eTicketSeason 2 65 A196 c197 r190.Tickets,gr eTicketShow 3 67 A198 c199 (r190.Shows.set (0:Int).toNat (TicketShow.mk r396.Trip 3 r396.Walker)),gr eTicketBox 4 72 A200 c201 r190.Boxes] [rd eTicketBox 4 A169 c170 r159.Boxes,rd eTicketShow 3 A167 c168 (r159.Shows.set (0:Int).toNat (TicketShow.mk 2 r388.Ticket r388.Walker)),rd eTicketSeason 2 A165 c166 r159.Tickets,rd eTallyCount 7 A163 c164 r159.Tally.Counts,rd eTicketBox 4 A138 c139 r128.Boxes,rd eTicketShow 3 A136 c137 r128.Shows,rd eTicketSeason 2 A380 c381 (r128.Tickets++([(TicketSeason.mk 0 0)]:List TicketSeason)),rd eTallyCount 7 A132 c133 r128.Tally.Counts,rd eTicketBox 4 A107 c108 r97.Boxes,rd eTicketShow 3 A105 c106 r97.Shows,rd eTicketSeason 2 A103 c104 (r97.Tickets.set (1:Int).toNat (TicketSeason.mk 1 0)),rd eTallyCount 7 A101 c102 r97.Tally.Counts,rd eTicketBox 4 A76 c77 r66.Boxes,rd eTicketShow 3 A74 c75 r66.Shows,rd eTicketSeason 2 A72 c73 r66.Tickets,rd eTallyCount 7 A70 c71 r66.Tally.Counts,rd eTicketBox 4 A45 c46 r35.Boxes,rd eTicketShow 3 A43 c44 r35.Shows,rd eTicketSeason 2 A41 c42 r35.Tickets,rd eTallyCount 7 A39 c40 r35.Tally.Counts,rd eTicketBox 4 A14 c15 r4.Boxes,rd eTicketShow 3 A12 c13 r4.Shows,rd eTicketSeason 2 A10 c11 r4.Tickets,rd eTallyCount 7 A8 c9 r4.Tally.Counts,gW0,gW1,gW2]:=S466
 try clear S466
 have S468:=S467.fixRd eTallyCount_len (i:=19) rfl
 try clear S467
 have S469:=S468.fixRd eTicketSeason_len (i:=19) rfl
 try clear S468
 have S470:=S469.fixRd eTicketShow_len (i:=19) rfl
 try clear S469
 have S471:=S470.fixRd eTicketBox_len (i:=19) rfl
 try clear S470
 have S472:St w nF w435 [gr eTicketShow 3 67 A428 6 (List.replicate 6 (TicketShow.mk 0 0 0)),gr eTicketSeason 2 65 A373 c374 ([(TicketSeason.mk 0 0)]:List TicketSeason),gr nTicketBook 7 29 A345 c346 [((TicketBook.mk (TallyBook.mk 0 0 ([]:List TallyCount)) 0 ([]:List TicketSeason) ([]:List TicketShow) ([]:List TicketBox)),none,0,none,0,none,0,none,0),((TicketBook.mk (TallyBook.mk 4 r4.Tally.Room r4.Tally.Counts) r4.Fare r4.Tickets r4.Shows r4.Boxes),A8,c9,A10,c11,A12,c13,A14,c15),((TicketBook.mk (TallyBook.mk r35.Tally.Trips 6 r35.Tally.Counts) r35.Fare r35.Tickets r35.Shows r35.Boxes),A39,c40,A41,c42,A43,c44,A45,c46),((TicketBook.mk r66.Tally 0 r66.Tickets r66.Shows r66.Boxes),A70,c71,A72,c73,A74,c75,A76,c77),((TicketBook.mk r97.Tally r97.Fare (r97.Tickets.set (1:Int).toNat (TicketSeason.mk 1 0)) r97.Shows r97.Boxes),A101,c102,A103,c104,A105,c106,A107,c108),((TicketBook.mk r128.Tally r128.Fare (r128.Tickets++([(TicketSeason.mk 0 0)]:List TicketSeason)) r128.Shows r128.Boxes),A132,c133,A380,c381,A136,c137,A138,c139),((TicketBook.mk r159.Tally r159.Fare r159.Tickets (r159.Shows.set (0:Int).toNat (TicketShow.mk 2 r388.Ticket r388.Walker)) r159.Boxes),A163,c164,A165,c166,A167,c168,A169,c170),((TicketBook.mk r190.Tally r190.Fare r190.Tickets (r190.Shows.set (0:Int).toNat (TicketShow.mk r396.Trip 3 r396.Walker)) r190.Boxes),A194,c195,A196,c197,A198,c199,A200,c201),((TicketBook.mk r221.Tally r221.Fare r221.Tickets (r221.Shows.set (0:Int).toNat (TicketShow.mk r404.Trip r404.Ticket 10)) r221.Boxes),A225,c226,A227,c228,A229,c230,A231,c232),((TicketBook.mk r252.Tally r252.Fare r252.Tickets r252.Shows (r252.Boxes.set (0:Int).toNat (TicketBox.mk r412.From 2 r412.Pence r412.Lost))),A256,c257,A258,c259,A260,c261,A262,c263),((TicketBook.mk r283.Tally r283.Fare r283.Tickets r283.Shows (r283.Boxes.set (0:Int).toNat (TicketBox.mk r420.From r420.To r420.Pence 41))),A287,c288,A289,c290,A291,c292,A293,c294),((TicketBook.mk r314.Tally r314.Fare r314.Tickets (List.replicate 6 (TicketShow.mk 0 0 0)) r314.Boxes),A318,c319,A320,c321,A428,6,A324,c325)],gr eTallyCount 7 81 A318 c319 r314.Tally.Counts,gr eTicketSeason 2 65 A320 c321 r314.Tickets,gr eTicketShow 3 67 A322 c323 r314.Shows,gr eTicketBox 4 72 A324 c325 r314.Boxes,gr eTallyCount 7 81 A287 c288 r283.Tally.Counts,gr eTicketSeason 2 65 A289 c290 r283.Tickets,gr eTicketShow 3 67 A291 c292 r283.Shows,gr eTicketBox 4 72 A293 c294 (r283.Boxes.set (0:Int).toNat (TicketBox.mk r420.From r420.To r420.Pence 41)),gr eTallyCount 7 81 A256 c257 r252.Tally.Counts,gr eTicketSeason 2 65 A258 c259 r252.Tickets,gr eTicketShow 3 67 A260 c261 r252.Shows,gr eTicketBox 4 72 A262 c263 (r252.Boxes.set (0:Int).toNat (TicketBox.mk r412.From 2 r412.Pence r412.Lost)),gr eTallyCount 7 81 A225 c226 r221.Tally.Counts,gr eTicketSeason 2 65 A227 c228 r221.Tickets,gr eTicketShow 3 67 A229 c230 (r221.Shows.set (0:Int).toNat (TicketShow.mk r404.Trip r404.Ticket 10)),gr eTicketBox 4 72 A231 c232 r221.Boxes] [rd eTicketBox 4 A200 c201 r190.Boxes,rd eTicketShow 3 A198 c199 (r190.Shows.set (0:Int).toNat (TicketShow.mk r396.Trip 3 r396.Walker)),rd eTicketSeason 2 A196 c197 r190.Tickets,rd eTallyCount 7 A194 c195 r190.Tally.Counts,rd eTicketBox 4 A169 c170 r159.Boxes,rd eTicketShow 3 A167 c168 (r159.Shows.set (0:Int).toNat (TicketShow.mk 2 r388.Ticket r388.Walker)),rd eTicketSeason 2 A165 c166 r159.Tickets,rd eTallyCount 7 A163 c164 r159.Tally.Counts,rd eTicketBox 4 A138 c139 r128.Boxes,rd eTicketShow 3 A136 c137 r128.Shows,rd eTicketSeason 2 A380 c381 (r128.Tickets++([(TicketSeason.mk 0 0)]:List TicketSeason)),rd eTallyCount 7 A132 c133 r128.Tally.Counts,rd eTicketBox 4 A107 c108 r97.Boxes,rd eTicketShow 3 A105 c106 r97.Shows,rd eTicketSeason 2 A103 c104 (r97.Tickets.set (1:Int).toNat (TicketSeason.mk 1 0)),rd eTallyCount 7 A101 c102 r97.Tally.Counts,rd eTicketBox 4 A76 c77 r66.Boxes,rd eTicketShow 3 A74 c75 r66.Shows,rd eTicketSeason 2 A72 c73 r66.Tickets,rd eTallyCount 7 A70 c71 r66.Tally.Counts,rd eTicketBox 4 A45 c46 r35.Boxes,rd eTicketShow 3 A43 c44 r35.Shows,rd eTicketSeason 2 A41 c42 r35.Tickets,rd eTallyCount 7 A39 c40 r35.Tally.Counts,rd eTicketBox 4 A14 c15 r4.Boxes,rd eTicketShow 3 A12 c13 r4.Shows,rd eTicketSeason 2 A10 c11 r4.Tickets,rd eTallyCount 7 A8 c9 r4.Tally.Counts,gW0,gW1,gW2]:=S471
 try clear S471
 have S473:=S472.fixRd eTallyCount_len (i:=15) rfl
 try clear S472
 have S474:=S473.fixRd eTicketSeason_len (i:=15) rfl
 try clear S473
 have S475:=S474.fixRd eTicketShow_len (i:=15) rfl
 try clear S474
 have S476:=S475.fixRd eTicketBox_len (i:=15) rfl
 try clear S475
 have S477:St w nF w435 [gr eTicketShow 3 67 A428 6 (List.replicate 6 (TicketShow.mk 0 0 0)),gr eTicketSeason 2 65 A373 c374 ([(TicketSeason.mk 0 0)]:List TicketSeason),gr nTicketBook 7 29 A345 c346 [((TicketBook.mk (TallyBook.mk 0 0 ([]:List TallyCount)) 0 ([]:List TicketSeason) ([]:List TicketShow) ([]:List TicketBox)),none,0,none,0,none,0,none,0),((TicketBook.mk (TallyBook.mk 4 r4.Tally.Room r4.Tally.Counts) r4.Fare r4.Tickets r4.Shows r4.Boxes),A8,c9,A10,c11,A12,c13,A14,c15),((TicketBook.mk (TallyBook.mk r35.Tally.Trips 6 r35.Tally.Counts) r35.Fare r35.Tickets r35.Shows r35.Boxes),A39,c40,A41,c42,A43,c44,A45,c46),((TicketBook.mk r66.Tally 0 r66.Tickets r66.Shows r66.Boxes),A70,c71,A72,c73,A74,c75,A76,c77),((TicketBook.mk r97.Tally r97.Fare (r97.Tickets.set (1:Int).toNat (TicketSeason.mk 1 0)) r97.Shows r97.Boxes),A101,c102,A103,c104,A105,c106,A107,c108),((TicketBook.mk r128.Tally r128.Fare (r128.Tickets++([(TicketSeason.mk 0 0)]:List TicketSeason)) r128.Shows r128.Boxes),A132,c133,A380,c381,A136,c137,A138,c139),((TicketBook.mk r159.Tally r159.Fare r159.Tickets (r159.Shows.set (0:Int).toNat (TicketShow.mk 2 r388.Ticket r388.Walker)) r159.Boxes),A163,c164,A165,c166,A167,c168,A169,c170),((TicketBook.mk r190.Tally r190.Fare r190.Tickets (r190.Shows.set (0:Int).toNat (TicketShow.mk r396.Trip 3 r396.Walker)) r190.Boxes),A194,c195,A196,c197,A198,c199,A200,c201),((TicketBook.mk r221.Tally r221.Fare r221.Tickets (r221.Shows.set (0:Int).toNat (TicketShow.mk r404.Trip r404.Ticket 10)) r221.Boxes),A225,c226,A227,c228,A229,c230,A231,c232),((TicketBook.mk r252.Tally r252.Fare r252.Tickets r252.Shows (r252.Boxes.set (0:Int).toNat (TicketBox.mk r412.From 2 r412.Pence r412.Lost))),A256,c257,A258,c259,A260,c261,A262,c263),((TicketBook.mk r283.Tally r283.Fare r283.Tickets r283.Shows (r283.Boxes.set (0:Int).toNat (TicketBox.mk r420.From r420.To r420.Pence 41))),A287,c288,A289,c290,A291,c292,A293,c294),((TicketBook.mk r314.Tally r314.Fare r314.Tickets (List.replicate 6 (TicketShow.mk 0 0 0)) r314.Boxes),A318,c319,A320,c321,A428,6,A324,c325)],gr eTallyCount 7 81 A318 c319 r314.Tally.Counts,gr eTicketSeason 2 65 A320 c321 r314.Tickets,gr eTicketShow 3 67 A322 c323 r314.Shows,gr eTicketBox 4 72 A324 c325 r314.Boxes,gr eTallyCount 7 81 A287 c288 r283.Tally.Counts,gr eTicketSeason 2 65 A289 c290 r283.Tickets,gr eTicketShow 3 67 A291 c292 r283.Shows,gr eTicketBox 4 72 A293 c294 (r283.Boxes.set (0:Int).toNat (TicketBox.mk r420.From r420.To r420.Pence 41)),gr eTallyCount 7 81 A256 c257 r252.Tally.Counts,gr eTicketSeason 2 65 A258 c259 r252.Tickets,gr eTicketShow 3 67 A260 c261 r252.Shows,gr eTicketBox 4 72 A262 c263 (r252.Boxes.set (0:Int).toNat (TicketBox.mk r412.From 2 r412.Pence r412.Lost))] [rd eTicketBox 4 A231 c232 r221.Boxes,rd eTicketShow 3 A229 c230 (r221.Shows.set (0:Int).toNat (TicketShow.mk r404.Trip r404.Ticket 10)),rd eTicketSeason 2 A227 c228 r221.Tickets,rd eTallyCount 7 A225 c226 r221.Tally.Counts,rd eTicketBox 4 A200 c201 r190.Boxes,rd eTicketShow 3 A198 c199 (r190.Shows.set (0:Int).toNat (TicketShow.mk r396.Trip 3 r396.Walker)),rd eTicketSeason 2 A196 c197 r190.Tickets,rd eTallyCount 7 A194 c195 r190.Tally.Counts,rd eTicketBox 4 A169 c170 r159.Boxes,rd eTicketShow 3 A167 c168 (r159.Shows.set (0:Int).toNat (TicketShow.mk 2 r388.Ticket r388.Walker)),rd eTicketSeason 2 A165 c166 r159.Tickets,rd eTallyCount 7 A163 c164 r159.Tally.Counts,rd eTicketBox 4 A138 c139 r128.Boxes,rd eTicketShow 3 A136 c137 r128.Shows,rd eTicketSeason 2 A380 c381 (r128.Tickets++([(TicketSeason.mk 0 0)]:List TicketSeason)),rd eTallyCount 7 A132 c133 r128.Tally.Counts,rd eTicketBox 4 A107 c108 r97.Boxes,rd eTicketShow 3 A105 c106 r97.Shows,rd eTicketSeason 2 A103 c104 (r97.Tickets.set (1:Int).toNat (TicketSeason.mk 1 0)),rd eTallyCount 7 A101 c102 r97.Tally.Counts,rd eTicketBox 4 A76 c77 r66.Boxes,rd eTicketShow 3 A74 c75 r66.Shows,rd eTicketSeason 2 A72 c73 r66.Tickets,rd eTallyCount 7 A70 c71 r66.Tally.Counts,rd eTicketBox 4 A45 c46 r35.Boxes,rd eTicketShow 3 A43 c44 r35.Shows,rd eTicketSeason 2 A41 c42 r35.Tickets,rd eTallyCount 7 A39 c40 r35.Tally.Counts,rd eTicketBox 4 A14 c15 r4.Boxes,rd eTicketShow 3 A12 c13 r4.Shows,rd eTicketSeason 2 A10 c11 r4.Tickets,rd eTallyCount 7 A8 c9 r4.Tally.Counts,gW0,gW1,gW2]:=S476
 try clear S476
 have S478:=S477.fixRd eTallyCount_len (i:=11) rfl
 try clear S477
 have S479:=S478.fixRd eTicketSeason_len (i:=11) rfl
 try clear S478
 have S480:=S479.fixRd eTicketShow_len (i:=11) rfl
 try clear S479
 have S481:=S480.fixRd eTicketBox_len (i:=11) rfl
 try clear S480
 have S482:St w nF w435 [gr eTicketShow 3 67 A428 6 (List.replicate 6 (TicketShow.mk 0 0 0)),gr eTicketSeason 2 65 A373 c374 ([(TicketSeason.mk 0 0)]:List TicketSeason),gr nTicketBook 7 29 A345 c346 [((TicketBook.mk (TallyBook.mk 0 0 ([]:List TallyCount)) 0 ([]:List TicketSeason) ([]:List TicketShow) ([]:List TicketBox)),none,0,none,0,none,0,none,0),((TicketBook.mk (TallyBook.mk 4 r4.Tally.Room r4.Tally.Counts) r4.Fare r4.Tickets r4.Shows r4.Boxes),A8,c9,A10,c11,A12,c13,A14,c15),((TicketBook.mk (TallyBook.mk r35.Tally.Trips 6 r35.Tally.Counts) r35.Fare r35.Tickets r35.Shows r35.Boxes),A39,c40,A41,c42,A43,c44,A45,c46),((TicketBook.mk r66.Tally 0 r66.Tickets r66.Shows r66.Boxes),A70,c71,A72,c73,A74,c75,A76,c77),((TicketBook.mk r97.Tally r97.Fare (r97.Tickets.set (1:Int).toNat (TicketSeason.mk 1 0)) r97.Shows r97.Boxes),A101,c102,A103,c104,A105,c106,A107,c108),((TicketBook.mk r128.Tally r128.Fare (r128.Tickets++([(TicketSeason.mk 0 0)]:List TicketSeason)) r128.Shows r128.Boxes),A132,c133,A380,c381,A136,c137,A138,c139),((TicketBook.mk r159.Tally r159.Fare r159.Tickets (r159.Shows.set (0:Int).toNat (TicketShow.mk 2 r388.Ticket r388.Walker)) r159.Boxes),A163,c164,A165,c166,A167,c168,A169,c170),((TicketBook.mk r190.Tally r190.Fare r190.Tickets (r190.Shows.set (0:Int).toNat (TicketShow.mk r396.Trip 3 r396.Walker)) r190.Boxes),A194,c195,A196,c197,A198,c199,A200,c201),((TicketBook.mk r221.Tally r221.Fare r221.Tickets (r221.Shows.set (0:Int).toNat (TicketShow.mk r404.Trip r404.Ticket 10)) r221.Boxes),A225,c226,A227,c228,A229,c230,A231,c232),((TicketBook.mk r252.Tally r252.Fare r252.Tickets r252.Shows (r252.Boxes.set (0:Int).toNat (TicketBox.mk r412.From 2 r412.Pence r412.Lost))),A256,c257,A258,c259,A260,c261,A262,c263),((TicketBook.mk r283.Tally r283.Fare r283.Tickets r283.Shows (r283.Boxes.set (0:Int).toNat (TicketBox.mk r420.From r420.To r420.Pence 41))),A287,c288,A289,c290,A291,c292,A293,c294),((TicketBook.mk r314.Tally r314.Fare r314.Tickets (List.replicate 6 (TicketShow.mk 0 0 0)) r314.Boxes),A318,c319,A320,c321,A428,6,A324,c325)],gr eTallyCount 7 81 A318 c319 r314.Tally.Counts,gr eTicketSeason 2 65 A320 c321 r314.Tickets,gr eTicketShow 3 67 A322 c323 r314.Shows,gr eTicketBox 4 72 A324 c325 r314.Boxes,gr eTallyCount 7 81 A287 c288 r283.Tally.Counts,gr eTicketSeason 2 65 A289 c290 r283.Tickets,gr eTicketShow 3 67 A291 c292 r283.Shows,gr eTicketBox 4 72 A293 c294 (r283.Boxes.set (0:Int).toNat (TicketBox.mk r420.From r420.To r420.Pence 41))] [rd eTicketBox 4 A262 c263 (r252.Boxes.set (0:Int).toNat (TicketBox.mk r412.From 2 r412.Pence r412.Lost)),rd eTicketShow 3 A260 c261 r252.Shows,rd eTicketSeason 2 A258 c259 r252.Tickets,rd eTallyCount 7 A256 c257 r252.Tally.Counts,rd eTicketBox 4 A231 c232 r221.Boxes,rd eTicketShow 3 A229 c230 (r221.Shows.set (0:Int).toNat (TicketShow.mk r404.Trip r404.Ticket 10)),rd eTicketSeason 2 A227 c228 r221.Tickets,rd eTallyCount 7 A225 c226 r221.Tally.Counts,rd eTicketBox 4 A200 c201 r190.Boxes,rd eTicketShow 3 A198 c199 (r190.Shows.set (0:Int).toNat (TicketShow.mk r396.Trip 3 r396.Walker)),rd eTicketSeason 2 A196 c197 r190.Tickets,rd eTallyCount 7 A194 c195 r190.Tally.Counts,rd eTicketBox 4 A169 c170 r159.Boxes,rd eTicketShow 3 A167 c168 (r159.Shows.set (0:Int).toNat (TicketShow.mk 2 r388.Ticket r388.Walker)),rd eTicketSeason 2 A165 c166 r159.Tickets,rd eTallyCount 7 A163 c164 r159.Tally.Counts,rd eTicketBox 4 A138 c139 r128.Boxes,rd eTicketShow 3 A136 c137 r128.Shows,rd eTicketSeason 2 A380 c381 (r128.Tickets++([(TicketSeason.mk 0 0)]:List TicketSeason)),rd eTallyCount 7 A132 c133 r128.Tally.Counts,rd eTicketBox 4 A107 c108 r97.Boxes,rd eTicketShow 3 A105 c106 r97.Shows,rd eTicketSeason 2 A103 c104 (r97.Tickets.set (1:Int).toNat (TicketSeason.mk 1 0)),rd eTallyCount 7 A101 c102 r97.Tally.Counts,rd eTicketBox 4 A76 c77 r66.Boxes,rd eTicketShow 3 A74 c75 r66.Shows,rd eTicketSeason 2 A72 c73 r66.Tickets,rd eTallyCount 7 A70 c71 r66.Tally.Counts,rd eTicketBox 4 A45 c46 r35.Boxes,rd eTicketShow 3 A43 c44 r35.Shows,rd eTicketSeason 2 A41 c42 r35.Tickets,rd eTallyCount 7 A39 c40 r35.Tally.Counts,rd eTicketBox 4 A14 c15 r4.Boxes,rd eTicketShow 3 A12 c13 r4.Shows,rd eTicketSeason 2 A10 c11 r4.Tickets,rd eTallyCount 7 A8 c9 r4.Tally.Counts,gW0,gW1,gW2]:=S481
 try clear S481
 have S483:=S482.fixRd eTallyCount_len (i:=7) rfl
 try clear S482
 have S484:=S483.fixRd eTicketSeason_len (i:=7) rfl
 try clear S483
 have S485:=S484.fixRd eTicketShow_len (i:=7) rfl
 try clear S484
 have S486:=S485.fixRd eTicketBox_len (i:=7) rfl
 try clear S485
 have S487:St w nF w435 [gr eTicketShow 3 67 A428 6 (List.replicate 6 (TicketShow.mk 0 0 0)),gr eTicketSeason 2 65 A373 c374 ([(TicketSeason.mk 0 0)]:List TicketSeason),gr nTicketBook 7 29 A345 c346 [((TicketBook.mk (TallyBook.mk 0 0 ([]:List TallyCount)) 0 ([]:List TicketSeason) ([]:List TicketShow) ([]:List TicketBox)),none,0,none,0,none,0,none,0),((TicketBook.mk (TallyBook.mk 4 r4.Tally.Room r4.Tally.Counts) r4.Fare r4.Tickets r4.Shows r4.Boxes),A8,c9,A10,c11,A12,c13,A14,c15),((TicketBook.mk (TallyBook.mk r35.Tally.Trips 6 r35.Tally.Counts) r35.Fare r35.Tickets r35.Shows r35.Boxes),A39,c40,A41,c42,A43,c44,A45,c46),((TicketBook.mk r66.Tally 0 r66.Tickets r66.Shows r66.Boxes),A70,c71,A72,c73,A74,c75,A76,c77),((TicketBook.mk r97.Tally r97.Fare (r97.Tickets.set (1:Int).toNat (TicketSeason.mk 1 0)) r97.Shows r97.Boxes),A101,c102,A103,c104,A105,c106,A107,c108),((TicketBook.mk r128.Tally r128.Fare (r128.Tickets++([(TicketSeason.mk 0 0)]:List TicketSeason)) r128.Shows r128.Boxes),A132,c133,A380,c381,A136,c137,A138,c139),((TicketBook.mk r159.Tally r159.Fare r159.Tickets (r159.Shows.set (0:Int).toNat (TicketShow.mk 2 r388.Ticket r388.Walker)) r159.Boxes),A163,c164,A165,c166,A167,c168,A169,c170),((TicketBook.mk r190.Tally r190.Fare r190.Tickets (r190.Shows.set (0:Int).toNat (TicketShow.mk r396.Trip 3 r396.Walker)) r190.Boxes),A194,c195,A196,c197,A198,c199,A200,c201),((TicketBook.mk r221.Tally r221.Fare r221.Tickets (r221.Shows.set (0:Int).toNat (TicketShow.mk r404.Trip r404.Ticket 10)) r221.Boxes),A225,c226,A227,c228,A229,c230,A231,c232),((TicketBook.mk r252.Tally r252.Fare r252.Tickets r252.Shows (r252.Boxes.set (0:Int).toNat (TicketBox.mk r412.From 2 r412.Pence r412.Lost))),A256,c257,A258,c259,A260,c261,A262,c263),((TicketBook.mk r283.Tally r283.Fare r283.Tickets r283.Shows (r283.Boxes.set (0:Int).toNat (TicketBox.mk r420.From r420.To r420.Pence 41))),A287,c288,A289,c290,A291,c292,A293,c294),((TicketBook.mk r314.Tally r314.Fare r314.Tickets (List.replicate 6 (TicketShow.mk 0 0 0)) r314.Boxes),A318,c319,A320,c321,A428,6,A324,c325)],gr eTallyCount 7 81 A318 c319 r314.Tally.Counts,gr eTicketSeason 2 65 A320 c321 r314.Tickets,gr eTicketShow 3 67 A322 c323 r314.Shows,gr eTicketBox 4 72 A324 c325 r314.Boxes] [rd eTicketBox 4 A293 c294 (r283.Boxes.set (0:Int).toNat (TicketBox.mk r420.From r420.To r420.Pence 41)),rd eTicketShow 3 A291 c292 r283.Shows,rd eTicketSeason 2 A289 c290 r283.Tickets,rd eTallyCount 7 A287 c288 r283.Tally.Counts,rd eTicketBox 4 A262 c263 (r252.Boxes.set (0:Int).toNat (TicketBox.mk r412.From 2 r412.Pence r412.Lost)),rd eTicketShow 3 A260 c261 r252.Shows,rd eTicketSeason 2 A258 c259 r252.Tickets,rd eTallyCount 7 A256 c257 r252.Tally.Counts,rd eTicketBox 4 A231 c232 r221.Boxes,rd eTicketShow 3 A229 c230 (r221.Shows.set (0:Int).toNat (TicketShow.mk r404.Trip r404.Ticket 10)),rd eTicketSeason 2 A227 c228 r221.Tickets,rd eTallyCount 7 A225 c226 r221.Tally.Counts,rd eTicketBox 4 A200 c201 r190.Boxes,rd eTicketShow 3 A198 c199 (r190.Shows.set (0:Int).toNat (TicketShow.mk r396.Trip 3 r396.Walker)),rd eTicketSeason 2 A196 c197 r190.Tickets,rd eTallyCount 7 A194 c195 r190.Tally.Counts,rd eTicketBox 4 A169 c170 r159.Boxes,rd eTicketShow 3 A167 c168 (r159.Shows.set (0:Int).toNat (TicketShow.mk 2 r388.Ticket r388.Walker)),rd eTicketSeason 2 A165 c166 r159.Tickets,rd eTallyCount 7 A163 c164 r159.Tally.Counts,rd eTicketBox 4 A138 c139 r128.Boxes,rd eTicketShow 3 A136 c137 r128.Shows,rd eTicketSeason 2 A380 c381 (r128.Tickets++([(TicketSeason.mk 0 0)]:List TicketSeason)),rd eTallyCount 7 A132 c133 r128.Tally.Counts,rd eTicketBox 4 A107 c108 r97.Boxes,rd eTicketShow 3 A105 c106 r97.Shows,rd eTicketSeason 2 A103 c104 (r97.Tickets.set (1:Int).toNat (TicketSeason.mk 1 0)),rd eTallyCount 7 A101 c102 r97.Tally.Counts,rd eTicketBox 4 A76 c77 r66.Boxes,rd eTicketShow 3 A74 c75 r66.Shows,rd eTicketSeason 2 A72 c73 r66.Tickets,rd eTallyCount 7 A70 c71 r66.Tally.Counts,rd eTicketBox 4 A45 c46 r35.Boxes,rd eTicketShow 3 A43 c44 r35.Shows,rd eTicketSeason 2 A41 c42 r35.Tickets,rd eTallyCount 7 A39 c40 r35.Tally.Counts,rd eTicketBox 4 A14 c15 r4.Boxes,rd eTicketShow 3 A12 c13 r4.Shows,rd eTicketSeason 2 A10 c11 r4.Tickets,rd eTallyCount 7 A8 c9 r4.Tally.Counts,gW0,gW1,gW2]:=S486
 try clear S486
 have S488:=S487.fixRd eTallyCount_len (i:=3) rfl
 try clear S487
 have S489:=S488.fixRd eTicketSeason_len (i:=3) rfl
 try clear S488
 have S490:=S489.fixRd eTicketShow_len (i:=0) rfl
 try clear S489
 have S491:=S490.fixRd eTicketBox_len (i:=3) rfl
 try clear S490
 have S492:=S491.addL' (p:=rd eTallyCount 7 none 0 ([]:List TallyCount)) (rd_nil (Nat.zero_le _)) (fun _ h_=>(h_.1 rfl).elim)
 try clear S491
 have S493:=S492.addL' (p:=rd eTicketSeason 2 none 0 ([]:List TicketSeason)) (rd_nil (Nat.zero_le _)) (fun _ h_=>(h_.1 rfl).elim)
 try clear S492
 have S494:=S493.addL' (p:=rd eTicketShow 3 none 0 ([]:List TicketShow)) (rd_nil (Nat.zero_le _)) (fun _ h_=>(h_.1 rfl).elim)
 try clear S493
 have S495:=S494.addL' (p:=rd eTicketBox 4 none 0 ([]:List TicketBox)) (rd_nil (Nat.zero_le _)) (fun _ h_=>(h_.1 rfl).elim)
 try clear S494
 have S496:=S495.riL (inner:=nTicketBookI) (xs:=[(TicketBook.mk (TallyBook.mk 0 0 ([]:List TallyCount)) 0 ([]:List TicketSeason) ([]:List TicketShow) ([]:List TicketBox)),(TicketBook.mk (TallyBook.mk 4 r4.Tally.Room r4.Tally.Counts) r4.Fare r4.Tickets r4.Shows r4.Boxes),(TicketBook.mk (TallyBook.mk r35.Tally.Trips 6 r35.Tally.Counts) r35.Fare r35.Tickets r35.Shows r35.Boxes),(TicketBook.mk r66.Tally 0 r66.Tickets r66.Shows r66.Boxes),(TicketBook.mk r97.Tally r97.Fare (r97.Tickets.set (1:Int).toNat (TicketSeason.mk 1 0)) r97.Shows r97.Boxes),(TicketBook.mk r128.Tally r128.Fare (r128.Tickets++([(TicketSeason.mk 0 0)]:List TicketSeason)) r128.Shows r128.Boxes),(TicketBook.mk r159.Tally r159.Fare r159.Tickets (r159.Shows.set (0:Int).toNat (TicketShow.mk 2 r388.Ticket r388.Walker)) r159.Boxes),(TicketBook.mk r190.Tally r190.Fare r190.Tickets (r190.Shows.set (0:Int).toNat (TicketShow.mk r396.Trip 3 r396.Walker)) r190.Boxes),(TicketBook.mk r221.Tally r221.Fare r221.Tickets (r221.Shows.set (0:Int).toNat (TicketShow.mk r404.Trip r404.Ticket 10)) r221.Boxes),(TicketBook.mk r252.Tally r252.Fare r252.Tickets r252.Shows (r252.Boxes.set (0:Int).toNat (TicketBox.mk r412.From 2 r412.Pence r412.Lost))),(TicketBook.mk r283.Tally r283.Fare r283.Tickets r283.Shows (r283.Boxes.set (0:Int).toNat (TicketBox.mk r420.From r420.To r420.Pence 41))),(TicketBook.mk r314.Tally r314.Fare r314.Tickets (List.replicate 6 (TicketShow.mk 0 0 0)) r314.Boxes)]) [((TicketBook.mk (TallyBook.mk 0 0 ([]:List TallyCount)) 0 ([]:List TicketSeason) ([]:List TicketShow) ([]:List TicketBox)),none,0,none,0,none,0,none,0),((TicketBook.mk (TallyBook.mk 4 r4.Tally.Room r4.Tally.Counts) r4.Fare r4.Tickets r4.Shows r4.Boxes),A8,c9,A10,c11,A12,c13,A14,c15),((TicketBook.mk (TallyBook.mk r35.Tally.Trips 6 r35.Tally.Counts) r35.Fare r35.Tickets r35.Shows r35.Boxes),A39,c40,A41,c42,A43,c44,A45,c46),((TicketBook.mk r66.Tally 0 r66.Tickets r66.Shows r66.Boxes),A70,c71,A72,c73,A74,c75,A76,c77),((TicketBook.mk r97.Tally r97.Fare (r97.Tickets.set (1:Int).toNat (TicketSeason.mk 1 0)) r97.Shows r97.Boxes),A101,c102,A103,c104,A105,c106,A107,c108),((TicketBook.mk r128.Tally r128.Fare (r128.Tickets++([(TicketSeason.mk 0 0)]:List TicketSeason)) r128.Shows r128.Boxes),A132,c133,A380,c381,A136,c137,A138,c139),((TicketBook.mk r159.Tally r159.Fare r159.Tickets (r159.Shows.set (0:Int).toNat (TicketShow.mk 2 r388.Ticket r388.Walker)) r159.Boxes),A163,c164,A165,c166,A167,c168,A169,c170),((TicketBook.mk r190.Tally r190.Fare r190.Tickets (r190.Shows.set (0:Int).toNat (TicketShow.mk r396.Trip 3 r396.Walker)) r190.Boxes),A194,c195,A196,c197,A198,c199,A200,c201),((TicketBook.mk r221.Tally r221.Fare r221.Tickets (r221.Shows.set (0:Int).toNat (TicketShow.mk r404.Trip r404.Ticket 10)) r221.Boxes),A225,c226,A227,c228,A229,c230,A231,c232),((TicketBook.mk r252.Tally r252.Fare r252.Tickets r252.Shows (r252.Boxes.set (0:Int).toNat (TicketBox.mk r412.From 2 r412.Pence r412.Lost))),A256,c257,A258,c259,A260,c261,A262,c263),((TicketBook.mk r283.Tally r283.Fare r283.Tickets r283.Shows (r283.Boxes.set (0:Int).toNat (TicketBox.mk r420.From r420.To r420.Pence 41))),A287,c288,A289,c290,A291,c292,A293,c294),((TicketBook.mk r314.Tally r314.Fare r314.Tickets (List.replicate 6 (TicketShow.mk 0 0 0)) r314.Boxes),A318,c319,A320,c321,A428,6,A324,c325)] rfl (cA (cA (mE (i:=3) rfl) (cA (mE (i:=2) rfl) (cA (mE (i:=1) rfl) (cA (mE (i:=0) rfl) nM)))) (cA (cA (mE (i:=47) rfl) (cA (mE (i:=46) rfl) (cA (mE (i:=45) rfl) (cA (mE (i:=44) rfl) nM)))) (cA (cA (mE (i:=43) rfl) (cA (mE (i:=42) rfl) (cA (mE (i:=41) rfl) (cA (mE (i:=40) rfl) nM)))) (cA (cA (mE (i:=39) rfl) (cA (mE (i:=38) rfl) (cA (mE (i:=37) rfl) (cA (mE (i:=36) rfl) nM)))) (cA (cA (mE (i:=35) rfl) (cA (mE (i:=34) rfl) (cA (mE (i:=33) rfl) (cA (mE (i:=32) rfl) nM)))) (cA (cA (mE (i:=31) rfl) (cA (mE (i:=30) rfl) (cA (mE (i:=29) rfl) (cA (mE (i:=28) rfl) nM)))) (cA (cA (mE (i:=27) rfl) (cA (mE (i:=26) rfl) (cA (mE (i:=25) rfl) (cA (mE (i:=24) rfl) nM)))) (cA (cA (mE (i:=23) rfl) (cA (mE (i:=22) rfl) (cA (mE (i:=21) rfl) (cA (mE (i:=20) rfl) nM)))) (cA (cA (mE (i:=19) rfl) (cA (mE (i:=18) rfl) (cA (mE (i:=17) rfl) (cA (mE (i:=16) rfl) nM)))) (cA (cA (mE (i:=15) rfl) (cA (mE (i:=14) rfl) (cA (mE (i:=13) rfl) (cA (mE (i:=12) rfl) nM)))) (cA (cA (mE (i:=11) rfl) (cA (mE (i:=10) rfl) (cA (mE (i:=9) rfl) (cA (mE (i:=8) rfl) nM)))) (cA (cA (mE (i:=7) rfl) (cA (mE (i:=6) rfl) (cA (mE (i:=5) rfl) (cA (mE (i:=4) rfl) nM)))) nM))))))))))))
 try clear S495
 have S497:=S496.pk [1] (by decide) [0,1,2,3,4,5,6,7,8,9,10,11,12,13,14,15,16,17,18,19,20,21,22,23,24,25,26,27,28,29,30,31,32,33,34,35,36,37,38,39,40,41,42,43,44,45,46,47,48,49,50,51] rfl rfl
 try clear S496
 refine c_lop (α:=Int) (β:=Unit) (law_TicketKnown_l2 r4 r35 r66 r97 r128 r159 r388 r190 r396 r221 r404 r252 r412 r283 r420 r314) (fun z_1 y_1=>[(1,SL A345 [((TicketBook.mk (TallyBook.mk 0 0 ([]:List TallyCount)) 0 ([]:List TicketSeason) ([]:List TicketShow) ([]:List TicketBox)),none,0,none,0,none,0,none,0),((TicketBook.mk (TallyBook.mk 4 r4.Tally.Room r4.Tally.Counts) r4.Fare r4.Tickets r4.Shows r4.Boxes),A8,c9,A10,c11,A12,c13,A14,c15),((TicketBook.mk (TallyBook.mk r35.Tally.Trips 6 r35.Tally.Counts) r35.Fare r35.Tickets r35.Shows r35.Boxes),A39,c40,A41,c42,A43,c44,A45,c46),((TicketBook.mk r66.Tally 0 r66.Tickets r66.Shows r66.Boxes),A70,c71,A72,c73,A74,c75,A76,c77),((TicketBook.mk r97.Tally r97.Fare (r97.Tickets.set (1:Int).toNat (TicketSeason.mk 1 0)) r97.Shows r97.Boxes),A101,c102,A103,c104,A105,c106,A107,c108),((TicketBook.mk r128.Tally r128.Fare (r128.Tickets++([(TicketSeason.mk 0 0)]:List TicketSeason)) r128.Shows r128.Boxes),A132,c133,A380,c381,A136,c137,A138,c139),((TicketBook.mk r159.Tally r159.Fare r159.Tickets (r159.Shows.set (0:Int).toNat (TicketShow.mk 2 r388.Ticket r388.Walker)) r159.Boxes),A163,c164,A165,c166,A167,c168,A169,c170),((TicketBook.mk r190.Tally r190.Fare r190.Tickets (r190.Shows.set (0:Int).toNat (TicketShow.mk r396.Trip 3 r396.Walker)) r190.Boxes),A194,c195,A196,c197,A198,c199,A200,c201),((TicketBook.mk r221.Tally r221.Fare r221.Tickets (r221.Shows.set (0:Int).toNat (TicketShow.mk r404.Trip r404.Ticket 10)) r221.Boxes),A225,c226,A227,c228,A229,c230,A231,c232),((TicketBook.mk r252.Tally r252.Fare r252.Tickets r252.Shows (r252.Boxes.set (0:Int).toNat (TicketBox.mk r412.From 2 r412.Pence r412.Lost))),A256,c257,A258,c259,A260,c261,A262,c263),((TicketBook.mk r283.Tally r283.Fare r283.Tickets r283.Shows (r283.Boxes.set (0:Int).toNat (TicketBox.mk r420.From r420.To r420.Pence 41))),A287,c288,A289,c290,A291,c292,A293,c294),((TicketBook.mk r314.Tally r314.Fare r314.Tickets (List.replicate 6 (TicketShow.mk 0 0 0)) r314.Boxes),A318,c319,A320,c321,A428,6,A324,c325)].length c346),(2,I z_1)]) (fun z_1 y_1 w_=>St w nF w_ [gr nTicketBook 7 29 A345 c346 [((TicketBook.mk (TallyBook.mk 0 0 ([]:List TallyCount)) 0 ([]:List TicketSeason) ([]:List TicketShow) ([]:List TicketBox)),none,0,none,0,none,0,none,0),((TicketBook.mk (TallyBook.mk 4 r4.Tally.Room r4.Tally.Counts) r4.Fare r4.Tickets r4.Shows r4.Boxes),A8,c9,A10,c11,A12,c13,A14,c15),((TicketBook.mk (TallyBook.mk r35.Tally.Trips 6 r35.Tally.Counts) r35.Fare r35.Tickets r35.Shows r35.Boxes),A39,c40,A41,c42,A43,c44,A45,c46),((TicketBook.mk r66.Tally 0 r66.Tickets r66.Shows r66.Boxes),A70,c71,A72,c73,A74,c75,A76,c77),((TicketBook.mk r97.Tally r97.Fare (r97.Tickets.set (1:Int).toNat (TicketSeason.mk 1 0)) r97.Shows r97.Boxes),A101,c102,A103,c104,A105,c106,A107,c108),((TicketBook.mk r128.Tally r128.Fare (r128.Tickets++([(TicketSeason.mk 0 0)]:List TicketSeason)) r128.Shows r128.Boxes),A132,c133,A380,c381,A136,c137,A138,c139),((TicketBook.mk r159.Tally r159.Fare r159.Tickets (r159.Shows.set (0:Int).toNat (TicketShow.mk 2 r388.Ticket r388.Walker)) r159.Boxes),A163,c164,A165,c166,A167,c168,A169,c170),((TicketBook.mk r190.Tally r190.Fare r190.Tickets (r190.Shows.set (0:Int).toNat (TicketShow.mk r396.Trip 3 r396.Walker)) r190.Boxes),A194,c195,A196,c197,A198,c199,A200,c201),((TicketBook.mk r221.Tally r221.Fare r221.Tickets (r221.Shows.set (0:Int).toNat (TicketShow.mk r404.Trip r404.Ticket 10)) r221.Boxes),A225,c226,A227,c228,A229,c230,A231,c232),((TicketBook.mk r252.Tally r252.Fare r252.Tickets r252.Shows (r252.Boxes.set (0:Int).toNat (TicketBox.mk r412.From 2 r412.Pence r412.Lost))),A256,c257,A258,c259,A260,c261,A262,c263),((TicketBook.mk r283.Tally r283.Fare r283.Tickets r283.Shows (r283.Boxes.set (0:Int).toNat (TicketBox.mk r420.From r420.To r420.Pence 41))),A287,c288,A289,c290,A291,c292,A293,c294),((TicketBook.mk r314.Tally r314.Fare r314.Tickets (List.replicate 6 (TicketShow.mk 0 0 0)) r314.Boxes),A318,c319,A320,c321,A428,6,A324,c325)]] [ri nTicketBookI [((TicketBook.mk (TallyBook.mk 0 0 ([]:List TallyCount)) 0 ([]:List TicketSeason) ([]:List TicketShow) ([]:List TicketBox)),none,0,none,0,none,0,none,0),((TicketBook.mk (TallyBook.mk 4 r4.Tally.Room r4.Tally.Counts) r4.Fare r4.Tickets r4.Shows r4.Boxes),A8,c9,A10,c11,A12,c13,A14,c15),((TicketBook.mk (TallyBook.mk r35.Tally.Trips 6 r35.Tally.Counts) r35.Fare r35.Tickets r35.Shows r35.Boxes),A39,c40,A41,c42,A43,c44,A45,c46),((TicketBook.mk r66.Tally 0 r66.Tickets r66.Shows r66.Boxes),A70,c71,A72,c73,A74,c75,A76,c77),((TicketBook.mk r97.Tally r97.Fare (r97.Tickets.set (1:Int).toNat (TicketSeason.mk 1 0)) r97.Shows r97.Boxes),A101,c102,A103,c104,A105,c106,A107,c108),((TicketBook.mk r128.Tally r128.Fare (r128.Tickets++([(TicketSeason.mk 0 0)]:List TicketSeason)) r128.Shows r128.Boxes),A132,c133,A380,c381,A136,c137,A138,c139),((TicketBook.mk r159.Tally r159.Fare r159.Tickets (r159.Shows.set (0:Int).toNat (TicketShow.mk 2 r388.Ticket r388.Walker)) r159.Boxes),A163,c164,A165,c166,A167,c168,A169,c170),((TicketBook.mk r190.Tally r190.Fare r190.Tickets (r190.Shows.set (0:Int).toNat (TicketShow.mk r396.Trip 3 r396.Walker)) r190.Boxes),A194,c195,A196,c197,A198,c199,A200,c201),((TicketBook.mk r221.Tally r221.Fare r221.Tickets (r221.Shows.set (0:Int).toNat (TicketShow.mk r404.Trip r404.Ticket 10)) r221.Boxes),A225,c226,A227,c228,A229,c230,A231,c232),((TicketBook.mk r252.Tally r252.Fare r252.Tickets r252.Shows (r252.Boxes.set (0:Int).toNat (TicketBox.mk r412.From 2 r412.Pence r412.Lost))),A256,c257,A258,c259,A260,c261,A262,c263),((TicketBook.mk r283.Tally r283.Fare r283.Tickets r283.Shows (r283.Boxes.set (0:Int).toNat (TicketBox.mk r420.From r420.To r420.Pence 41))),A287,c288,A289,c290,A291,c292,A293,c294),((TicketBook.mk r314.Tally r314.Fare r314.Tickets (List.replicate 6 (TicketShow.mk 0 0 0)) r314.Boxes),A318,c319,A320,c321,A428,6,A324,c325)] [(TicketBook.mk (TallyBook.mk 0 0 ([]:List TallyCount)) 0 ([]:List TicketSeason) ([]:List TicketShow) ([]:List TicketBox)),(TicketBook.mk (TallyBook.mk 4 r4.Tally.Room r4.Tally.Counts) r4.Fare r4.Tickets r4.Shows r4.Boxes),(TicketBook.mk (TallyBook.mk r35.Tally.Trips 6 r35.Tally.Counts) r35.Fare r35.Tickets r35.Shows r35.Boxes),(TicketBook.mk r66.Tally 0 r66.Tickets r66.Shows r66.Boxes),(TicketBook.mk r97.Tally r97.Fare (r97.Tickets.set (1:Int).toNat (TicketSeason.mk 1 0)) r97.Shows r97.Boxes),(TicketBook.mk r128.Tally r128.Fare (r128.Tickets++([(TicketSeason.mk 0 0)]:List TicketSeason)) r128.Shows r128.Boxes),(TicketBook.mk r159.Tally r159.Fare r159.Tickets (r159.Shows.set (0:Int).toNat (TicketShow.mk 2 r388.Ticket r388.Walker)) r159.Boxes),(TicketBook.mk r190.Tally r190.Fare r190.Tickets (r190.Shows.set (0:Int).toNat (TicketShow.mk r396.Trip 3 r396.Walker)) r190.Boxes),(TicketBook.mk r221.Tally r221.Fare r221.Tickets (r221.Shows.set (0:Int).toNat (TicketShow.mk r404.Trip r404.Ticket 10)) r221.Boxes),(TicketBook.mk r252.Tally r252.Fare r252.Tickets r252.Shows (r252.Boxes.set (0:Int).toNat (TicketBox.mk r412.From 2 r412.Pence r412.Lost))),(TicketBook.mk r283.Tally r283.Fare r283.Tickets r283.Shows (r283.Boxes.set (0:Int).toNat (TicketBox.mk r420.From r420.To r420.Pence 41))),(TicketBook.mk r314.Tally r314.Fare r314.Tickets (List.replicate 6 (TicketShow.mk 0 0 0)) r314.Boxes)],rd eTicketBox 4 none 0 ([]:List TicketBox),rd eTicketShow 3 none 0 ([]:List TicketShow),rd eTicketSeason 2 none 0 ([]:List TicketSeason),rd eTallyCount 7 none 0 ([]:List TallyCount),rd eTicketBox 4 A324 c325 r314.Boxes,rd eTicketShow 3 A428 6 (List.replicate 6 (TicketShow.mk 0 0 0)),rd eTicketSeason 2 A320 c321 r314.Tickets,rd eTallyCount 7 A318 c319 r314.Tally.Counts,rd eTicketBox 4 A293 c294 (r283.Boxes.set (0:Int).toNat (TicketBox.mk r420.From r420.To r420.Pence 41)),rd eTicketShow 3 A291 c292 r283.Shows,rd eTicketSeason 2 A289 c290 r283.Tickets,rd eTallyCount 7 A287 c288 r283.Tally.Counts,rd eTicketBox 4 A262 c263 (r252.Boxes.set (0:Int).toNat (TicketBox.mk r412.From 2 r412.Pence r412.Lost)),rd eTicketShow 3 A260 c261 r252.Shows,rd eTicketSeason 2 A258 c259 r252.Tickets,rd eTallyCount 7 A256 c257 r252.Tally.Counts,rd eTicketBox 4 A231 c232 r221.Boxes,rd eTicketShow 3 A229 c230 (r221.Shows.set (0:Int).toNat (TicketShow.mk r404.Trip r404.Ticket 10)),rd eTicketSeason 2 A227 c228 r221.Tickets,rd eTallyCount 7 A225 c226 r221.Tally.Counts,rd eTicketBox 4 A200 c201 r190.Boxes,rd eTicketShow 3 A198 c199 (r190.Shows.set (0:Int).toNat (TicketShow.mk r396.Trip 3 r396.Walker)),rd eTicketSeason 2 A196 c197 r190.Tickets,rd eTallyCount 7 A194 c195 r190.Tally.Counts,rd eTicketBox 4 A169 c170 r159.Boxes,rd eTicketShow 3 A167 c168 (r159.Shows.set (0:Int).toNat (TicketShow.mk 2 r388.Ticket r388.Walker)),rd eTicketSeason 2 A165 c166 r159.Tickets,rd eTallyCount 7 A163 c164 r159.Tally.Counts,rd eTicketBox 4 A138 c139 r128.Boxes,rd eTicketShow 3 A136 c137 r128.Shows,rd eTicketSeason 2 A380 c381 (r128.Tickets++([(TicketSeason.mk 0 0)]:List TicketSeason)),rd eTallyCount 7 A132 c133 r128.Tally.Counts,rd eTicketBox 4 A107 c108 r97.Boxes,rd eTicketShow 3 A105 c106 r97.Shows,rd eTicketSeason 2 A103 c104 (r97.Tickets.set (1:Int).toNat (TicketSeason.mk 1 0)),rd eTallyCount 7 A101 c102 r97.Tally.Counts,rd eTicketBox 4 A76 c77 r66.Boxes,rd eTicketShow 3 A74 c75 r66.Shows,rd eTicketSeason 2 A72 c73 r66.Tickets,rd eTallyCount 7 A70 c71 r66.Tally.Counts,rd eTicketBox 4 A45 c46 r35.Boxes,rd eTicketShow 3 A43 c44 r35.Shows,rd eTicketSeason 2 A41 c42 r35.Tickets,rd eTallyCount 7 A39 c40 r35.Tally.Counts,rd eTicketBox 4 A14 c15 r4.Boxes,rd eTicketShow 3 A12 c13 r4.Shows,rd eTicketSeason 2 A10 c11 r4.Tickets,rd eTallyCount 7 A8 c9 r4.Tally.Counts,gW0,gW1,gW2]) 0 () H ⟨rfl,rfl,trivial⟩ S497 ?_
 try clear S497
 intro m498 z_1 y_1 e499 w500 H S501
 unfold law_TicketKnown_l2 at H
 refine c_seq<|c_seq<|reg<|p_mI rfl<|p_mS rfl<|p_lenN rfl sc79 (ri_len (S501.atP (i:=0) rfl))<|p_cmp rfl rfl rfl<|wp_nil ?_
 refine c_cond rfl (fun c502=>?_) (fun c502=>?_)
 ·replace H:=condT c502 H
  refine c_skip<|c_seq<|c_block<|c_seq<|reg<|p_mS rfl<|p_mI rfl ?_
  obtain ⟨r503,h504,H⟩:=bindS H
  obtain ⟨d505,h506⟩:=ri_at (S501.atP (i:=0) rfl) h504
  refine p_ixE sc79 h506 (gr_sl nTicketBook_len (S501.atX (i:=0) rfl)) rfl rfl rfl<|p_ldEA ty29 sz29 rfl h506 (gr_sl nTicketBook_len (S501.atX (i:=0) rfl)) rfl ?_
  have S507:=S501.riIn (j:=0) (k:=0) rfl h506 rfl
  have S508:=S507.riIn (j:=1) (k:=1) rfl h506 rfl
  try clear S507
  have S509:=S508.riIn (j:=2) (k:=2) rfl h506 rfl
  try clear S508
  have S510:=S509.riIn (j:=3) (k:=3) rfl h506 rfl
  try clear S509
  obtain ⟨r511,h512,H⟩:=bindS H
  refine p_cv (ticket_Right_ok h512 (S510.atP (i:=3) rfl) (S510.atP (i:=2) rfl) (S510.atP (i:=1) rfl) (S510.atP (i:=0) rfl) (S510.atP (i:=53) rfl) (S510.atP (i:=55) rfl)) fu16 rfl S510 fun w513 S514=>?_
  try clear S510
  refine p_mT rfl<|p_ext rfl rfl<|p_ext rfl rfl<|p_aB rfl<|p_aI rfl<|wp_nil<|c_seq<|reg<|p_mS rfl<|p_mI rfl ?_
  obtain ⟨r515,h516,H⟩:=bindS H
  obtain ⟨d517,h518⟩:=ri_at (S514.atP (i:=4) rfl) h516
  refine p_ixE sc79 h518 (gr_sl nTicketBook_len (S514.atX (i:=0) rfl)) rfl rfl rfl<|p_ldEA ty29 sz29 rfl h518 (gr_sl nTicketBook_len (S514.atX (i:=0) rfl)) rfl ?_
  have S519:=S514.riIn (j:=4) (k:=0) rfl h518 rfl
  try clear S514
  have S520:=S519.riIn (j:=5) (k:=1) rfl h518 rfl
  try clear S519
  have S521:=S520.riIn (j:=6) (k:=2) rfl h518 rfl
  try clear S520
  have S522:=S521.riIn (j:=7) (k:=3) rfl h518 rfl
  try clear S521
  obtain ⟨r523,h524,H⟩:=bindS H
  refine p_cv (ticket_Paid_ok h524 (S522.atP (i:=3) rfl) (S522.atP (i:=2) rfl) (S522.atP (i:=1) rfl) (S522.atP (i:=0) rfl) (S522.atP (i:=57) rfl) (S522.atP (i:=59) rfl)) fu22 rfl S522 fun w525 S526=>?_
  try clear S522
  refine p_mT rfl<|p_ext rfl rfl<|p_ext rfl rfl<|p_allA in49 S526 fun b527 w528 S529=>?_
  try clear S526
  refine p_stP (pre:=[]) (old:=[I 0,I 0]) (post:=[]) (vs:=[I r523.1.Low,I r523.1.High]) sz49 S529 (i:=0) rfl rfl rfl rfl (rfl:_=AG [I r523.1.Low,I r523.1.High]) rfl rfl rfl rfl fun w530 S531=>?_
  try clear S529
  refine p_aI rfl<|wp_nil<|c_seq<|reg<|p_mS rfl<|p_mI rfl ?_
  obtain ⟨r532,h533,H⟩:=bindS H
  obtain ⟨d534,h535⟩:=ri_at (S531.atP (i:=8) rfl) h533
  refine p_ixE sc79 h535 (gr_sl nTicketBook_len (S531.atX (i:=1) rfl)) rfl rfl rfl<|p_ldEA ty29 sz29 rfl h535 (gr_sl nTicketBook_len (S531.atX (i:=1) rfl)) rfl ?_
  have S536:=S531.riIn (j:=8) (k:=0) rfl h535 rfl
  try clear S531
  have S537:=S536.riIn (j:=9) (k:=1) rfl h535 rfl
  try clear S536
  have S538:=S537.riIn (j:=10) (k:=2) rfl h535 rfl
  try clear S537
  have S539:=S538.riIn (j:=11) (k:=3) rfl h535 rfl
  try clear S538
  obtain ⟨r540,h541,H⟩:=bindS H
  refine p_cv (ticket_Saved_ok h541 (S539.atP (i:=3) rfl) (S539.atP (i:=2) rfl) (S539.atP (i:=1) rfl) (S539.atP (i:=0) rfl) (S539.atP (i:=61) rfl) (S539.atP (i:=63) rfl)) fu29 rfl S539 fun w542 S543=>?_
  try clear S539
  refine p_mT rfl<|p_ext rfl rfl<|p_ext rfl rfl<|p_allA in49 S543 fun b544 w545 S546=>?_
  try clear S543
  refine p_stP (pre:=[]) (old:=[I 0,I 0]) (post:=[]) (vs:=[I r540.1.Low,I r540.1.High]) sz49 S546 (i:=0) rfl rfl rfl rfl (rfl:_=AG [I r540.1.Low,I r540.1.High]) rfl rfl rfl rfl fun w547 S548=>?_
  try clear S546
  refine p_aI rfl<|wp_nil<|c_seq<|reg<|p_mS rfl<|p_mI rfl ?_
  obtain ⟨r549,h550,H⟩:=bindS H
  obtain ⟨d551,h552⟩:=ri_at (S548.atP (i:=12) rfl) h550
  refine p_ixE sc79 h552 (gr_sl nTicketBook_len (S548.atX (i:=2) rfl)) rfl rfl rfl<|p_ldEA ty29 sz29 rfl h552 (gr_sl nTicketBook_len (S548.atX (i:=2) rfl)) rfl ?_
  have S553:=S548.riIn (j:=12) (k:=0) rfl h552 rfl
  try clear S548
  have S554:=S553.riIn (j:=13) (k:=1) rfl h552 rfl
  try clear S553
  have S555:=S554.riIn (j:=14) (k:=2) rfl h552 rfl
  try clear S554
  have S556:=S555.riIn (j:=15) (k:=3) rfl h552 rfl
  try clear S555
  obtain ⟨r557,h558,H⟩:=bindS H
  refine p_cal (ticket_Must_ok h558 (S556.atP (i:=3) rfl) (S556.atP (i:=2) rfl) (S556.atP (i:=1) rfl) (S556.atP (i:=0) rfl) (S556.atP (i:=65) rfl) (S556.atP (i:=66) rfl) (S556.atP (i:=67) rfl)) fu23 rfl ?_
  rintro _ w559 ⟨A561,c562,rfl,k560,⟨o563,n564⟩,_⟩
  have S565:=S556.callN k560 [rd intE 1 A561 c562 r557.1] (cA ⟨o563,New.inL n564⟩ nM)
  try clear S556
  refine p_mT rfl<|p_ext rfl rfl<|p_ext rfl rfl<|p_aS rfl<|p_aI rfl<|wp_nil<|c_seq<|reg<|p_mS rfl<|p_mI rfl ?_
  obtain ⟨r566,h567,H⟩:=bindS H
  obtain ⟨d568,h569⟩:=ri_at (S565.atP (i:=17) rfl) h567
  refine p_ixE sc79 h569 (gr_sl nTicketBook_len (S565.atX (i:=2) rfl)) rfl rfl rfl<|p_ldEA ty29 sz29 rfl h569 (gr_sl nTicketBook_len (S565.atX (i:=2) rfl)) rfl ?_
  have S570:=S565.riIn (j:=17) (k:=0) rfl h569 rfl
  try clear S565
  have S571:=S570.riIn (j:=18) (k:=1) rfl h569 rfl
  try clear S570
  have S572:=S571.riIn (j:=19) (k:=2) rfl h569 rfl
  try clear S571
  have S573:=S572.riIn (j:=20) (k:=3) rfl h569 rfl
  try clear S572
  obtain ⟨r574,h575,H⟩:=bindS H
  refine p_cal (ticket_May_ok h575 (S573.atP (i:=3) rfl) (S573.atP (i:=2) rfl) (S573.atP (i:=1) rfl) (S573.atP (i:=0) rfl) (S573.atP (i:=70) rfl) (S573.atP (i:=71) rfl) (S573.atP (i:=72) rfl)) fu24 rfl ?_
  rintro _ w576 ⟨A578,c579,rfl,k577,⟨o580,n581⟩,_⟩
  have S582:=S573.callN k577 [rd intE 1 A578 c579 r574.1] (cA ⟨o580,New.inL n581⟩ nM)
  try clear S573
  refine p_mT rfl<|p_ext rfl rfl<|p_ext rfl rfl<|p_aS rfl<|p_aI rfl<|wp_nil<|c_seq<|reg<|p_mS rfl<|p_mI rfl ?_
  obtain ⟨r583,h584,H⟩:=bindS H
  obtain ⟨d585,h586⟩:=ri_at (S582.atP (i:=22) rfl) h584
  refine p_ixE sc79 h586 (gr_sl nTicketBook_len (S582.atX (i:=2) rfl)) rfl rfl rfl<|p_ldEA ty29 sz29 rfl h586 (gr_sl nTicketBook_len (S582.atX (i:=2) rfl)) rfl ?_
  have S587:=S582.riIn (j:=22) (k:=0) rfl h586 rfl
  try clear S582
  have S588:=S587.riIn (j:=23) (k:=1) rfl h586 rfl
  try clear S587
  have S589:=S588.riIn (j:=24) (k:=2) rfl h586 rfl
  try clear S588
  have S590:=S589.riIn (j:=25) (k:=3) rfl h586 rfl
  try clear S589
  obtain ⟨r591,h592,H⟩:=bindS H
  refine p_cv (ticket_Clash_ok h592 (S590.atP (i:=3) rfl) (S590.atP (i:=2) rfl) (S590.atP (i:=1) rfl) (S590.atP (i:=0) rfl)) fu18 rfl S590 fun w593 S594=>?_
  try clear S590
  refine p_mT rfl<|p_ext rfl rfl<|p_ext rfl rfl<|p_ext rfl rfl<|p_aI rfl<|p_aI rfl<|p_aI rfl<|wp_nil<|c_seq<|reg<|p_mS rfl<|p_mI rfl ?_
  obtain ⟨r595,h596,H⟩:=bindS H
  obtain ⟨d597,h598⟩:=ri_at (S594.atP (i:=26) rfl) h596
  refine p_ixE sc79 h598 (gr_sl nTicketBook_len (S594.atX (i:=2) rfl)) rfl rfl rfl<|p_ldEA ty29 sz29 rfl h598 (gr_sl nTicketBook_len (S594.atX (i:=2) rfl)) rfl ?_
  have S599:=S594.riIn (j:=26) (k:=0) rfl h598 rfl
  try clear S594
  have S600:=S599.riIn (j:=27) (k:=1) rfl h598 rfl
  try clear S599
  have S601:=S600.riIn (j:=28) (k:=2) rfl h598 rfl
  try clear S600
  have S602:=S601.riIn (j:=29) (k:=3) rfl h598 rfl
  try clear S601
  obtain ⟨r603,h604,H⟩:=bindS H
  refine p_cal (ticket_Lent_ok h604 (S602.atP (i:=3) rfl) (S602.atP (i:=2) rfl) (S602.atP (i:=1) rfl) (S602.atP (i:=0) rfl) (S602.atP (i:=79) rfl) (S602.atP (i:=81) rfl)) fu40 rfl ?_
  rintro _ w605 ⟨A607,c608,rfl,k606,⟨o609,n610⟩,_⟩
  have S611:=S602.callN k606 [rd intE 1 A607 c608 r603.1] (cA ⟨o609,New.inL n610⟩ nM)
  try clear S602
  refine p_mT rfl<|p_ext rfl rfl<|p_ext rfl rfl<|p_aS rfl<|p_aI rfl<|wp_nil<|c_seq<|reg<|p_mS rfl<|p_mI rfl ?_
  obtain ⟨r612,h613,H⟩:=bindS H
  obtain ⟨d614,h615⟩:=ri_at (S611.atP (i:=31) rfl) h613
  refine p_ixE sc79 h615 (gr_sl nTicketBook_len (S611.atX (i:=2) rfl)) rfl rfl rfl<|p_ldEA ty29 sz29 rfl h615 (gr_sl nTicketBook_len (S611.atX (i:=2) rfl)) rfl ?_
  have S616:=S611.riIn (j:=31) (k:=0) rfl h615 rfl
  try clear S611
  have S617:=S616.riIn (j:=32) (k:=1) rfl h615 rfl
  try clear S616
  have S618:=S617.riIn (j:=33) (k:=2) rfl h615 rfl
  try clear S617
  have S619:=S618.riIn (j:=34) (k:=3) rfl h615 rfl
  try clear S618
  refine p_bld (cs:=[I (-1),I 0,I 0,I 0]) st72 (rfl:_=[(0,I (-1))]) (by kernel_rfl) ?_
  obtain ⟨r620,h621,H⟩:=bindS H
  refine p_cv (ticket_Fits_ok h621 (S619.atP (i:=3) rfl) (S619.atP (i:=2) rfl) (S619.atP (i:=1) rfl) (S619.atP (i:=0) rfl) (S619.atP (i:=84) rfl) (S619.atP (i:=86) rfl)) fu35 rfl S619 fun w622 S623=>?_
  try clear S619
  refine p_mT rfl<|p_ext rfl rfl<|p_ext rfl rfl<|p_aB rfl<|p_aI rfl<|wp_nil<|c_seq<|reg<|p_mS rfl<|p_mI rfl ?_
  obtain ⟨r624,h625,H⟩:=bindS H
  obtain ⟨d626,h627⟩:=ri_at (S623.atP (i:=35) rfl) h625
  refine p_ixE sc79 h627 (gr_sl nTicketBook_len (S623.atX (i:=2) rfl)) rfl rfl rfl<|p_ldEA ty29 sz29 rfl h627 (gr_sl nTicketBook_len (S623.atX (i:=2) rfl)) rfl ?_
  have S628:=S623.riIn (j:=35) (k:=0) rfl h627 rfl
  try clear S623
  have S629:=S628.riIn (j:=36) (k:=1) rfl h627 rfl
  try clear S628
  have S630:=S629.riIn (j:=37) (k:=2) rfl h627 rfl
  try clear S629
  have S631:=S630.riIn (j:=38) (k:=3) rfl h627 rfl
  try clear S630
  obtain ⟨r632,h633,H⟩:=bindS H
  refine p_cal (ticket_Wrong_ok h633 (S631.atP (i:=3) rfl) (S631.atP (i:=2) rfl) (S631.atP (i:=1) rfl) (S631.atP (i:=0) rfl) (S631.atP (i:=88) rfl) (S631.atP (i:=90) rfl)) fu17 rfl ?_
  rintro _ w634 ⟨A636,c637,rfl,k635,⟨o638,n639⟩,_⟩
  have S640:=S631.callN k635 [rd intE 1 A636 c637 r632.1] (cA ⟨o638,Al.inL n639 ((cA (fp_mem (i:=3) rfl) (cA (fp_mem (i:=2) rfl) (cA (fp_mem (i:=1) rfl) (cA (fp_mem (i:=0) rfl) nM)))))⟩ nM)
  try clear S631
  refine p_mT rfl<|p_ext rfl rfl<|p_ext rfl rfl<|p_aS rfl<|p_aI rfl<|wp_nil<|c_seq<|reg<|p_mS rfl<|p_mI rfl ?_
  obtain ⟨r641,h642,H⟩:=bindS H
  obtain ⟨d643,h644⟩:=ri_at (S640.atP (i:=40) rfl) h642
  refine p_ixE sc79 h644 (gr_sl nTicketBook_len (S640.atX (i:=2) rfl)) rfl rfl rfl<|p_ldEA ty29 sz29 rfl h644 (gr_sl nTicketBook_len (S640.atX (i:=2) rfl)) rfl ?_
  have S645:=S640.riIn (j:=40) (k:=0) rfl h644 rfl
  try clear S640
  have S646:=S645.riIn (j:=41) (k:=1) rfl h644 rfl
  try clear S645
  have S647:=S646.riIn (j:=42) (k:=2) rfl h644 rfl
  try clear S646
  have S648:=S647.riIn (j:=43) (k:=3) rfl h644 rfl
  try clear S647
  obtain ⟨r649,h650,H⟩:=bindS H
  refine p_cv (ticket_Check_ok h650 (S648.atP (i:=3) rfl) (S648.atP (i:=2) rfl) (S648.atP (i:=1) rfl) (S648.atP (i:=0) rfl)) fu37 rfl S648 fun w651 S652=>?_
  try clear S648
  refine p_cmp rfl rfl rfl<|p_mB rfl ?_
  rcases bE ((r649 != 100)) with c653 | c653
  ·exact nH (condT c653 H)
  ·replace H:=condF c653 H
   refine eB c653 ?_
   refine gT rfl rfl (p_mI rfl ?_)
   refine gT rfl rfl (p_cmp rfl rfl rfl ?_)
   refine p_pkF rfl (rfl:_=B (r511.2 != 100))<|p_mB rfl ?_
   rcases bE ((r511.2 != 100)) with c655 | c655
   ·exact nH (condT c655 H)
   ·replace H:=condF c655 H
    refine eB c655 ?_
    refine gT rfl rfl (p_mI rfl ?_)
    refine gT rfl rfl (p_cmp rfl rfl rfl ?_)
    refine p_pkF rfl (rfl:_=B (r523.2 != 100))<|p_mB rfl ?_
    rcases bE ((r523.2 != 100)) with c657 | c657
    ·exact nH (condT c657 H)
    ·replace H:=condF c657 H
     refine eB c657 ?_
     refine gT rfl rfl (p_mI rfl ?_)
     refine gT rfl rfl (p_cmp rfl rfl rfl ?_)
     refine p_pkF rfl (rfl:_=B (r540.2 != 100))<|p_mB rfl ?_
     rcases bE ((r540.2 != 100)) with c659 | c659
     ·exact nH (condT c659 H)
     ·replace H:=condF c659 H
      refine eB c659 ?_
      refine gT rfl rfl (p_mI rfl ?_)
      refine gT rfl rfl (p_cmp rfl rfl rfl ?_)
      refine p_pkF rfl (rfl:_=B (r557.2 != 100))<|p_mB rfl ?_
      rcases bE ((r557.2 != 100)) with c661 | c661
      ·exact nH (condT c661 H)
      ·replace H:=condF c661 H
       refine eB c661 ?_
       refine gT rfl rfl (p_mI rfl ?_)
       refine gT rfl rfl (p_cmp rfl rfl rfl ?_)
       refine p_pkF rfl (rfl:_=B (r574.2 != 100))<|p_mB rfl ?_
       rcases bE ((r574.2 != 100)) with c663 | c663
       ·exact nH (condT c663 H)
       ·replace H:=condF c663 H
        refine eB c663 ?_
        refine gT rfl rfl (p_mI rfl ?_)
        refine gT rfl rfl (p_cmp rfl rfl rfl ?_)
        refine p_pkF rfl (rfl:_=B (r591.2.2 != 100))<|p_mB rfl ?_
        rcases bE ((r591.2.2 != 100)) with c665 | c665
        ·exact nH (condT c665 H)
        ·replace H:=condF c665 H
         refine eB c665 ?_
         refine gT rfl rfl (p_mI rfl ?_)
         refine gT rfl rfl (p_cmp rfl rfl rfl ?_)
         refine p_pkF rfl (rfl:_=B (r603.2 != 100))<|p_mB rfl ?_
         rcases bE ((r603.2 != 100)) with c667 | c667
         ·exact nH (condT c667 H)
         ·replace H:=condF c667 H
          refine eB c667 ?_
          refine gT rfl rfl (p_mI rfl ?_)
          refine gT rfl rfl (p_cmp rfl rfl rfl ?_)
          refine p_pkF rfl (rfl:_=B (r620.2 != 100))<|p_mB rfl ?_
          rcases bE ((r620.2 != 100)) with c669 | c669
          ·exact nH (condT c669 H)
          ·replace H:=condF c669 H
           refine eB c669 ?_
           refine gT rfl rfl (p_mI rfl ?_)
           refine gT rfl rfl (p_cmp rfl rfl rfl ?_)
           refine p_pkF rfl (rfl:_=B (r632.2 != 100))<|wp_nil ?_
           refine c_cond rfl (fun c671=>?_) (fun c671=>?_)
           ·exact nH (condT c671 H)
           ·replace H:=condF c671 H
            refine c_skip<|reg<|p_mI rfl<|p_add rfl rfl<|p_aI rfl<|wp_nil ?_
            have S673:=S652.pk [2] (by decide) [44,45,46,47,48,49,50,51,52,53,54,55,56,57,58,59,60,61,62,63,64,65,66,67,68,69,70,71,72,73,74,75,76,77,78,79,80,81,82,83,84,85,86,87,88,89,90,91,92,93,94,95] rfl rfl
            try clear S652
            exact ⟨wr (z_1+1),(),_,rfl,⟨rfl,rfl,trivial⟩,H,S673⟩
 ·replace H:=condF c502 H
  refine c_exit ?_
  have S674:St w nF w500 [] [rd eTicketBox 4 none 0 ([]:List TicketBox),rd eTicketShow 3 none 0 ([]:List TicketShow),rd eTicketSeason 2 none 0 ([]:List TicketSeason),rd eTallyCount 7 none 0 ([]:List TallyCount),gW0,gW1,gW2]:=S501.pk [] (by decide) [1,2,3,4,49,50,51] rfl rfl
  try clear S501
  refine c_seq<|reg ?_
  obtain ⟨r675,h676,H⟩:=bindS H
  refine p_cal (law_double_ok h676) fu41 rfl ?_
  rintro _ w677 ⟨A679,c680,A681,c682,A683,c684,A685,c686,rfl,k678,⟨o687,n688⟩,⟨o689,n690⟩,⟨o691,n692⟩,⟨o693,n694⟩,j695,j696,j697,j698,j699,j700,_⟩
  have S705:=S674.callMo k678 [gr eTallyCount 7 81 A679 c680 r675.Tally.Counts,gr eTicketSeason 2 65 A681 c682 r675.Tickets,gr eTicketShow 3 67 A683 c684 r675.Shows,gr eTicketBox 4 72 A685 c686 r675.Boxes] [] (cA ⟨o687,n688⟩ (cA ⟨o689,n690⟩ (cA ⟨o691,n692⟩ (cA ⟨o693,n694⟩ nM)))) (pC (cA j695 (cA j696 (cA j697 nM))) (pC (cA j698 (cA j699 nM)) (pC (cA j700 nM) (pC nM List.Pairwise.nil)))) nM (cA nM (cA nM (cA nM (cA nM nM))))
  try clear S674
  obtain ⟨r706,h707,H⟩:=bindS H
  refine p_cv (ticket_Paid_ok h707 (gr_rd eTallyCount_len (S705.atX (i:=0) rfl)) (gr_rd eTicketSeason_len (S705.atX (i:=1) rfl)) (gr_rd eTicketShow_len (S705.atX (i:=2) rfl)) (gr_rd eTicketBox_len (S705.atX (i:=3) rfl)) (S705.atP (i:=4) rfl) (S705.atP (i:=6) rfl)) fu22 rfl S705 fun w708 S709=>?_
  try clear S705
  refine p_mT rfl<|p_ext rfl rfl<|p_ext rfl rfl<|p_allA in49 S709 fun b710 w711 S712=>?_
  try clear S709
  refine p_stP (pre:=[]) (old:=[I 0,I 0]) (post:=[]) (vs:=[I r706.1.Low,I r706.1.High]) sz49 S712 (i:=0) rfl rfl rfl rfl (rfl:_=AG [I r706.1.Low,I r706.1.High]) rfl rfl rfl rfl fun w713 S714=>?_
  try clear S712
  refine p_aI rfl<|wp_nil ?_
  have S715:St w nF w713 [] [rd eTicketBox 4 none 0 ([]:List TicketBox),rd eTicketShow 3 none 0 ([]:List TicketShow),rd eTicketSeason 2 none 0 ([]:List TicketSeason),rd eTallyCount 7 none 0 ([]:List TallyCount),gW0,gW1,gW2]:=S714.pk [] (by decide) [0,1,2,3,4,5,6] rfl rfl
  try clear S714
  refine c_seq<|reg ?_
  obtain ⟨r716,h717,H⟩:=bindS H
  refine p_cal (law_double_ok h717) fu41 rfl ?_
  rintro _ w718 ⟨A720,c721,A722,c723,A724,c725,A726,c727,rfl,k719,⟨o728,n729⟩,⟨o730,n731⟩,⟨o732,n733⟩,⟨o734,n735⟩,j736,j737,j738,j739,j740,j741,_⟩
  have S746:=S715.callMo k719 [gr eTallyCount 7 81 A720 c721 r716.Tally.Counts,gr eTicketSeason 2 65 A722 c723 r716.Tickets,gr eTicketShow 3 67 A724 c725 r716.Shows,gr eTicketBox 4 72 A726 c727 r716.Boxes] [] (cA ⟨o728,n729⟩ (cA ⟨o730,n731⟩ (cA ⟨o732,n733⟩ (cA ⟨o734,n735⟩ nM)))) (pC (cA j736 (cA j737 (cA j738 nM))) (pC (cA j739 (cA j740 nM)) (pC (cA j741 nM) (pC nM List.Pairwise.nil)))) nM (cA nM (cA nM (cA nM (cA nM nM))))
  try clear S715
  obtain ⟨r747,h748,H⟩:=bindS H
  refine p_cv (ticket_Saved_ok h748 (gr_rd eTallyCount_len (S746.atX (i:=0) rfl)) (gr_rd eTicketSeason_len (S746.atX (i:=1) rfl)) (gr_rd eTicketShow_len (S746.atX (i:=2) rfl)) (gr_rd eTicketBox_len (S746.atX (i:=3) rfl)) (S746.atP (i:=4) rfl) (S746.atP (i:=6) rfl)) fu29 rfl S746 fun w749 S750=>?_
  try clear S746
  refine p_mT rfl<|p_ext rfl rfl<|p_ext rfl rfl<|p_allA in49 S750 fun b751 w752 S753=>?_
  try clear S750
  refine p_stP (pre:=[]) (old:=[I 0,I 0]) (post:=[]) (vs:=[I r747.1.Low,I r747.1.High]) sz49 S753 (i:=0) rfl rfl rfl rfl (rfl:_=AG [I r747.1.Low,I r747.1.High]) rfl rfl rfl rfl fun w754 S755=>?_
  try clear S753
  refine p_aI rfl<|wp_nil ?_
  have S756:St w nF w754 [] [rd eTicketBox 4 none 0 ([]:List TicketBox),rd eTicketShow 3 none 0 ([]:List TicketShow),rd eTicketSeason 2 none 0 ([]:List TicketSeason),rd eTallyCount 7 none 0 ([]:List TallyCount),gW0,gW1,gW2]:=S755.pk [] (by decide) [0,1,2,3,4,5,6] rfl rfl
  try clear S755
  refine c_seq<|reg ?_
  obtain ⟨r757,h758,H⟩:=bindS H
  refine p_cal (law_double_ok h758) fu41 rfl ?_
  rintro _ w759 ⟨A761,c762,A763,c764,A765,c766,A767,c768,rfl,k760,⟨o769,n770⟩,⟨o771,n772⟩,⟨o773,n774⟩,⟨o775,n776⟩,j777,j778,j779,j780,j781,j782,_⟩
  have S787:=S756.callMo k760 [gr eTallyCount 7 81 A761 c762 r757.Tally.Counts,gr eTicketSeason 2 65 A763 c764 r757.Tickets,gr eTicketShow 3 67 A765 c766 r757.Shows,gr eTicketBox 4 72 A767 c768 r757.Boxes] [] (cA ⟨o769,n770⟩ (cA ⟨o771,n772⟩ (cA ⟨o773,n774⟩ (cA ⟨o775,n776⟩ nM)))) (pC (cA j777 (cA j778 (cA j779 nM))) (pC (cA j780 (cA j781 nM)) (pC (cA j782 nM) (pC nM List.Pairwise.nil)))) nM (cA nM (cA nM (cA nM (cA nM nM))))
  try clear S756
  obtain ⟨r788,h789,H⟩:=bindS H
  refine p_cal (ticket_Must_ok h789 (gr_rd eTallyCount_len (S787.atX (i:=0) rfl)) (gr_rd eTicketSeason_len (S787.atX (i:=1) rfl)) (gr_rd eTicketShow_len (S787.atX (i:=2) rfl)) (gr_rd eTicketBox_len (S787.atX (i:=3) rfl)) (S787.atP (i:=4) rfl) (S787.atP (i:=5) rfl) (S787.atP (i:=6) rfl)) fu23 rfl ?_
  rintro _ w790 ⟨A792,c793,rfl,k791,⟨o794,n795⟩,_⟩
  have S796:=S787.callN k791 [rd intE 1 A792 c793 r788.1] (cA ⟨o794,New.inL n795⟩ nM)
  try clear S787
  refine p_mT rfl<|p_ext rfl rfl<|p_ext rfl rfl<|p_aS rfl<|p_aI rfl<|wp_nil ?_
  have S797:St w nF w790 [] [rd intE 1 A792 c793 r788.1,rd eTicketBox 4 none 0 ([]:List TicketBox),rd eTicketShow 3 none 0 ([]:List TicketShow),rd eTicketSeason 2 none 0 ([]:List TicketSeason),rd eTallyCount 7 none 0 ([]:List TallyCount),gW0,gW1,gW2]:=S796.pk [] (by decide) [0,1,2,3,4,5,6,7] rfl rfl
  try clear S796
  refine c_seq<|reg ?_
  obtain ⟨r798,h799,H⟩:=bindS H
  refine p_cal (law_double_ok h799) fu41 rfl ?_
  rintro _ w800 ⟨A802,c803,A804,c805,A806,c807,A808,c809,rfl,k801,⟨o810,n811⟩,⟨o812,n813⟩,⟨o814,n815⟩,⟨o816,n817⟩,j818,j819,j820,j821,j822,j823,_⟩
  have S828:=S797.callMo k801 [gr eTallyCount 7 81 A802 c803 r798.Tally.Counts,gr eTicketSeason 2 65 A804 c805 r798.Tickets,gr eTicketShow 3 67 A806 c807 r798.Shows,gr eTicketBox 4 72 A808 c809 r798.Boxes] [] (cA ⟨o810,n811⟩ (cA ⟨o812,n813⟩ (cA ⟨o814,n815⟩ (cA ⟨o816,n817⟩ nM)))) (pC (cA j818 (cA j819 (cA j820 nM))) (pC (cA j821 (cA j822 nM)) (pC (cA j823 nM) (pC nM List.Pairwise.nil)))) nM (cA nM (cA nM (cA nM (cA nM nM))))
  try clear S797
  obtain ⟨r829,h830,H⟩:=bindS H
  refine p_cal (ticket_May_ok h830 (gr_rd eTallyCount_len (S828.atX (i:=0) rfl)) (gr_rd eTicketSeason_len (S828.atX (i:=1) rfl)) (gr_rd eTicketShow_len (S828.atX (i:=2) rfl)) (gr_rd eTicketBox_len (S828.atX (i:=3) rfl)) (S828.atP (i:=5) rfl) (S828.atP (i:=6) rfl) (S828.atP (i:=7) rfl)) fu24 rfl ?_
  rintro _ w831 ⟨A833,c834,rfl,k832,⟨o835,n836⟩,_⟩
  have S837:=S828.callN k832 [rd intE 1 A833 c834 r829.1] (cA ⟨o835,New.inL n836⟩ nM)
  try clear S828
  refine p_mT rfl<|p_ext rfl rfl<|p_ext rfl rfl<|p_aS rfl<|p_aI rfl<|wp_nil<|c_seq<|reg ?_
  obtain ⟨r838,h839,H⟩:=bindS H
  refine p_cal (law_double_ok h839) fu41 rfl ?_
  rintro _ w840 ⟨A842,c843,A844,c845,A846,c847,A848,c849,rfl,k841,⟨o850,n851⟩,⟨o852,n853⟩,⟨o854,n855⟩,⟨o856,n857⟩,j858,j859,j860,j861,j862,j863,_⟩
  have S868:=S837.callMo k841 [gr eTallyCount 7 81 A842 c843 r838.Tally.Counts,gr eTicketSeason 2 65 A844 c845 r838.Tickets,gr eTicketShow 3 67 A846 c847 r838.Shows,gr eTicketBox 4 72 A848 c849 r838.Boxes] [] (cA ⟨o850,n851⟩ (cA ⟨o852,n853⟩ (cA ⟨o854,n855⟩ (cA ⟨o856,n857⟩ nM)))) (pC (cA j858 (cA j859 (cA j860 nM))) (pC (cA j861 (cA j862 nM)) (pC (cA j863 nM) (pC nM List.Pairwise.nil)))) nM (cA nM (cA nM (cA nM (cA nM nM))))
  try clear S837
  refine p_bld (cs:=[I 1,I 0,I 0,I 0]) st72 (rfl:_=[(0,I 1),(1,I 0)]) (by kernel_rfl) ?_
  obtain ⟨r869,h870,H⟩:=bindS H
  refine p_cv (ticket_Fits_ok h870 (gr_rd eTallyCount_len (S868.atX (i:=0) rfl)) (gr_rd eTicketSeason_len (S868.atX (i:=1) rfl)) (gr_rd eTicketShow_len (S868.atX (i:=2) rfl)) (gr_rd eTicketBox_len (S868.atX (i:=3) rfl)) (S868.atP (i:=6) rfl) (S868.atP (i:=8) rfl)) fu35 rfl S868 fun w871 S872=>?_
  try clear S868
  refine p_mT rfl<|p_ext rfl rfl<|p_ext rfl rfl<|p_aB rfl<|p_aI rfl<|wp_nil<|c_seq<|reg ?_
  obtain ⟨r873,h874,H⟩:=bindS H
  refine p_cal (law_double_ok h874) fu41 rfl ?_
  rintro _ w875 ⟨A877,c878,A879,c880,A881,c882,A883,c884,rfl,k876,⟨o885,n886⟩,⟨o887,n888⟩,⟨o889,n890⟩,⟨o891,n892⟩,j893,j894,j895,j896,j897,j898,_⟩
  have S903:=S872.callMo k876 [gr eTallyCount 7 81 A877 c878 r873.Tally.Counts,gr eTicketSeason 2 65 A879 c880 r873.Tickets,gr eTicketShow 3 67 A881 c882 r873.Shows,gr eTicketBox 4 72 A883 c884 r873.Boxes] [] (cA ⟨o885,n886⟩ (cA ⟨o887,n888⟩ (cA ⟨o889,n890⟩ (cA ⟨o891,n892⟩ nM)))) (pC (cA j893 (cA j894 (cA j895 nM))) (pC (cA j896 (cA j897 nM)) (pC (cA j898 nM) (pC nM List.Pairwise.nil)))) nM (cA nM (cA nM (cA nM (cA nM nM))))
  try clear S872
  obtain ⟨r904,h905,H⟩:=bindS H
  refine p_cv (ticket_Paid_ok h905 (gr_rd eTallyCount_len (S903.atX (i:=0) rfl)) (gr_rd eTicketSeason_len (S903.atX (i:=1) rfl)) (gr_rd eTicketShow_len (S903.atX (i:=2) rfl)) (gr_rd eTicketBox_len (S903.atX (i:=3) rfl)) (S903.atP (i:=6) rfl) (S903.atP (i:=8) rfl)) fu22 rfl S903 fun w906 S907=>?_
  try clear S903
  refine p_mT rfl<|p_ext rfl rfl<|p_ext rfl rfl<|p_allA in49 S907 fun b908 w909 S910=>?_
  try clear S907
  refine p_stP (pre:=[]) (old:=[I 0,I 0]) (post:=[]) (vs:=[I r904.1.Low,I r904.1.High]) sz49 S910 (i:=0) rfl rfl rfl rfl (rfl:_=AG [I r904.1.Low,I r904.1.High]) rfl rfl rfl rfl fun w911 S912=>?_
  try clear S910
  refine p_aI rfl<|wp_nil ?_
  have S913:St w nF w911 [] [rd intE 1 A833 c834 r829.1,rd intE 1 A792 c793 r788.1,rd eTicketBox 4 none 0 ([]:List TicketBox),rd eTicketShow 3 none 0 ([]:List TicketShow),rd eTicketSeason 2 none 0 ([]:List TicketSeason),rd eTallyCount 7 none 0 ([]:List TallyCount),gW0,gW1,gW2]:=S912.pk [] (by decide) [0,1,2,3,4,5,6,7,8] rfl rfl
  try clear S912
  refine c_seq<|reg ?_
  obtain ⟨r914,h915,H⟩:=bindS H
  refine p_cal (law_double_ok h915) fu41 rfl ?_
  rintro _ w916 ⟨A918,c919,A920,c921,A922,c923,A924,c925,rfl,k917,⟨o926,n927⟩,⟨o928,n929⟩,⟨o930,n931⟩,⟨o932,n933⟩,j934,j935,j936,j937,j938,j939,_⟩
  have S944:=S913.callMo k917 [gr eTallyCount 7 81 A918 c919 r914.Tally.Counts,gr eTicketSeason 2 65 A920 c921 r914.Tickets,gr eTicketShow 3 67 A922 c923 r914.Shows,gr eTicketBox 4 72 A924 c925 r914.Boxes] [] (cA ⟨o926,n927⟩ (cA ⟨o928,n929⟩ (cA ⟨o930,n931⟩ (cA ⟨o932,n933⟩ nM)))) (pC (cA j934 (cA j935 (cA j936 nM))) (pC (cA j937 (cA j938 nM)) (pC (cA j939 nM) (pC nM List.Pairwise.nil)))) nM (cA nM (cA nM (cA nM (cA nM nM))))
  try clear S913
  obtain ⟨r945,h946,H⟩:=bindS H
  refine p_cal (ticket_Lent_ok h946 (gr_rd eTallyCount_len (S944.atX (i:=0) rfl)) (gr_rd eTicketSeason_len (S944.atX (i:=1) rfl)) (gr_rd eTicketShow_len (S944.atX (i:=2) rfl)) (gr_rd eTicketBox_len (S944.atX (i:=3) rfl)) (S944.atP (i:=6) rfl) (S944.atP (i:=8) rfl)) fu40 rfl ?_
  rintro _ w947 ⟨A949,c950,rfl,k948,⟨o951,n952⟩,_⟩
  have S953:=S944.callN k948 [rd intE 1 A949 c950 r945.1] (cA ⟨o951,New.inL n952⟩ nM)
  try clear S944
  refine p_mT rfl<|p_ext rfl rfl<|p_ext rfl rfl<|p_aS rfl<|p_aI rfl<|wp_nil<|c_seq<|reg ?_
  obtain ⟨r954,h955,H⟩:=bindS H
  refine p_cal (law_robbed_ok h955) fu42 rfl ?_
  rintro _ w956 ⟨A958,c959,A960,c961,A962,c963,A964,c965,rfl,k957,⟨o966,n967⟩,⟨o968,n969⟩,⟨o970,n971⟩,⟨o972,n973⟩,j974,j975,j976,j977,j978,j979,_⟩
  have S984:=S953.callMo k957 [gr eTallyCount 7 81 A958 c959 r954.Tally.Counts,gr eTicketSeason 2 65 A960 c961 r954.Tickets,gr eTicketShow 3 67 A962 c963 r954.Shows,gr eTicketBox 4 72 A964 c965 r954.Boxes] [] (cA ⟨o966,n967⟩ (cA ⟨o968,n969⟩ (cA ⟨o970,n971⟩ (cA ⟨o972,n973⟩ nM)))) (pC (cA j974 (cA j975 (cA j976 nM))) (pC (cA j977 (cA j978 nM)) (pC (cA j979 nM) (pC nM List.Pairwise.nil)))) nM (cA nM (cA nM (cA nM (cA nM nM))))
  try clear S953
  refine p_bld (cs:=[I 0,I 0,I 0,I 0]) st72 (rfl:_=[]) (by kernel_rfl) ?_
  obtain ⟨r985,h986,H⟩:=bindS H
  refine p_cv (ticket_Fits_ok h986 (gr_rd eTallyCount_len (S984.atX (i:=0) rfl)) (gr_rd eTicketSeason_len (S984.atX (i:=1) rfl)) (gr_rd eTicketShow_len (S984.atX (i:=2) rfl)) (gr_rd eTicketBox_len (S984.atX (i:=3) rfl)) (S984.atP (i:=7) rfl) (S984.atP (i:=9) rfl)) fu35 rfl S984 fun w987 S988=>?_
  try clear S984
  refine p_mT rfl<|p_ext rfl rfl<|p_ext rfl rfl<|p_aB rfl<|p_aI rfl<|wp_nil<|c_seq<|reg ?_
  obtain ⟨r989,h990,H⟩:=bindS H
  refine p_cal (law_own_ok h990) fu39 rfl ?_
  rintro _ w991 ⟨A993,c994,A995,c996,A997,c998,A999,c1000,rfl,k992,⟨o1001,n1002⟩,⟨o1003,n1004⟩,⟨o1005,n1006⟩,⟨o1007,n1008⟩,j1009,j1010,j1011,j1012,j1013,j1014,_⟩
  have S1019:=S988.callMo k992 [gr eTallyCount 7 81 A993 c994 r989.Tally.Counts,gr eTicketSeason 2 65 A995 c996 r989.Tickets,gr eTicketShow 3 67 A997 c998 r989.Shows,gr eTicketBox 4 72 A999 c1000 r989.Boxes] [] (cA ⟨o1001,n1002⟩ (cA ⟨o1003,n1004⟩ (cA ⟨o1005,n1006⟩ (cA ⟨o1007,n1008⟩ nM)))) (pC (cA j1009 (cA j1010 (cA j1011 nM))) (pC (cA j1012 (cA j1013 nM)) (pC (cA j1014 nM) (pC nM List.Pairwise.nil)))) nM (cA nM (cA nM (cA nM (cA nM nM))))
  try clear S988
  obtain ⟨r1020,h1021,H⟩:=bindS H
  refine p_cv (ticket_Clash_ok h1021 (gr_rd eTallyCount_len (S1019.atX (i:=0) rfl)) (gr_rd eTicketSeason_len (S1019.atX (i:=1) rfl)) (gr_rd eTicketShow_len (S1019.atX (i:=2) rfl)) (gr_rd eTicketBox_len (S1019.atX (i:=3) rfl))) fu18 rfl S1019 fun w1022 S1023=>?_
  try clear S1019
  refine p_mT rfl<|p_ext rfl rfl<|p_ext rfl rfl<|p_ext rfl rfl<|p_aI rfl<|p_aI rfl<|p_aI rfl<|wp_nil ?_
  have S1024:St w nF w1022 [] [rd intE 1 A949 c950 r945.1,rd intE 1 A833 c834 r829.1,rd intE 1 A792 c793 r788.1,rd eTicketBox 4 none 0 ([]:List TicketBox),rd eTicketShow 3 none 0 ([]:List TicketShow),rd eTicketSeason 2 none 0 ([]:List TicketSeason),rd eTallyCount 7 none 0 ([]:List TallyCount),gW0,gW1,gW2]:=S1023.pk [] (by decide) [0,1,2,3,4,5,6,7,8,9] rfl rfl
  try clear S1023
  refine c_seq<|reg ?_
  obtain ⟨r1025,h1026,H⟩:=bindS H
  refine p_cal (law_own_ok h1026) fu39 rfl ?_
  rintro _ w1027 ⟨A1029,c1030,A1031,c1032,A1033,c1034,A1035,c1036,rfl,k1028,⟨o1037,n1038⟩,⟨o1039,n1040⟩,⟨o1041,n1042⟩,⟨o1043,n1044⟩,j1045,j1046,j1047,j1048,j1049,j1050,_⟩
  have S1055:=S1024.callMo k1028 [gr eTallyCount 7 81 A1029 c1030 r1025.Tally.Counts,gr eTicketSeason 2 65 A1031 c1032 r1025.Tickets,gr eTicketShow 3 67 A1033 c1034 r1025.Shows,gr eTicketBox 4 72 A1035 c1036 r1025.Boxes] [] (cA ⟨o1037,n1038⟩ (cA ⟨o1039,n1040⟩ (cA ⟨o1041,n1042⟩ (cA ⟨o1043,n1044⟩ nM)))) (pC (cA j1045 (cA j1046 (cA j1047 nM))) (pC (cA j1048 (cA j1049 nM)) (pC (cA j1050 nM) (pC nM List.Pairwise.nil)))) nM (cA nM (cA nM (cA nM (cA nM nM))))
  try clear S1024
  refine p_allA in29 S1055 fun b1056 w1057 S1058=>?_
  try clear S1055
  refine p_stP (pre:=[]) (old:=[I 0,I 0,SL none 0 0,I 0,SL none 0 0,SL none 0 0,SL none 0 0]) (post:=[]) (vs:=[I r1025.Tally.Trips,I r1025.Tally.Room,SL A1029 r1025.Tally.Counts.length c1030,I r1025.Fare,SL A1031 r1025.Tickets.length c1032,SL A1033 r1025.Shows.length c1034,SL A1035 r1025.Boxes.length c1036]) sz29 S1058 (i:=0) rfl rfl rfl rfl (rfl:_=AG [I r1025.Tally.Trips,I r1025.Tally.Room,SL A1029 r1025.Tally.Counts.length c1030,I r1025.Fare,SL A1031 r1025.Tickets.length c1032,SL A1033 r1025.Shows.length c1034,SL A1035 r1025.Boxes.length c1036]) rfl rfl rfl rfl fun w1059 S1060=>?_
  try clear S1058
  refine wp_nil<|c_seq<|reg<|p_fld fl29_0 rfl<|p_fld fl24_2 rfl<|p_ld ty22 (S1060.atX (i:=0) rfl) rfl rfl<|p_bld (cs:=[I 0,I 0,I 0,I 1,I 1,I 0,I 0]) st81 (rfl:_=[(1,I 0),(2,I 0),(3,I 1),(4,I 1)]) (by kernel_rfl) ?_
  refine p_bsl (enc:=eTallyCount) (l:=([(TallyCount.mk 0 0 0 1 1 0 0)]:List TallyCount)) (fun x=>AG (eTallyCount x)) (fun _=>rfl) sc22 in81 eTallyCount_len rfl (by decide) (by decide) zr81_1 S1060 rfl fun A1061 c1062 w1063 S1064=>?_
  try clear S1060
  obtain ⟨h1070,H⟩:=needS H
  refine p_app (enc:=eTallyCount) sc22 in81 rfl eTallyCount_len eTallyCount_one (by decide) S1064 (k:=2) rfl (gr_sl eTallyCount_len (S1064.atX (i:=0) rfl)) h1070 (by simp) rfl rfl fun A1068 c1069 w1066 S1067=>?_
  try clear S1064
  refine p_fld fl29_0 rfl<|p_fld fl24_2 rfl ?_
  refine p_stP (pre:=[I r1025.Tally.Trips,I r1025.Tally.Room]) (old:=[SL A1029 r1025.Tally.Counts.length c1030]) (post:=[I r1025.Fare,SL A1031 r1025.Tickets.length c1032,SL A1033 r1025.Shows.length c1034,SL A1035 r1025.Boxes.length c1036]) (vs:=[SL A1068 (r1025.Tally.Counts++([(TallyCount.mk 0 0 0 1 1 0 0)]:List TallyCount)).length c1069]) sz22 S1067 (i:=1) rfl rfl rfl rfl (rfl:_=SL A1068 (r1025.Tally.Counts++([(TallyCount.mk 0 0 0 1 1 0 0)]:List TallyCount)).length c1069) rfl rfl rfl rfl fun w1071 S1072=>?_
  try clear S1067
  refine wp_nil<|c_seq<|reg<|p_ldA ty29 sz29 (S1072.atX (i:=1) rfl) rfl rfl ?_
  have S1073:St w nF w1071 [gr eTallyCount 7 81 A1061 c1062 ([(TallyCount.mk 0 0 0 1 1 0 0)]:List TallyCount),bl b1056 [I r1025.Tally.Trips,I r1025.Tally.Room,SL A1068 (r1025.Tally.Counts++([(TallyCount.mk 0 0 0 1 1 0 0)]:List TallyCount)).length c1069,I r1025.Fare,SL A1031 r1025.Tickets.length c1032,SL A1033 r1025.Shows.length c1034,SL A1035 r1025.Boxes.length c1036] 29,gr eTallyCount 7 81 A1068 c1069 (r1025.Tally.Counts++([(TallyCount.mk 0 0 0 1 1 0 0)]:List TallyCount)),gr eTicketSeason 2 65 A1031 c1032 r1025.Tickets,gr eTicketShow 3 67 A1033 c1034 r1025.Shows,gr eTicketBox 4 72 A1035 c1036 r1025.Boxes] [rd intE 1 A949 c950 r945.1,rd intE 1 A833 c834 r829.1,rd intE 1 A792 c793 r788.1,rd eTicketBox 4 none 0 ([]:List TicketBox),rd eTicketShow 3 none 0 ([]:List TicketShow),rd eTicketSeason 2 none 0 ([]:List TicketSeason),rd eTallyCount 7 none 0 ([]:List TallyCount),gW0,gW1,gW2]:=S1072
  try clear S1072
  have S1074:=S1073.fixRd eTallyCount_len (i:=2) rfl
  try clear S1073
  have S1075:=S1074.fixRd eTicketSeason_len (i:=2) rfl
  try clear S1074
  have S1076:=S1075.fixRd eTicketShow_len (i:=2) rfl
  try clear S1075
  have S1077:=S1076.fixRd eTicketBox_len (i:=2) rfl
  try clear S1076
  obtain ⟨r1078,h1079,H⟩:=bindS H
  refine p_cal (ticket_Wrong_ok h1079 (S1077.atP (i:=3) rfl) (S1077.atP (i:=2) rfl) (S1077.atP (i:=1) rfl) (S1077.atP (i:=0) rfl) (S1077.atP (i:=11) rfl) (S1077.atP (i:=13) rfl)) fu17 rfl ?_
  rintro _ w1080 ⟨A1082,c1083,rfl,k1081,⟨o1084,n1085⟩,_⟩
  have S1086:=S1077.callN k1081 [rd intE 1 A1082 c1083 r1078.1] (cA ⟨o1084,Al.inL n1085 ((cA (fp_mem (i:=3) rfl) (cA (fp_mem (i:=2) rfl) (cA (fp_mem (i:=1) rfl) (cA (fp_mem (i:=0) rfl) nM)))))⟩ nM)
  try clear S1077
  refine p_mT rfl<|p_ext rfl rfl<|p_ext rfl rfl<|p_aS rfl<|p_aI rfl<|wp_nil<|c_seq<|c_seq<|reg<|p_mI rfl<|p_cmp rfl rfl rfl<|p_mB rfl ?_
  rcases bE ((r706.2 != 101)) with c1087 | c1087
  ·exact nH (condT c1087 H)
  ·replace H:=condF c1087 H
   refine eB c1087 ?_
   refine gT rfl rfl (p_mI rfl ?_)
   refine gT rfl rfl (p_cmp rfl rfl rfl ?_)
   refine p_pkF rfl (rfl:_=B (r747.2 != 101))<|p_mB rfl ?_
   rcases bE ((r747.2 != 101)) with c1089 | c1089
   ·exact nH (condT c1089 H)
   ·replace H:=condF c1089 H
    refine eB c1089 ?_
    refine gT rfl rfl (p_mI rfl ?_)
    refine gT rfl rfl (p_cmp rfl rfl rfl ?_)
    refine p_pkF rfl (rfl:_=B (r788.2 != 101))<|p_mB rfl ?_
    rcases bE ((r788.2 != 101)) with c1091 | c1091
    ·exact nH (condT c1091 H)
    ·replace H:=condF c1091 H
     refine eB c1091 ?_
     refine gT rfl rfl (p_mI rfl ?_)
     refine gT rfl rfl (p_cmp rfl rfl rfl ?_)
     refine p_pkF rfl (rfl:_=B (r829.2 != 101))<|p_mB rfl ?_
     rcases bE ((r829.2 != 101)) with c1093 | c1093
     ·exact nH (condT c1093 H)
     ·replace H:=condF c1093 H
      refine eB c1093 ?_
      refine gT rfl rfl (p_mI rfl ?_)
      refine gT rfl rfl (p_cmp rfl rfl rfl ?_)
      refine p_pkF rfl (rfl:_=B (r869.2 != 101))<|p_mB rfl ?_
      rcases bE ((r869.2 != 101)) with c1095 | c1095
      ·exact nH (condT c1095 H)
      ·replace H:=condF c1095 H
       refine eB c1095 ?_
       refine gT rfl rfl (p_mI rfl ?_)
       refine gT rfl rfl (p_cmp rfl rfl rfl ?_)
       refine p_pkF rfl (rfl:_=B (r904.2 != 102))<|p_mB rfl ?_
       rcases bE ((r904.2 != 102)) with c1097 | c1097
       ·exact nH (condT c1097 H)
       ·replace H:=condF c1097 H
        refine eB c1097 ?_
        refine gT rfl rfl (p_mI rfl ?_)
        refine gT rfl rfl (p_cmp rfl rfl rfl ?_)
        refine p_pkF rfl (rfl:_=B (r945.2 != 102))<|p_mB rfl ?_
        rcases bE ((r945.2 != 102)) with c1099 | c1099
        ·exact nH (condT c1099 H)
        ·replace H:=condF c1099 H
         refine eB c1099 ?_
         refine gT rfl rfl (p_mI rfl ?_)
         refine gT rfl rfl (p_cmp rfl rfl rfl ?_)
         refine p_pkF rfl (rfl:_=B (r985.2 != 102))<|p_mB rfl ?_
         rcases bE ((r985.2 != 102)) with c1101 | c1101
         ·exact nH (condT c1101 H)
         ·replace H:=condF c1101 H
          refine eB c1101 ?_
          refine gT rfl rfl (p_mI rfl ?_)
          refine gT rfl rfl (p_cmp rfl rfl rfl ?_)
          refine p_pkF rfl (rfl:_=B (r1020.2.2 != 4))<|p_mB rfl ?_
          rcases bE ((r1020.2.2 != 4)) with c1103 | c1103
          ·exact nH (condT c1103 H)
          ·replace H:=condF c1103 H
           refine eB c1103 ?_
           refine gT rfl rfl (p_mI rfl ?_)
           refine gT rfl rfl (p_cmp rfl rfl rfl ?_)
           refine p_pkF rfl (rfl:_=B (r1078.2 != 102))<|wp_nil ?_
           have S1105:St w nF w1080 [] [rd intE 1 A1082 c1083 r1078.1,rd eTicketBox 4 none 0 ([]:List TicketBox),rd eTicketShow 3 none 0 ([]:List TicketShow),rd eTicketSeason 2 none 0 ([]:List TicketSeason),rd eTallyCount 7 none 0 ([]:List TallyCount),gW0,gW1,gW2]:=S1086.pk [] (by decide) [0,8,9,10,11,12,13,14] rfl rfl
           try clear S1086
           refine c_cond rfl (fun c1106=>?_) (fun c1106=>?_)
           ·exact nH (condT c1106 H)
           ·replace H:=condF c1106 H
            refine c_skip ?_
            have S1108:St w nF w1080 [] [rd eTicketBox 4 none 0 ([]:List TicketBox),rd eTicketShow 3 none 0 ([]:List TicketShow),rd eTicketSeason 2 none 0 ([]:List TicketSeason),rd eTallyCount 7 none 0 ([]:List TallyCount),gW0,gW1,gW2]:=S1105.pk [] (by decide) [1,2,3,4,5,6,7] rfl rfl
            try clear S1105
            refine c_seq<|reg ?_
            obtain ⟨r1109,h1110,H⟩:=bindS H
            refine p_cal (law_own_ok h1110) fu39 rfl ?_
            rintro _ w1111 ⟨A1113,c1114,A1115,c1116,A1117,c1118,A1119,c1120,rfl,k1112,⟨o1121,n1122⟩,⟨o1123,n1124⟩,⟨o1125,n1126⟩,⟨o1127,n1128⟩,j1129,j1130,j1131,j1132,j1133,j1134,_⟩
            have S1139:=S1108.callMo k1112 [gr eTallyCount 7 81 A1113 c1114 r1109.Tally.Counts,gr eTicketSeason 2 65 A1115 c1116 r1109.Tickets,gr eTicketShow 3 67 A1117 c1118 r1109.Shows,gr eTicketBox 4 72 A1119 c1120 r1109.Boxes] [] (cA ⟨o1121,n1122⟩ (cA ⟨o1123,n1124⟩ (cA ⟨o1125,n1126⟩ (cA ⟨o1127,n1128⟩ nM)))) (pC (cA j1129 (cA j1130 (cA j1131 nM))) (pC (cA j1132 (cA j1133 nM)) (pC (cA j1134 nM) (pC nM List.Pairwise.nil)))) nM (cA nM (cA nM (cA nM (cA nM nM))))
            try clear S1108
            obtain ⟨r1140,h1141,H⟩:=bindS H
            refine p_cv (ticket_Paid_ok h1141 (gr_rd eTallyCount_len (S1139.atX (i:=0) rfl)) (gr_rd eTicketSeason_len (S1139.atX (i:=1) rfl)) (gr_rd eTicketShow_len (S1139.atX (i:=2) rfl)) (gr_rd eTicketBox_len (S1139.atX (i:=3) rfl)) (S1139.atP (i:=4) rfl) (S1139.atP (i:=6) rfl)) fu22 rfl S1139 fun w1142 S1143=>?_
            try clear S1139
            refine p_mT rfl<|p_ext rfl rfl<|p_ext rfl rfl<|p_allA in49 S1143 fun b1144 w1145 S1146=>?_
            try clear S1143
            refine p_stP (pre:=[]) (old:=[I 0,I 0]) (post:=[]) (vs:=[I r1140.1.Low,I r1140.1.High]) sz49 S1146 (i:=0) rfl rfl rfl rfl (rfl:_=AG [I r1140.1.Low,I r1140.1.High]) rfl rfl rfl rfl fun w1147 S1148=>?_
            try clear S1146
            refine p_aI rfl<|wp_nil ?_
            have S1149:St w nF w1147 [bl b1144 [I r1140.1.Low,I r1140.1.High] 49] [rd eTicketBox 4 none 0 ([]:List TicketBox),rd eTicketShow 3 none 0 ([]:List TicketShow),rd eTicketSeason 2 none 0 ([]:List TicketSeason),rd eTallyCount 7 none 0 ([]:List TallyCount),gW0,gW1,gW2]:=S1148.pk [0] (by decide) [0,1,2,3,4,5,6] rfl rfl
            try clear S1148
            refine c_seq<|reg ?_
            obtain ⟨r1150,h1151,H⟩:=bindS H
            refine p_cal (law_own_ok h1151) fu39 rfl ?_
            rintro _ w1152 ⟨A1154,c1155,A1156,c1157,A1158,c1159,A1160,c1161,rfl,k1153,⟨o1162,n1163⟩,⟨o1164,n1165⟩,⟨o1166,n1167⟩,⟨o1168,n1169⟩,j1170,j1171,j1172,j1173,j1174,j1175,_⟩
            have S1180:=S1149.callMo k1153 [gr eTallyCount 7 81 A1154 c1155 r1150.Tally.Counts,gr eTicketSeason 2 65 A1156 c1157 r1150.Tickets,gr eTicketShow 3 67 A1158 c1159 r1150.Shows,gr eTicketBox 4 72 A1160 c1161 r1150.Boxes] [] (cA ⟨o1162,n1163⟩ (cA ⟨o1164,n1165⟩ (cA ⟨o1166,n1167⟩ (cA ⟨o1168,n1169⟩ nM)))) (pC (cA j1170 (cA j1171 (cA j1172 nM))) (pC (cA j1173 (cA j1174 nM)) (pC (cA j1175 nM) (pC nM List.Pairwise.nil)))) nM (cA nM (cA nM (cA nM (cA nM nM))))
            try clear S1149
            obtain ⟨r1181,h1182,H⟩:=bindS H
            refine p_cv (ticket_Paid_ok h1182 (gr_rd eTallyCount_len (S1180.atX (i:=0) rfl)) (gr_rd eTicketSeason_len (S1180.atX (i:=1) rfl)) (gr_rd eTicketShow_len (S1180.atX (i:=2) rfl)) (gr_rd eTicketBox_len (S1180.atX (i:=3) rfl)) (S1180.atP (i:=4) rfl) (S1180.atP (i:=6) rfl)) fu22 rfl S1180 fun w1183 S1184=>?_
            try clear S1180
            refine p_mT rfl<|p_ext rfl rfl<|p_ext rfl rfl<|p_allA in49 S1184 fun b1185 w1186 S1187=>?_
            try clear S1184
            refine p_stP (pre:=[]) (old:=[I 0,I 0]) (post:=[]) (vs:=[I r1181.1.Low,I r1181.1.High]) sz49 S1187 (i:=0) rfl rfl rfl rfl (rfl:_=AG [I r1181.1.Low,I r1181.1.High]) rfl rfl rfl rfl fun w1188 S1189=>?_
            try clear S1187
            refine p_aI rfl<|wp_nil<|c_seq<|reg ?_
            obtain ⟨r1190,h1191,H⟩:=bindS H
            refine p_cal (law_own_ok h1191) fu39 rfl ?_
            rintro _ w1192 ⟨A1194,c1195,A1196,c1197,A1198,c1199,A1200,c1201,rfl,k1193,⟨o1202,n1203⟩,⟨o1204,n1205⟩,⟨o1206,n1207⟩,⟨o1208,n1209⟩,j1210,j1211,j1212,j1213,j1214,j1215,_⟩
            have S1220:=S1189.callMo k1193 [gr eTallyCount 7 81 A1194 c1195 r1190.Tally.Counts,gr eTicketSeason 2 65 A1196 c1197 r1190.Tickets,gr eTicketShow 3 67 A1198 c1199 r1190.Shows,gr eTicketBox 4 72 A1200 c1201 r1190.Boxes] [] (cA ⟨o1202,n1203⟩ (cA ⟨o1204,n1205⟩ (cA ⟨o1206,n1207⟩ (cA ⟨o1208,n1209⟩ nM)))) (pC (cA j1210 (cA j1211 (cA j1212 nM))) (pC (cA j1213 (cA j1214 nM)) (pC (cA j1215 nM) (pC nM List.Pairwise.nil)))) nM (cA nM (cA nM (cA nM (cA nM nM))))
            try clear S1189
            obtain ⟨r1221,h1222,H⟩:=bindS H
            refine p_cv (ticket_Saved_ok h1222 (gr_rd eTallyCount_len (S1220.atX (i:=0) rfl)) (gr_rd eTicketSeason_len (S1220.atX (i:=1) rfl)) (gr_rd eTicketShow_len (S1220.atX (i:=2) rfl)) (gr_rd eTicketBox_len (S1220.atX (i:=3) rfl)) (S1220.atP (i:=4) rfl) (S1220.atP (i:=6) rfl)) fu29 rfl S1220 fun w1223 S1224=>?_
            try clear S1220
            refine p_mT rfl<|p_ext rfl rfl<|p_ext rfl rfl<|p_allA in49 S1224 fun b1225 w1226 S1227=>?_
            try clear S1224
            refine p_stP (pre:=[]) (old:=[I 0,I 0]) (post:=[]) (vs:=[I r1221.1.Low,I r1221.1.High]) sz49 S1227 (i:=0) rfl rfl rfl rfl (rfl:_=AG [I r1221.1.Low,I r1221.1.High]) rfl rfl rfl rfl fun w1228 S1229=>?_
            try clear S1227
            refine p_aI rfl<|wp_nil<|c_seq<|reg ?_
            obtain ⟨r1230,h1231,H⟩:=bindS H
            refine p_cal (law_own_ok h1231) fu39 rfl ?_
            rintro _ w1232 ⟨A1234,c1235,A1236,c1237,A1238,c1239,A1240,c1241,rfl,k1233,⟨o1242,n1243⟩,⟨o1244,n1245⟩,⟨o1246,n1247⟩,⟨o1248,n1249⟩,j1250,j1251,j1252,j1253,j1254,j1255,_⟩
            have S1260:=S1229.callMo k1233 [gr eTallyCount 7 81 A1234 c1235 r1230.Tally.Counts,gr eTicketSeason 2 65 A1236 c1237 r1230.Tickets,gr eTicketShow 3 67 A1238 c1239 r1230.Shows,gr eTicketBox 4 72 A1240 c1241 r1230.Boxes] [] (cA ⟨o1242,n1243⟩ (cA ⟨o1244,n1245⟩ (cA ⟨o1246,n1247⟩ (cA ⟨o1248,n1249⟩ nM)))) (pC (cA j1250 (cA j1251 (cA j1252 nM))) (pC (cA j1253 (cA j1254 nM)) (pC (cA j1255 nM) (pC nM List.Pairwise.nil)))) nM (cA nM (cA nM (cA nM (cA nM nM))))
            try clear S1229
            obtain ⟨r1261,h1262,H⟩:=bindS H
            refine p_cv (ticket_Saved_ok h1262 (gr_rd eTallyCount_len (S1260.atX (i:=0) rfl)) (gr_rd eTicketSeason_len (S1260.atX (i:=1) rfl)) (gr_rd eTicketShow_len (S1260.atX (i:=2) rfl)) (gr_rd eTicketBox_len (S1260.atX (i:=3) rfl)) (S1260.atP (i:=4) rfl) (S1260.atP (i:=6) rfl)) fu29 rfl S1260 fun w1263 S1264=>?_
            try clear S1260
            refine p_mT rfl<|p_ext rfl rfl<|p_ext rfl rfl<|p_allA in49 S1264 fun b1265 w1266 S1267=>?_
            try clear S1264
            refine p_stP (pre:=[]) (old:=[I 0,I 0]) (post:=[]) (vs:=[I r1261.1.Low,I r1261.1.High]) sz49 S1267 (i:=0) rfl rfl rfl rfl (rfl:_=AG [I r1261.1.Low,I r1261.1.High]) rfl rfl rfl rfl fun w1268 S1269=>?_
            try clear S1267
            refine p_aI rfl<|wp_nil ?_
            have S1270:St w nF w1268 [bl b1265 [I r1261.1.Low,I r1261.1.High] 49,bl b1225 [I r1221.1.Low,I r1221.1.High] 49,bl b1185 [I r1181.1.Low,I r1181.1.High] 49,bl b1144 [I r1140.1.Low,I r1140.1.High] 49] [rd eTicketBox 4 none 0 ([]:List TicketBox),rd eTicketShow 3 none 0 ([]:List TicketShow),rd eTicketSeason 2 none 0 ([]:List TicketSeason),rd eTallyCount 7 none 0 ([]:List TallyCount),gW0,gW1,gW2]:=S1269.pk [0,5,10,15] (by decide) [0,1,2,3,4,5,6] rfl rfl
            try clear S1269
            refine c_seq<|reg ?_
            obtain ⟨r1271,h1272,H⟩:=bindS H
            refine p_cal (law_own_ok h1272) fu39 rfl ?_
            rintro _ w1273 ⟨A1275,c1276,A1277,c1278,A1279,c1280,A1281,c1282,rfl,k1274,⟨o1283,n1284⟩,⟨o1285,n1286⟩,⟨o1287,n1288⟩,⟨o1289,n1290⟩,j1291,j1292,j1293,j1294,j1295,j1296,_⟩
            have S1301:=S1270.callMo k1274 [gr eTallyCount 7 81 A1275 c1276 r1271.Tally.Counts,gr eTicketSeason 2 65 A1277 c1278 r1271.Tickets,gr eTicketShow 3 67 A1279 c1280 r1271.Shows,gr eTicketBox 4 72 A1281 c1282 r1271.Boxes] [] (cA ⟨o1283,n1284⟩ (cA ⟨o1285,n1286⟩ (cA ⟨o1287,n1288⟩ (cA ⟨o1289,n1290⟩ nM)))) (pC (cA j1291 (cA j1292 (cA j1293 nM))) (pC (cA j1294 (cA j1295 nM)) (pC (cA j1296 nM) (pC nM List.Pairwise.nil)))) nM (cA nM (cA nM (cA nM (cA nM nM))))
            try clear S1270
            obtain ⟨r1302,h1303,H⟩:=bindS H
            refine p_cal (ticket_May_ok h1303 (gr_rd eTallyCount_len (S1301.atX (i:=0) rfl)) (gr_rd eTicketSeason_len (S1301.atX (i:=1) rfl)) (gr_rd eTicketShow_len (S1301.atX (i:=2) rfl)) (gr_rd eTicketBox_len (S1301.atX (i:=3) rfl)) (S1301.atP (i:=4) rfl) (S1301.atP (i:=5) rfl) (S1301.atP (i:=6) rfl)) fu24 rfl ?_
            rintro _ w1304 ⟨A1306,c1307,rfl,k1305,⟨o1308,n1309⟩,_⟩
            have S1310:=S1301.callN k1305 [rd intE 1 A1306 c1307 r1302.1] (cA ⟨o1308,New.inL n1309⟩ nM)
            try clear S1301
            refine p_mT rfl<|p_ext rfl rfl<|p_ext rfl rfl<|p_aS rfl<|p_aI rfl<|wp_nil<|c_seq<|reg ?_
            obtain ⟨r1311,h1312,H⟩:=bindS H
            refine p_cal (law_own_ok h1312) fu39 rfl ?_
            rintro _ w1313 ⟨A1315,c1316,A1317,c1318,A1319,c1320,A1321,c1322,rfl,k1314,⟨o1323,n1324⟩,⟨o1325,n1326⟩,⟨o1327,n1328⟩,⟨o1329,n1330⟩,j1331,j1332,j1333,j1334,j1335,j1336,_⟩
            have S1341:=S1310.callMo k1314 [gr eTallyCount 7 81 A1315 c1316 r1311.Tally.Counts,gr eTicketSeason 2 65 A1317 c1318 r1311.Tickets,gr eTicketShow 3 67 A1319 c1320 r1311.Shows,gr eTicketBox 4 72 A1321 c1322 r1311.Boxes] [] (cA ⟨o1323,n1324⟩ (cA ⟨o1325,n1326⟩ (cA ⟨o1327,n1328⟩ (cA ⟨o1329,n1330⟩ nM)))) (pC (cA j1331 (cA j1332 (cA j1333 nM))) (pC (cA j1334 (cA j1335 nM)) (pC (cA j1336 nM) (pC nM List.Pairwise.nil)))) nM (cA nM (cA nM (cA nM (cA nM nM))))
            try clear S1310
            obtain ⟨r1342,h1343,H⟩:=bindS H
            refine p_cal (ticket_Must_ok h1343 (gr_rd eTallyCount_len (S1341.atX (i:=0) rfl)) (gr_rd eTicketSeason_len (S1341.atX (i:=1) rfl)) (gr_rd eTicketShow_len (S1341.atX (i:=2) rfl)) (gr_rd eTicketBox_len (S1341.atX (i:=3) rfl)) (S1341.atP (i:=5) rfl) (S1341.atP (i:=6) rfl) (S1341.atP (i:=7) rfl)) fu23 rfl ?_
            rintro _ w1344 ⟨A1346,c1347,rfl,k1345,⟨o1348,n1349⟩,_⟩
            have S1350:=S1341.callN k1345 [rd intE 1 A1346 c1347 r1342.1] (cA ⟨o1348,New.inL n1349⟩ nM)
            try clear S1341
            refine p_mT rfl<|p_ext rfl rfl<|p_ext rfl rfl<|p_aS rfl<|p_aI rfl<|wp_nil<|c_seq<|reg ?_
            obtain ⟨r1351,h1352,H⟩:=bindS H
            refine p_cal (law_own_ok h1352) fu39 rfl ?_
            rintro _ w1353 ⟨A1355,c1356,A1357,c1358,A1359,c1360,A1361,c1362,rfl,k1354,⟨o1363,n1364⟩,⟨o1365,n1366⟩,⟨o1367,n1368⟩,⟨o1369,n1370⟩,j1371,j1372,j1373,j1374,j1375,j1376,_⟩
            have S1381:=S1350.callMo k1354 [gr eTallyCount 7 81 A1355 c1356 r1351.Tally.Counts,gr eTicketSeason 2 65 A1357 c1358 r1351.Tickets,gr eTicketShow 3 67 A1359 c1360 r1351.Shows,gr eTicketBox 4 72 A1361 c1362 r1351.Boxes] [] (cA ⟨o1363,n1364⟩ (cA ⟨o1365,n1366⟩ (cA ⟨o1367,n1368⟩ (cA ⟨o1369,n1370⟩ nM)))) (pC (cA j1371 (cA j1372 (cA j1373 nM))) (pC (cA j1374 (cA j1375 nM)) (pC (cA j1376 nM) (pC nM List.Pairwise.nil)))) nM (cA nM (cA nM (cA nM (cA nM nM))))
            try clear S1350
            refine p_bld (cs:=[I 0,I 1,I 9,I 0]) st72 (rfl:_=[(1,I 1),(2,I 9)]) (by kernel_rfl) ?_
            obtain ⟨r1382,h1383,H⟩:=bindS H
            refine p_cv (ticket_Fits_ok h1383 (gr_rd eTallyCount_len (S1381.atX (i:=0) rfl)) (gr_rd eTicketSeason_len (S1381.atX (i:=1) rfl)) (gr_rd eTicketShow_len (S1381.atX (i:=2) rfl)) (gr_rd eTicketBox_len (S1381.atX (i:=3) rfl)) (S1381.atP (i:=6) rfl) (S1381.atP (i:=8) rfl)) fu35 rfl S1381 fun w1384 S1385=>?_
            try clear S1381
            refine p_mT rfl<|p_ext rfl rfl<|p_ext rfl rfl<|p_aB rfl<|p_aI rfl<|wp_nil<|c_seq<|reg ?_
            obtain ⟨r1386,h1387,H⟩:=bindS H
            refine p_cal (law_own_ok h1387) fu39 rfl ?_
            rintro _ w1388 ⟨A1390,c1391,A1392,c1393,A1394,c1395,A1396,c1397,rfl,k1389,⟨o1398,n1399⟩,⟨o1400,n1401⟩,⟨o1402,n1403⟩,⟨o1404,n1405⟩,j1406,j1407,j1408,j1409,j1410,j1411,_⟩
            have S1416:=S1385.callMo k1389 [gr eTallyCount 7 81 A1390 c1391 r1386.Tally.Counts,gr eTicketSeason 2 65 A1392 c1393 r1386.Tickets,gr eTicketShow 3 67 A1394 c1395 r1386.Shows,gr eTicketBox 4 72 A1396 c1397 r1386.Boxes] [] (cA ⟨o1398,n1399⟩ (cA ⟨o1400,n1401⟩ (cA ⟨o1402,n1403⟩ (cA ⟨o1404,n1405⟩ nM)))) (pC (cA j1406 (cA j1407 (cA j1408 nM))) (pC (cA j1409 (cA j1410 nM)) (pC (cA j1411 nM) (pC nM List.Pairwise.nil)))) nM (cA nM (cA nM (cA nM (cA nM nM))))
            try clear S1385
            refine p_bld (cs:=[I 0,I 1,I 9,I 1]) st72 (rfl:_=[(1,I 1),(2,I 9),(3,I 1)]) (by kernel_rfl) ?_
            obtain ⟨r1417,h1418,H⟩:=bindS H
            refine p_cv (ticket_Fits_ok h1418 (gr_rd eTallyCount_len (S1416.atX (i:=0) rfl)) (gr_rd eTicketSeason_len (S1416.atX (i:=1) rfl)) (gr_rd eTicketShow_len (S1416.atX (i:=2) rfl)) (gr_rd eTicketBox_len (S1416.atX (i:=3) rfl)) (S1416.atP (i:=6) rfl) (S1416.atP (i:=8) rfl)) fu35 rfl S1416 fun w1419 S1420=>?_
            try clear S1416
            refine p_mT rfl<|p_ext rfl rfl<|p_ext rfl rfl<|p_aB rfl<|p_aI rfl<|wp_nil ?_
            have S1421:St w nF w1419 [bl b1265 [I r1261.1.Low,I r1261.1.High] 49,bl b1225 [I r1221.1.Low,I r1221.1.High] 49,bl b1185 [I r1181.1.Low,I r1181.1.High] 49,bl b1144 [I r1140.1.Low,I r1140.1.High] 49] [rd intE 1 A1346 c1347 r1342.1,rd intE 1 A1306 c1307 r1302.1,rd eTicketBox 4 none 0 ([]:List TicketBox),rd eTicketShow 3 none 0 ([]:List TicketShow),rd eTicketSeason 2 none 0 ([]:List TicketSeason),rd eTallyCount 7 none 0 ([]:List TallyCount),gW0,gW1,gW2]:=S1420.pk [16,17,18,19] (by decide) [0,1,2,3,4,5,6,7,8] rfl rfl
            try clear S1420
            refine c_seq<|reg ?_
            obtain ⟨r1422,h1423,H⟩:=bindS H
            refine p_cal (law_double_ok h1423) fu41 rfl ?_
            rintro _ w1424 ⟨A1426,c1427,A1428,c1429,A1430,c1431,A1432,c1433,rfl,k1425,⟨o1434,n1435⟩,⟨o1436,n1437⟩,⟨o1438,n1439⟩,⟨o1440,n1441⟩,j1442,j1443,j1444,j1445,j1446,j1447,_⟩
            have S1452:=S1421.callMo k1425 [gr eTallyCount 7 81 A1426 c1427 r1422.Tally.Counts,gr eTicketSeason 2 65 A1428 c1429 r1422.Tickets,gr eTicketShow 3 67 A1430 c1431 r1422.Shows,gr eTicketBox 4 72 A1432 c1433 r1422.Boxes] [] (cA ⟨o1434,n1435⟩ (cA ⟨o1436,n1437⟩ (cA ⟨o1438,n1439⟩ (cA ⟨o1440,n1441⟩ nM)))) (pC (cA j1442 (cA j1443 (cA j1444 nM))) (pC (cA j1445 (cA j1446 nM)) (pC (cA j1447 nM) (pC nM List.Pairwise.nil)))) nM (cA nM (cA nM (cA nM (cA nM nM))))
            try clear S1421
            have S1453:St w nF w1424 [gr eTallyCount 7 81 A1426 c1427 r1422.Tally.Counts,gr eTicketSeason 2 65 A1428 c1429 r1422.Tickets,gr eTicketShow 3 67 A1430 c1431 r1422.Shows,gr eTicketBox 4 72 A1432 c1433 r1422.Boxes,bl b1265 [I r1261.1.Low,I r1261.1.High] 49,bl b1225 [I r1221.1.Low,I r1221.1.High] 49,bl b1185 [I r1181.1.Low,I r1181.1.High] 49,bl b1144 [I r1140.1.Low,I r1140.1.High] 49] [rd intE 1 A1346 c1347 r1342.1,rd intE 1 A1306 c1307 r1302.1,rd eTicketBox 4 none 0 ([]:List TicketBox),rd eTicketShow 3 none 0 ([]:List TicketShow),rd eTicketSeason 2 none 0 ([]:List TicketSeason),rd eTallyCount 7 none 0 ([]:List TallyCount),gW0,gW1,gW2]:=S1452
            try clear S1452
            have S1454:=S1453.fixRd eTallyCount_len (i:=0) rfl
            try clear S1453
            have S1455:=S1454.fixRd eTicketSeason_len (i:=0) rfl
            try clear S1454
            have S1456:=S1455.fixRd eTicketShow_len (i:=0) rfl
            try clear S1455
            have S1457:=S1456.fixRd eTicketBox_len (i:=0) rfl
            try clear S1456
            obtain ⟨r1458,h1459,H⟩:=bindS H
            refine p_cal (ticket_Wrong_ok h1459 (S1457.atP (i:=3) rfl) (S1457.atP (i:=2) rfl) (S1457.atP (i:=1) rfl) (S1457.atP (i:=0) rfl) (S1457.atP (i:=10) rfl) (S1457.atP (i:=12) rfl)) fu17 rfl ?_
            rintro _ w1460 ⟨A1462,c1463,rfl,k1461,⟨o1464,n1465⟩,_⟩
            have S1466:=S1457.callN k1461 [rd intE 1 A1462 c1463 r1458.1] (cA ⟨o1464,Al.inL n1465 ((cA (fp_mem (i:=3) rfl) (cA (fp_mem (i:=2) rfl) (cA (fp_mem (i:=1) rfl) (cA (fp_mem (i:=0) rfl) nM)))))⟩ nM)
            try clear S1457
            refine p_mT rfl<|p_ext rfl rfl<|p_ext rfl rfl<|p_aS rfl<|p_aI rfl<|wp_nil<|c_seq<|reg ?_
            obtain ⟨r1467,h1468,H⟩:=bindS H
            refine p_cal (law_own_ok h1468) fu39 rfl ?_
            rintro _ w1469 ⟨A1471,c1472,A1473,c1474,A1475,c1476,A1477,c1478,rfl,k1470,⟨o1479,n1480⟩,⟨o1481,n1482⟩,⟨o1483,n1484⟩,⟨o1485,n1486⟩,j1487,j1488,j1489,j1490,j1491,j1492,_⟩
            have S1497:=S1466.callMo k1470 [gr eTallyCount 7 81 A1471 c1472 r1467.Tally.Counts,gr eTicketSeason 2 65 A1473 c1474 r1467.Tickets,gr eTicketShow 3 67 A1475 c1476 r1467.Shows,gr eTicketBox 4 72 A1477 c1478 r1467.Boxes] [] (cA ⟨o1479,n1480⟩ (cA ⟨o1481,n1482⟩ (cA ⟨o1483,n1484⟩ (cA ⟨o1485,n1486⟩ nM)))) (pC (cA j1487 (cA j1488 (cA j1489 nM))) (pC (cA j1490 (cA j1491 nM)) (pC (cA j1492 nM) (pC nM List.Pairwise.nil)))) nM (cA nM (cA nM (cA nM (cA nM nM))))
            try clear S1466
            have S1498:St w nF w1469 [gr eTallyCount 7 81 A1471 c1472 r1467.Tally.Counts,gr eTicketSeason 2 65 A1473 c1474 r1467.Tickets,gr eTicketShow 3 67 A1475 c1476 r1467.Shows,gr eTicketBox 4 72 A1477 c1478 r1467.Boxes,bl b1265 [I r1261.1.Low,I r1261.1.High] 49,bl b1225 [I r1221.1.Low,I r1221.1.High] 49,bl b1185 [I r1181.1.Low,I r1181.1.High] 49,bl b1144 [I r1140.1.Low,I r1140.1.High] 49] [rd intE 1 A1462 c1463 r1458.1,rd eTicketBox 4 A1432 c1433 r1422.Boxes,rd eTicketShow 3 A1430 c1431 r1422.Shows,rd eTicketSeason 2 A1428 c1429 r1422.Tickets,rd eTallyCount 7 A1426 c1427 r1422.Tally.Counts,rd intE 1 A1346 c1347 r1342.1,rd intE 1 A1306 c1307 r1302.1,rd eTicketBox 4 none 0 ([]:List TicketBox),rd eTicketShow 3 none 0 ([]:List TicketShow),rd eTicketSeason 2 none 0 ([]:List TicketSeason),rd eTallyCount 7 none 0 ([]:List TallyCount),gW0,gW1,gW2]:=S1497
            try clear S1497
            have S1499:=S1498.fixRd eTallyCount_len (i:=0) rfl
            try clear S1498
            have S1500:=S1499.fixRd eTicketSeason_len (i:=0) rfl
            try clear S1499
            have S1501:=S1500.fixRd eTicketShow_len (i:=0) rfl
            try clear S1500
            have S1502:=S1501.fixRd eTicketBox_len (i:=0) rfl
            try clear S1501
            obtain ⟨r1503,h1504,H⟩:=bindS H
            refine p_cal (ticket_Wrong_ok h1504 (S1502.atP (i:=3) rfl) (S1502.atP (i:=2) rfl) (S1502.atP (i:=1) rfl) (S1502.atP (i:=0) rfl) (S1502.atP (i:=15) rfl) (S1502.atP (i:=17) rfl)) fu17 rfl ?_
            rintro _ w1505 ⟨A1507,c1508,rfl,k1506,⟨o1509,n1510⟩,_⟩
            have S1511:=S1502.callN k1506 [rd intE 1 A1507 c1508 r1503.1] (cA ⟨o1509,Al.inL n1510 ((cA (fp_mem (i:=3) rfl) (cA (fp_mem (i:=2) rfl) (cA (fp_mem (i:=1) rfl) (cA (fp_mem (i:=0) rfl) nM)))))⟩ nM)
            try clear S1502
            refine p_mT rfl<|p_ext rfl rfl<|p_ext rfl rfl<|p_aS rfl<|p_aI rfl<|wp_nil<|c_seq<|reg ?_
            obtain ⟨r1512,h1513,H⟩:=bindS H
            refine p_cal (law_double_ok h1513) fu41 rfl ?_
            rintro _ w1514 ⟨A1516,c1517,A1518,c1519,A1520,c1521,A1522,c1523,rfl,k1515,⟨o1524,n1525⟩,⟨o1526,n1527⟩,⟨o1528,n1529⟩,⟨o1530,n1531⟩,j1532,j1533,j1534,j1535,j1536,j1537,_⟩
            have S1542:=S1511.callMo k1515 [gr eTallyCount 7 81 A1516 c1517 r1512.Tally.Counts,gr eTicketSeason 2 65 A1518 c1519 r1512.Tickets,gr eTicketShow 3 67 A1520 c1521 r1512.Shows,gr eTicketBox 4 72 A1522 c1523 r1512.Boxes] [] (cA ⟨o1524,n1525⟩ (cA ⟨o1526,n1527⟩ (cA ⟨o1528,n1529⟩ (cA ⟨o1530,n1531⟩ nM)))) (pC (cA j1532 (cA j1533 (cA j1534 nM))) (pC (cA j1535 (cA j1536 nM)) (pC (cA j1537 nM) (pC nM List.Pairwise.nil)))) nM (cA nM (cA nM (cA nM (cA nM nM))))
            try clear S1511
            obtain ⟨r1543,h1544,H⟩:=bindS H
            refine p_cv (ticket_Right_ok h1544 (gr_rd eTallyCount_len (S1542.atX (i:=0) rfl)) (gr_rd eTicketSeason_len (S1542.atX (i:=1) rfl)) (gr_rd eTicketShow_len (S1542.atX (i:=2) rfl)) (gr_rd eTicketBox_len (S1542.atX (i:=3) rfl)) (S1542.atP (i:=16) rfl) (S1542.atP (i:=18) rfl)) fu16 rfl S1542 fun w1545 S1546=>?_
            try clear S1542
            refine p_mT rfl<|p_ext rfl rfl<|p_ext rfl rfl<|p_aB rfl<|p_aI rfl<|wp_nil<|c_seq ?_
            rcases bE ((r1140.2==0)) with c1549 | c1549
            ·replace H:=condT c1549 H
             obtain ⟨r1552,h1553,H⟩:=bindS H
             rcases bE (((r1140.1.Low==r1552.Low)&&(r1140.1.High==r1552.High))) with c1562 | c1562
             ·replace H:=condT c1562 H
              rcases bE ((r1181.2==0)) with c1569 | c1569
              ·replace H:=condT c1569 H
               obtain ⟨r1572,h1573,H⟩:=bindS H
               rcases bE (((r1181.1.Low==r1572.Low)&&(r1181.1.High==r1572.High))) with c1582 | c1582
               ·replace H:=condT c1582 H
                rcases bE ((r1221.2==0)) with c1589 | c1589
                ·replace H:=condT c1589 H
                 obtain ⟨r1592,h1593,H⟩:=bindS H
                 rcases bE (((r1221.1.Low==r1592.Low)&&(r1221.1.High==r1592.High))) with c1602 | c1602
                 ·replace H:=condT c1602 H
                  rcases bE ((r1261.2==0)) with c1609 | c1609
                  ·replace H:=condT c1609 H
                   obtain ⟨r1612,h1613,H⟩:=bindS H
                   rcases bE (((r1261.1.Low==r1612.Low)&&(r1261.1.High==r1612.High))) with c1622 | c1622
                   ·replace H:=condT c1622 H
                    rcases bE ((r1302.2==0)) with c1629 | c1629
                    ·replace H:=condT c1629 H
                     obtain ⟨r1642,h1643,H⟩:=bindS H
                     rcases bE (r1642) with c1649 | c1649
                     ·replace H:=condT c1649 H
                      rcases bE ((r1342.2==0)) with c1656 | c1656
                      ·replace H:=condT c1656 H
                       obtain ⟨r1669,h1670,H⟩:=bindS H
                       rcases bE (r1669) with c1676 | c1676
                       ·replace H:=condT c1676 H
                        rcases bE ((r1382.2==0)) with c1683 | c1683
                        ·replace H:=condT c1683 H
                         rcases bE (!r1382.1) with c1690 | c1690
                         ·replace H:=condT c1690 H
                          rcases bE ((r1417.2==0)) with c1697 | c1697
                          ·replace H:=condT c1697 H
                           rcases bE (r1417.1) with c1702 | c1702
                           ·replace H:=condT c1702 H
                            rcases bE ((r1458.2==0)) with c1709 | c1709
                            ·replace H:=condT c1709 H
                             obtain ⟨r1722,h1723,H⟩:=bindS H
                             rcases bE (r1722) with c1729 | c1729
                             ·replace H:=condT c1729 H
                              rcases bE ((r1503.2==0)) with c1736 | c1736
                              ·replace H:=condT c1736 H
                               rcases bE (((r1503.1.length:Int)==0)) with c1745 | c1745
                               ·replace H:=condT c1745 H
                                rcases bE ((r1543.2==0)) with c1752 | c1752
                                ·replace H:=condT c1752 H
                                 rcases bE (!r1543.1) with c1759 | c1759
                                 ·replace H:=condT c1759 H
                                  obtain ⟨r1763,h1764,H⟩:=bindS H
                                  have A_:∀ {w_:World},Keep0 w1545 w_→St w_ nF w_ [] [gr eTallyCount 7 81 A1516 c1517 r1512.Tally.Counts,gr eTicketSeason 2 65 A1518 c1519 r1512.Tickets,gr eTicketShow 3 67 A1520 c1521 r1512.Shows,gr eTicketBox 4 72 A1522 c1523 r1512.Boxes,bl b1265 [I r1261.1.Low,I r1261.1.High] 49,bl b1225 [I r1221.1.Low,I r1221.1.High] 49,bl b1185 [I r1181.1.Low,I r1181.1.High] 49,bl b1144 [I r1140.1.Low,I r1140.1.High] 49,rd intE 1 A1507 c1508 r1503.1,rd eTicketBox 4 A1477 c1478 r1467.Boxes,rd eTicketShow 3 A1475 c1476 r1467.Shows,rd eTicketSeason 2 A1473 c1474 r1467.Tickets,rd eTallyCount 7 A1471 c1472 r1467.Tally.Counts,rd intE 1 A1462 c1463 r1458.1,rd eTicketBox 4 A1432 c1433 r1422.Boxes,rd eTicketShow 3 A1430 c1431 r1422.Shows,rd eTicketSeason 2 A1428 c1429 r1422.Tickets,rd eTallyCount 7 A1426 c1427 r1422.Tally.Counts,rd intE 1 A1346 c1347 r1342.1,rd intE 1 A1306 c1307 r1302.1,rd eTicketBox 4 none 0 ([]:List TicketBox),rd eTicketShow 3 none 0 ([]:List TicketShow),rd eTicketSeason 2 none 0 ([]:List TicketSeason),rd eTallyCount 7 none 0 ([]:List TallyCount),gW0,gW1,gW2]:=fun k_=>S1546.asP k_
                                  refine reg_any mixed 99 (by kernel_rfl) [rv (I r1140.2),rv (B (r1140.2==0)),rv (B true),rv (AG [I r1140.1.Low,I r1140.1.High]),rv (AG [I r1552.Low,I r1552.High]),rv (B ((r1140.1.Low==r1552.Low)&&(r1140.1.High==r1552.High))),rv (B ((r1140.1.Low==r1552.Low)&&(r1140.1.High==r1552.High))),rv (B true),rv (I r1181.2),rv (B (r1181.2==0)),rv (B (r1181.2==0)),rv (B true),rv (AG [I r1181.1.Low,I r1181.1.High]),rv (AG [I r1572.Low,I r1572.High]),rv (B ((r1181.1.Low==r1572.Low)&&(r1181.1.High==r1572.High))),rv (B ((r1181.1.Low==r1572.Low)&&(r1181.1.High==r1572.High))),rv (B true),rv (I r1221.2),rv (B (r1221.2==0)),rv (B (r1221.2==0)),rv (B true),rv (AG [I r1221.1.Low,I r1221.1.High]),rv (AG [I r1592.Low,I r1592.High]),rv (B ((r1221.1.Low==r1592.Low)&&(r1221.1.High==r1592.High))),rv (B ((r1221.1.Low==r1592.Low)&&(r1221.1.High==r1592.High))),rv (B true),rv (I r1261.2),rv (B (r1261.2==0)),rv (B (r1261.2==0)),rv (B true),rv (AG [I r1261.1.Low,I r1261.1.High]),rv (AG [I r1612.Low,I r1612.High]),rv (B ((r1261.1.Low==r1612.Low)&&(r1261.1.High==r1612.High))),rv (B ((r1261.1.Low==r1612.Low)&&(r1261.1.High==r1612.High))),rv (B true),rv (I r1302.2),rv (B (r1302.2==0)),rv (B (r1302.2==0)),rv (B true),rv (SL A1306 r1302.1.length c1307),rx (α:=(Option Addr)×Nat) (fun ⟨A1632,c1633⟩=>SL A1632 [0,1].length c1633) (fun ⟨A1632,c1633⟩ lo hi=>BtwL lo hi [] (gr intE 1 3 A1632 c1633 [0,1])∧True) (fun ⟨A1632,c1633⟩=>[gr intE 1 3 A1632 c1633 [0,1]]),rv (B r1642),rv (B r1642),rv (B true),rv (I r1342.2),rv (B (r1342.2==0)),rv (B (r1342.2==0)),rv (B true),rv (SL A1346 r1342.1.length c1347),rx (α:=(Option Addr)×Nat) (fun ⟨A1659,c1660⟩=>SL A1659 ([0]:List Int).length c1660) (fun ⟨A1659,c1660⟩ lo hi=>BtwL lo hi [] (gr intE 1 3 A1659 c1660 ([0]:List Int))∧True) (fun ⟨A1659,c1660⟩=>[gr intE 1 3 A1659 c1660 ([0]:List Int)]),rv (B r1669),rv (B r1669),rv (B true),rv (I r1382.2),rv (B (r1382.2==0)),rv (B (r1382.2==0)),rv (B true),rv (B r1382.1),rv (B (!r1382.1)),rv (B (!r1382.1)),rv (B true),rv (I r1417.2),rv (B (r1417.2==0)),rv (B (r1417.2==0)),rv (B true),rv (B r1417.1),rv (B r1417.1),rv (B true),rv (I r1458.2),rv (B (r1458.2==0)),rv (B (r1458.2==0)),rv (B true),rv (SL A1462 r1458.1.length c1463),rx (α:=(Option Addr)×Nat) (fun ⟨A1712,c1713⟩=>SL A1712 ([0]:List Int).length c1713) (fun ⟨A1712,c1713⟩ lo hi=>BtwL lo hi [] (gr intE 1 3 A1712 c1713 ([0]:List Int))∧True) (fun ⟨A1712,c1713⟩=>[gr intE 1 3 A1712 c1713 ([0]:List Int)]),rv (B r1722),rv (B r1722),rv (B true),rv (I r1503.2),rv (B (r1503.2==0)),rv (B (r1503.2==0)),rv (B true),rv (SL A1507 r1503.1.length c1508),rv (I (r1503.1.length:Int)),rv (B ((r1503.1.length:Int)==0)),rv (B ((r1503.1.length:Int)==0)),rv (B true),rv (I r1543.2),rv (B (r1543.2==0)),rv (B (r1543.2==0)),rv (B true),rv (B r1543.1),rv (B (!r1543.1)),rv (B (!r1543.1)),rv (B true),rv (B true),rv (B true),rv (B r1763),rv (B r1763),rv (B r1763)] [[],[],[],[],[],[],[],[],[],[],[],[],[],[],[],[],[],[],[],[],[],[],[],[],[],[],[],[],[],[],[],[],[],[],[],[],[],[],[],[],[],[],[],[],[],[],[],[],[],[],[],[],[],[],[],[],[],[],[],[],[],[],[],[],[],[],[],[],[],[],[],[],[],[],[],[],[],[],[],[],[],[],[],[],[],[],[],[],[],[],[],[],[],[],[],[],[],[],[]] rfl (by kernel_rfl) [[],[0],[0,1],[0,1,2],[0,1,2],[0,1,2,3,4],[0,1,2,3,4,5],[0,1,2,3,4,5,6],[0,1,2,3,4,5,6,7],[0,1,2,3,4,5,6,7,8],[0,1,2,3,4,5,6,7,8,9],[0,1,2,3,4,5,6,7,8,9,10],[0,1,2,3,4,5,6,7,8,9,10,11],[0,1,2,3,4,5,6,7,8,9,10,11],[0,1,2,3,4,5,6,7,8,9,10,11,12,13],[0,1,2,3,4,5,6,7,8,9,10,11,12,13,14],[0,1,2,3,4,5,6,7,8,9,10,11,12,13,14,15],[0,1,2,3,4,5,6,7,8,9,10,11,12,13,14,15,16],[0,1,2,3,4,5,6,7,8,9,10,11,12,13,14,15,16,17],[0,1,2,3,4,5,6,7,8,9,10,11,12,13,14,15,16,17,18],[0,1,2,3,4,5,6,7,8,9,10,11,12,13,14,15,16,17,18,19],[0,1,2,3,4,5,6,7,8,9,10,11,12,13,14,15,16,17,18,19,20],[0,1,2,3,4,5,6,7,8,9,10,11,12,13,14,15,16,17,18,19,20],[0,1,2,3,4,5,6,7,8,9,10,11,12,13,14,15,16,17,18,19,20,21,22],[0,1,2,3,4,5,6,7,8,9,10,11,12,13,14,15,16,17,18,19,20,21,22,23],[0,1,2,3,4,5,6,7,8,9,10,11,12,13,14,15,16,17,18,19,20,21,22,23,24],[0,1,2,3,4,5,6,7,8,9,10,11,12,13,14,15,16,17,18,19,20,21,22,23,24,25],[0,1,2,3,4,5,6,7,8,9,10,11,12,13,14,15,16,17,18,19,20,21,22,23,24,25,26],[0,1,2,3,4,5,6,7,8,9,10,11,12,13,14,15,16,17,18,19,20,21,22,23,24,25,26,27],[0,1,2,3,4,5,6,7,8,9,10,11,12,13,14,15,16,17,18,19,20,21,22,23,24,25,26,27,28],[0,1,2,3,4,5,6,7,8,9,10,11,12,13,14,15,16,17,18,19,20,21,22,23,24,25,26,27,28,29],[0,1,2,3,4,5,6,7,8,9,10,11,12,13,14,15,16,17,18,19,20,21,22,23,24,25,26,27,28,29],[0,1,2,3,4,5,6,7,8,9,10,11,12,13,14,15,16,17,18,19,20,21,22,23,24,25,26,27,28,29,30,31],[0,1,2,3,4,5,6,7,8,9,10,11,12,13,14,15,16,17,18,19,20,21,22,23,24,25,26,27,28,29,30,31,32],[0,1,2,3,4,5,6,7,8,9,10,11,12,13,14,15,16,17,18,19,20,21,22,23,24,25,26,27,28,29,30,31,32,33],[0,1,2,3,4,5,6,7,8,9,10,11,12,13,14,15,16,17,18,19,20,21,22,23,24,25,26,27,28,29,30,31,32,33,34],[0,1,2,3,4,5,6,7,8,9,10,11,12,13,14,15,16,17,18,19,20,21,22,23,24,25,26,27,28,29,30,31,32,33,34,35],[0,1,2,3,4,5,6,7,8,9,10,11,12,13,14,15,16,17,18,19,20,21,22,23,24,25,26,27,28,29,30,31,32,33,34,35,36],[0,1,2,3,4,5,6,7,8,9,10,11,12,13,14,15,16,17,18,19,20,21,22,23,24,25,26,27,28,29,30,31,32,33,34,35,36,37],[0,1,2,3,4,5,6,7,8,9,10,11,12,13,14,15,16,17,18,19,20,21,22,23,24,25,26,27,28,29,30,31,32,33,34,35,36,37,38],[0,1,2,3,4,5,6,7,8,9,10,11,12,13,14,15,16,17,18,19,20,21,22,23,24,25,26,27,28,29,30,31,32,33,34,35,36,37,38],[0,1,2,3,4,5,6,7,8,9,10,11,12,13,14,15,16,17,18,19,20,21,22,23,24,25,26,27,28,29,30,31,32,33,34,35,36,37,38,39,40],[0,1,2,3,4,5,6,7,8,9,10,11,12,13,14,15,16,17,18,19,20,21,22,23,24,25,26,27,28,29,30,31,32,33,34,35,36,37,38,39,40,41],[0,1,2,3,4,5,6,7,8,9,10,11,12,13,14,15,16,17,18,19,20,21,22,23,24,25,26,27,28,29,30,31,32,33,34,35,36,37,38,39,40,41,42],[0,1,2,3,4,5,6,7,8,9,10,11,12,13,14,15,16,17,18,19,20,21,22,23,24,25,26,27,28,29,30,31,32,33,34,35,36,37,38,39,40,41,42,43],[0,1,2,3,4,5,6,7,8,9,10,11,12,13,14,15,16,17,18,19,20,21,22,23,24,25,26,27,28,29,30,31,32,33,34,35,36,37,38,39,40,41,42,43,44],[0,1,2,3,4,5,6,7,8,9,10,11,12,13,14,15,16,17,18,19,20,21,22,23,24,25,26,27,28,29,30,31,32,33,34,35,36,37,38,39,40,41,42,43,44,45],[0,1,2,3,4,5,6,7,8,9,10,11,12,13,14,15,16,17,18,19,20,21,22,23,24,25,26,27,28,29,30,31,32,33,34,35,36,37,38,39,40,41,42,43,44,45,46],[0,1,2,3,4,5,6,7,8,9,10,11,12,13,14,15,16,17,18,19,20,21,22,23,24,25,26,27,28,29,30,31,32,33,34,35,36,37,38,39,40,41,42,43,44,45,46,47],[0,1,2,3,4,5,6,7,8,9,10,11,12,13,14,15,16,17,18,19,20,21,22,23,24,25,26,27,28,29,30,31,32,33,34,35,36,37,38,39,40,41,42,43,44,45,46,47],[0,1,2,3,4,5,6,7,8,9,10,11,12,13,14,15,16,17,18,19,20,21,22,23,24,25,26,27,28,29,30,31,32,33,34,35,36,37,38,39,40,41,42,43,44,45,46,47,48,49],[0,1,2,3,4,5,6,7,8,9,10,11,12,13,14,15,16,17,18,19,20,21,22,23,24,25,26,27,28,29,30,31,32,33,34,35,36,37,38,39,40,41,42,43,44,45,46,47,48,49,50],[0,1,2,3,4,5,6,7,8,9,10,11,12,13,14,15,16,17,18,19,20,21,22,23,24,25,26,27,28,29,30,31,32,33,34,35,36,37,38,39,40,41,42,43,44,45,46,47,48,49,50,51],[0,1,2,3,4,5,6,7,8,9,10,11,12,13,14,15,16,17,18,19,20,21,22,23,24,25,26,27,28,29,30,31,32,33,34,35,36,37,38,39,40,41,42,43,44,45,46,47,48,49,50,51,52],[0,1,2,3,4,5,6,7,8,9,10,11,12,13,14,15,16,17,18,19,20,21,22,23,24,25,26,27,28,29,30,31,32,33,34,35,36,37,38,39,40,41,42,43,44,45,46,47,48,49,50,51,52,53],[0,1,2,3,4,5,6,7,8,9,10,11,12,13,14,15,16,17,18,19,20,21,22,23,24,25,26,27,28,29,30,31,32,33,34,35,36,37,38,39,40,41,42,43,44,45,46,47,48,49,50,51,52,53,54],[0,1,2,3,4,5,6,7,8,9,10,11,12,13,14,15,16,17,18,19,20,21,22,23,24,25,26,27,28,29,30,31,32,33,34,35,36,37,38,39,40,41,42,43,44,45,46,47,48,49,50,51,52,53,54,55],[0,1,2,3,4,5,6,7,8,9,10,11,12,13,14,15,16,17,18,19,20,21,22,23,24,25,26,27,28,29,30,31,32,33,34,35,36,37,38,39,40,41,42,43,44,45,46,47,48,49,50,51,52,53,54,55,56],[0,1,2,3,4,5,6,7,8,9,10,11,12,13,14,15,16,17,18,19,20,21,22,23,24,25,26,27,28,29,30,31,32,33,34,35,36,37,38,39,40,41,42,43,44,45,46,47,48,49,50,51,52,53,54,55,56,57],[0,1,2,3,4,5,6,7,8,9,10,11,12,13,14,15,16,17,18,19,20,21,22,23,24,25,26,27,28,29,30,31,32,33,34,35,36,37,38,39,40,41,42,43,44,45,46,47,48,49,50,51,52,53,54,55,56,57,58],[0,1,2,3,4,5,6,7,8,9,10,11,12,13,14,15,16,17,18,19,20,21,22,23,24,25,26,27,28,29,30,31,32,33,34,35,36,37,38,39,40,41,42,43,44,45,46,47,48,49,50,51,52,53,54,55,56,57,58,59],[0,1,2,3,4,5,6,7,8,9,10,11,12,13,14,15,16,17,18,19,20,21,22,23,24,25,26,27,28,29,30,31,32,33,34,35,36,37,38,39,40,41,42,43,44,45,46,47,48,49,50,51,52,53,54,55,56,57,58,59,60],[0,1,2,3,4,5,6,7,8,9,10,11,12,13,14,15,16,17,18,19,20,21,22,23,24,25,26,27,28,29,30,31,32,33,34,35,36,37,38,39,40,41,42,43,44,45,46,47,48,49,50,51,52,53,54,55,56,57,58,59,60,61],[0,1,2,3,4,5,6,7,8,9,10,11,12,13,14,15,16,17,18,19,20,21,22,23,24,25,26,27,28,29,30,31,32,33,34,35,36,37,38,39,40,41,42,43,44,45,46,47,48,49,50,51,52,53,54,55,56,57,58,59,60,61,62],[0,1,2,3,4,5,6,7,8,9,10,11,12,13,14,15,16,17,18,19,20,21,22,23,24,25,26,27,28,29,30,31,32,33,34,35,36,37,38,39,40,41,42,43,44,45,46,47,48,49,50,51,52,53,54,55,56,57,58,59,60,61,62,63],[0,1,2,3,4,5,6,7,8,9,10,11,12,13,14,15,16,17,18,19,20,21,22,23,24,25,26,27,28,29,30,31,32,33,34,35,36,37,38,39,40,41,42,43,44,45,46,47,48,49,50,51,52,53,54,55,56,57,58,59,60,61,62,63,64],[0,1,2,3,4,5,6,7,8,9,10,11,12,13,14,15,16,17,18,19,20,21,22,23,24,25,26,27,28,29,30,31,32,33,34,35,36,37,38,39,40,41,42,43,44,45,46,47,48,49,50,51,52,53,54,55,56,57,58,59,60,61,62,63,64,65],[0,1,2,3,4,5,6,7,8,9,10,11,12,13,14,15,16,17,18,19,20,21,22,23,24,25,26,27,28,29,30,31,32,33,34,35,36,37,38,39,40,41,42,43,44,45,46,47,48,49,50,51,52,53,54,55,56,57,58,59,60,61,62,63,64,65,66],[0,1,2,3,4,5,6,7,8,9,10,11,12,13,14,15,16,17,18,19,20,21,22,23,24,25,26,27,28,29,30,31,32,33,34,35,36,37,38,39,40,41,42,43,44,45,46,47,48,49,50,51,52,53,54,55,56,57,58,59,60,61,62,63,64,65,66,67],[0,1,2,3,4,5,6,7,8,9,10,11,12,13,14,15,16,17,18,19,20,21,22,23,24,25,26,27,28,29,30,31,32,33,34,35,36,37,38,39,40,41,42,43,44,45,46,47,48,49,50,51,52,53,54,55,56,57,58,59,60,61,62,63,64,65,66,67,68],[0,1,2,3,4,5,6,7,8,9,10,11,12,13,14,15,16,17,18,19,20,21,22,23,24,25,26,27,28,29,30,31,32,33,34,35,36,37,38,39,40,41,42,43,44,45,46,47,48,49,50,51,52,53,54,55,56,57,58,59,60,61,62,63,64,65,66,67,68,69],[0,1,2,3,4,5,6,7,8,9,10,11,12,13,14,15,16,17,18,19,20,21,22,23,24,25,26,27,28,29,30,31,32,33,34,35,36,37,38,39,40,41,42,43,44,45,46,47,48,49,50,51,52,53,54,55,56,57,58,59,60,61,62,63,64,65,66,67,68,69,70],[0,1,2,3,4,5,6,7,8,9,10,11,12,13,14,15,16,17,18,19,20,21,22,23,24,25,26,27,28,29,30,31,32,33,34,35,36,37,38,39,40,41,42,43,44,45,46,47,48,49,50,51,52,53,54,55,56,57,58,59,60,61,62,63,64,65,66,67,68,69,70,71],[0,1,2,3,4,5,6,7,8,9,10,11,12,13,14,15,16,17,18,19,20,21,22,23,24,25,26,27,28,29,30,31,32,33,34,35,36,37,38,39,40,41,42,43,44,45,46,47,48,49,50,51,52,53,54,55,56,57,58,59,60,61,62,63,64,65,66,67,68,69,70,71],[0,1,2,3,4,5,6,7,8,9,10,11,12,13,14,15,16,17,18,19,20,21,22,23,24,25,26,27,28,29,30,31,32,33,34,35,36,37,38,39,40,41,42,43,44,45,46,47,48,49,50,51,52,53,54,55,56,57,58,59,60,61,62,63,64,65,66,67,68,69,70,71,72,73],[0,1,2,3,4,5,6,7,8,9,10,11,12,13,14,15,16,17,18,19,20,21,22,23,24,25,26,27,28,29,30,31,32,33,34,35,36,37,38,39,40,41,42,43,44,45,46,47,48,49,50,51,52,53,54,55,56,57,58,59,60,61,62,63,64,65,66,67,68,69,70,71,72,73,74],[0,1,2,3,4,5,6,7,8,9,10,11,12,13,14,15,16,17,18,19,20,21,22,23,24,25,26,27,28,29,30,31,32,33,34,35,36,37,38,39,40,41,42,43,44,45,46,47,48,49,50,51,52,53,54,55,56,57,58,59,60,61,62,63,64,65,66,67,68,69,70,71,72,73,74,75],[0,1,2,3,4,5,6,7,8,9,10,11,12,13,14,15,16,17,18,19,20,21,22,23,24,25,26,27,28,29,30,31,32,33,34,35,36,37,38,39,40,41,42,43,44,45,46,47,48,49,50,51,52,53,54,55,56,57,58,59,60,61,62,63,64,65,66,67,68,69,70,71,72,73,74,75,76],[0,1,2,3,4,5,6,7,8,9,10,11,12,13,14,15,16,17,18,19,20,21,22,23,24,25,26,27,28,29,30,31,32,33,34,35,36,37,38,39,40,41,42,43,44,45,46,47,48,49,50,51,52,53,54,55,56,57,58,59,60,61,62,63,64,65,66,67,68,69,70,71,72,73,74,75,76,77],[0,1,2,3,4,5,6,7,8,9,10,11,12,13,14,15,16,17,18,19,20,21,22,23,24,25,26,27,28,29,30,31,32,33,34,35,36,37,38,39,40,41,42,43,44,45,46,47,48,49,50,51,52,53,54,55,56,57,58,59,60,61,62,63,64,65,66,67,68,69,70,71,72,73,74,75,76,77,78],[0,1,2,3,4,5,6,7,8,9,10,11,12,13,14,15,16,17,18,19,20,21,22,23,24,25,26,27,28,29,30,31,32,33,34,35,36,37,38,39,40,41,42,43,44,45,46,47,48,49,50,51,52,53,54,55,56,57,58,59,60,61,62,63,64,65,66,67,68,69,70,71,72,73,74,75,76,77,78,79],[0,1,2,3,4,5,6,7,8,9,10,11,12,13,14,15,16,17,18,19,20,21,22,23,24,25,26,27,28,29,30,31,32,33,34,35,36,37,38,39,40,41,42,43,44,45,46,47,48,49,50,51,52,53,54,55,56,57,58,59,60,61,62,63,64,65,66,67,68,69,70,71,72,73,74,75,76,77,78,79,80],[0,1,2,3,4,5,6,7,8,9,10,11,12,13,14,15,16,17,18,19,20,21,22,23,24,25,26,27,28,29,30,31,32,33,34,35,36,37,38,39,40,41,42,43,44,45,46,47,48,49,50,51,52,53,54,55,56,57,58,59,60,61,62,63,64,65,66,67,68,69,70,71,72,73,74,75,76,77,78,79,80,81],[0,1,2,3,4,5,6,7,8,9,10,11,12,13,14,15,16,17,18,19,20,21,22,23,24,25,26,27,28,29,30,31,32,33,34,35,36,37,38,39,40,41,42,43,44,45,46,47,48,49,50,51,52,53,54,55,56,57,58,59,60,61,62,63,64,65,66,67,68,69,70,71,72,73,74,75,76,77,78,79,80,81,82],[0,1,2,3,4,5,6,7,8,9,10,11,12,13,14,15,16,17,18,19,20,21,22,23,24,25,26,27,28,29,30,31,32,33,34,35,36,37,38,39,40,41,42,43,44,45,46,47,48,49,50,51,52,53,54,55,56,57,58,59,60,61,62,63,64,65,66,67,68,69,70,71,72,73,74,75,76,77,78,79,80,81,82,83],[0,1,2,3,4,5,6,7,8,9,10,11,12,13,14,15,16,17,18,19,20,21,22,23,24,25,26,27,28,29,30,31,32,33,34,35,36,37,38,39,40,41,42,43,44,45,46,47,48,49,50,51,52,53,54,55,56,57,58,59,60,61,62,63,64,65,66,67,68,69,70,71,72,73,74,75,76,77,78,79,80,81,82,83,84],[0,1,2,3,4,5,6,7,8,9,10,11,12,13,14,15,16,17,18,19,20,21,22,23,24,25,26,27,28,29,30,31,32,33,34,35,36,37,38,39,40,41,42,43,44,45,46,47,48,49,50,51,52,53,54,55,56,57,58,59,60,61,62,63,64,65,66,67,68,69,70,71,72,73,74,75,76,77,78,79,80,81,82,83,84,85],[0,1,2,3,4,5,6,7,8,9,10,11,12,13,14,15,16,17,18,19,20,21,22,23,24,25,26,27,28,29,30,31,32,33,34,35,36,37,38,39,40,41,42,43,44,45,46,47,48,49,50,51,52,53,54,55,56,57,58,59,60,61,62,63,64,65,66,67,68,69,70,71,72,73,74,75,76,77,78,79,80,81,82,83,84,85,86],[0,1,2,3,4,5,6,7,8,9,10,11,12,13,14,15,16,17,18,19,20,21,22,23,24,25,26,27,28,29,30,31,32,33,34,35,36,37,38,39,40,41,42,43,44,45,46,47,48,49,50,51,52,53,54,55,56,57,58,59,60,61,62,63,64,65,66,67,68,69,70,71,72,73,74,75,76,77,78,79,80,81,82,83,84,85,86,87],[0,1,2,3,4,5,6,7,8,9,10,11,12,13,14,15,16,17,18,19,20,21,22,23,24,25,26,27,28,29,30,31,32,33,34,35,36,37,38,39,40,41,42,43,44,45,46,47,48,49,50,51,52,53,54,55,56,57,58,59,60,61,62,63,64,65,66,67,68,69,70,71,72,73,74,75,76,77,78,79,80,81,82,83,84,85,86,87,88],[0,1,2,3,4,5,6,7,8,9,10,11,12,13,14,15,16,17,18,19,20,21,22,23,24,25,26,27,28,29,30,31,32,33,34,35,36,37,38,39,40,41,42,43,44,45,46,47,48,49,50,51,52,53,54,55,56,57,58,59,60,61,62,63,64,65,66,67,68,69,70,71,72,73,74,75,76,77,78,79,80,81,82,83,84,85,86,87,88,89],[0,1,2,3,4,5,6,7,8,9,10,11,12,13,14,15,16,17,18,19,20,21,22,23,24,25,26,27,28,29,30,31,32,33,34,35,36,37,38,39,40,41,42,43,44,45,46,47,48,49,50,51,52,53,54,55,56,57,58,59,60,61,62,63,64,65,66,67,68,69,70,71,72,73,74,75,76,77,78,79,80,81,82,83,84,85,86,87,88,89,90],[0,1,2,3,4,5,6,7,8,9,10,11,12,13,14,15,16,17,18,19,20,21,22,23,24,25,26,27,28,29,30,31,32,33,34,35,36,37,38,39,40,41,42,43,44,45,46,47,48,49,50,51,52,53,54,55,56,57,58,59,60,61,62,63,64,65,66,67,68,69,70,71,72,73,74,75,76,77,78,79,80,81,82,83,84,85,86,87,88,89,90,91],[0,1,2,3,4,5,6,7,8,9,10,11,12,13,14,15,16,17,18,19,20,21,22,23,24,25,26,27,28,29,30,31,32,33,34,35,36,37,38,39,40,41,42,43,44,45,46,47,48,49,50,51,52,53,54,55,56,57,58,59,60,61,62,63,64,65,66,67,68,69,70,71,72,73,74,75,76,77,78,79,80,81,82,83,84,85,86,87,88,89,90,91,92],[0,1,2,3,4,5,6,7,8,9,10,11,12,13,14,15,16,17,18,19,20,21,22,23,24,25,26,27,28,29,30,31,32,33,34,35,36,37,38,39,40,41,42,43,44,45,46,47,48,49,50,51,52,53,54,55,56,57,58,59,60,61,62,63,64,65,66,67,68,69,70,71,72,73,74,75,76,77,78,79,80,81,82,83,84,85,86,87,88,89,90,91,92,93],[0,1,2,3,4,5,6,7,8,9,10,11,12,13,14,15,16,17,18,19,20,21,22,23,24,25,26,27,28,29,30,31,32,33,34,35,36,37,38,39,40,41,42,43,44,45,46,47,48,49,50,51,52,53,54,55,56,57,58,59,60,61,62,63,64,65,66,67,68,69,70,71,72,73,74,75,76,77,78,79,80,81,82,83,84,85,86,87,88,89,90,91,92,93,94],[0,1,2,3,4,5,6,7,8,9,10,11,12,13,14,15,16,17,18,19,20,21,22,23,24,25,26,27,28,29,30,31,32,33,34,35,36,37,38,39,40,41,42,43,44,45,46,47,48,49,50,51,52,53,54,55,56,57,58,59,60,61,62,63,64,65,66,67,68,69,70,71,72,73,74,75,76,77,78,79,80,81,82,83,84,85,86,87,88,89,90,91,92,93,94,95],[0,1,2,3,4,5,6,7,8,9,10,11,12,13,14,15,16,17,18,19,20,21,22,23,24,25,26,27,28,29,30,31,32,33,34,35,36,37,38,39,40,41,42,43,44,45,46,47,48,49,50,51,52,53,54,55,56,57,58,59,60,61,62,63,64,65,66,67,68,69,70,71,72,73,74,75,76,77,78,79,80,81,82,83,84,85,86,87,88,89,90,91,92,93,94,95,96],[0,1,2,3,4,5,6,7,8,9,10,11,12,13,14,15,16,17,18,19,20,21,22,23,24,25,26,27,28,29,30,31,32,33,34,35,36,37,38,39,40,41,42,43,44,45,46,47,48,49,50,51,52,53,54,55,56,57,58,59,60,61,62,63,64,65,66,67,68,69,70,71,72,73,74,75,76,77,78,79,80,81,82,83,84,85,86,87,88,89,90,91,92,93,94,95,96,97]] (by kernel_rfl) ⟨?_,?_,?_,?_,?_,?_,?_,?_,?_,?_,?_,?_,?_,?_,?_,?_,?_,?_,?_,?_,?_,?_,?_,?_,?_,?_,?_,?_,?_,?_,?_,?_,?_,?_,?_,?_,?_,?_,?_,?_,?_,?_,?_,?_,?_,?_,?_,?_,?_,?_,?_,?_,?_,?_,?_,?_,?_,?_,?_,?_,?_,?_,?_,?_,?_,?_,?_,?_,?_,?_,?_,?_,?_,?_,?_,?_,?_,?_,?_,?_,?_,?_,?_,?_,?_,?_,?_,?_,?_,?_,?_,?_,?_,?_,?_,?_,?_,?_,?_,trivial⟩ ?_
                                  ·intro e_ w_ k_ hf_ hR_
                                   refine hopE [(23,I r1140.2)] ⟨((hf_ 23 rfl).trans (rfl:_=I r1140.2)),trivial⟩ ?_
                                   exact p_mI rfl<|wp_nil ⟨_,rfl,kR,rfl⟩
                                  ·intro e_ w_ k_ hf_ hR_
                                   refine hopE [(409,I r1140.2)] ⟨rQ (hR_ 0 409 rfl (lE rfl) rfl),trivial⟩ ?_
                                   exact p_cmp rfl rfl rfl<|wp_nil ⟨_,rfl,kR,rfl⟩
                                  ·intro e_ w_ k_ hf_ hR_
                                   refine hopE [(410,B (r1140.2==0))] ⟨rQ (hR_ 1 410 rfl (lE rfl) rfl),trivial⟩ ?_
                                   exact p_mB rfl<|wp_nil ⟨_,rfl,kR,congrArg Value.bool c1549⟩
                                  ·intro e_ w_ k_ hf_ hR_
                                   have S_:=@A_ _ k_
                                   refine hopE [(44,P b1144 0),(411,B true)] ⟨((hf_ 44 rfl).trans (rfl:_=P b1144 0)),rQ (hR_ 2 411 rfl (lE rfl) rfl),trivial⟩ ?_
                                   refine gT rfl rfl (p_ldA ty49 sz49 (S_.atP (i:=7) rfl) rfl rfl ?_)
                                   exact wp_nil ⟨_,rfl,S_.keep,rfl⟩
                                  ·intro e_ w_ k_ hf_ hR_
                                   have S_:=@A_ _ k_
                                   refine hopE [(411,B true)] ⟨rQ (hR_ 2 411 rfl (lE rfl) rfl),trivial⟩ ?_
                                   refine gT rfl rfl (p_cv (B_Point_ok h1553) fu30 rfl S_ fun w1554 S1555=>?_)
                                   exact wp_nil ⟨_,rfl,S1555.keep,rfl⟩
                                  ·intro e_ w_ k_ hf_ hR_
                                   refine hopE [(411,B true),(412,AG [I r1140.1.Low,I r1140.1.High]),(413,AG [I r1552.Low,I r1552.High])] ⟨rQ (hR_ 2 411 rfl (lE rfl) rfl),rQ (hR_ 3 412 rfl (lE rfl) rfl),rQ (hR_ 4 413 rfl (lE rfl) rfl),trivial⟩ ?_
                                   refine gT rfl rfl (o_eqA (xs:=[I r1140.1.Low,I r1140.1.High]) (ys:=[I r1552.Low,I r1552.High]) (T:=((r1140.1.Low==r1552.Low)&&(r1140.1.High==r1552.High))) rfl rfl eq49 ⟨⟨_,rfl⟩,⟨⟨_,rfl⟩,trivial⟩⟩ ⟨⟨_,rfl⟩,⟨⟨_,rfl⟩,trivial⟩⟩ (by simp [Bool.and_eq_true,and_assoc]) ?_)
                                   exact wp_nil ⟨_,rfl,kR,rfl⟩
                                  ·intro e_ w_ k_ hf_ hR_
                                   refine hopE [(411,B true),(414,B ((r1140.1.Low==r1552.Low)&&(r1140.1.High==r1552.High)))] ⟨rQ (hR_ 2 411 rfl (lE rfl) rfl),rQ (hR_ 5 414 rfl (lE rfl) rfl),trivial⟩ ?_
                                   exact p_pkT rfl (rfl:_=B ((r1140.1.Low==r1552.Low)&&(r1140.1.High==r1552.High)))<|wp_nil ⟨_,rfl,kR,rfl⟩
                                  ·intro e_ w_ k_ hf_ hR_
                                   refine hopE [(415,B ((r1140.1.Low==r1552.Low)&&(r1140.1.High==r1552.High)))] ⟨rQ (hR_ 6 415 rfl (lE rfl) rfl),trivial⟩ ?_
                                   exact p_mB rfl<|wp_nil ⟨_,rfl,kR,congrArg Value.bool c1562⟩
                                  ·intro e_ w_ k_ hf_ hR_
                                   refine hopE [(25,I r1181.2),(416,B true)] ⟨((hf_ 25 rfl).trans (rfl:_=I r1181.2)),rQ (hR_ 7 416 rfl (lE rfl) rfl),trivial⟩ ?_
                                   refine gT rfl rfl (p_mI rfl ?_)
                                   exact wp_nil ⟨_,rfl,kR,rfl⟩
                                  ·intro e_ w_ k_ hf_ hR_
                                   refine hopE [(416,B true),(417,I r1181.2)] ⟨rQ (hR_ 7 416 rfl (lE rfl) rfl),rQ (hR_ 8 417 rfl (lE rfl) rfl),trivial⟩ ?_
                                   refine gT rfl rfl (p_cmp rfl rfl rfl ?_)
                                   exact wp_nil ⟨_,rfl,kR,rfl⟩
                                  ·intro e_ w_ k_ hf_ hR_
                                   refine hopE [(416,B true),(418,B (r1181.2==0))] ⟨rQ (hR_ 7 416 rfl (lE rfl) rfl),rQ (hR_ 9 418 rfl (lE rfl) rfl),trivial⟩ ?_
                                   exact p_pkT rfl (rfl:_=B (r1181.2==0))<|wp_nil ⟨_,rfl,kR,rfl⟩
                                  ·intro e_ w_ k_ hf_ hR_
                                   refine hopE [(419,B (r1181.2==0))] ⟨rQ (hR_ 10 419 rfl (lE rfl) rfl),trivial⟩ ?_
                                   exact p_mB rfl<|wp_nil ⟨_,rfl,kR,congrArg Value.bool c1569⟩
                                  ·intro e_ w_ k_ hf_ hR_
                                   have S_:=@A_ _ k_
                                   refine hopE [(45,P b1185 0),(420,B true)] ⟨((hf_ 45 rfl).trans (rfl:_=P b1185 0)),rQ (hR_ 11 420 rfl (lE rfl) rfl),trivial⟩ ?_
                                   refine gT rfl rfl (p_ldA ty49 sz49 (S_.atP (i:=6) rfl) rfl rfl ?_)
                                   exact wp_nil ⟨_,rfl,S_.keep,rfl⟩
                                  ·intro e_ w_ k_ hf_ hR_
                                   have S_:=@A_ _ k_
                                   refine hopE [(420,B true)] ⟨rQ (hR_ 11 420 rfl (lE rfl) rfl),trivial⟩ ?_
                                   refine gT rfl rfl (p_cv (B_Range_ok h1573) fu21 rfl S_ fun w1574 S1575=>?_)
                                   exact wp_nil ⟨_,rfl,S1575.keep,rfl⟩
                                  ·intro e_ w_ k_ hf_ hR_
                                   refine hopE [(420,B true),(421,AG [I r1181.1.Low,I r1181.1.High]),(422,AG [I r1572.Low,I r1572.High])] ⟨rQ (hR_ 11 420 rfl (lE rfl) rfl),rQ (hR_ 12 421 rfl (lE rfl) rfl),rQ (hR_ 13 422 rfl (lE rfl) rfl),trivial⟩ ?_
                                   refine gT rfl rfl (o_eqA (xs:=[I r1181.1.Low,I r1181.1.High]) (ys:=[I r1572.Low,I r1572.High]) (T:=((r1181.1.Low==r1572.Low)&&(r1181.1.High==r1572.High))) rfl rfl eq49 ⟨⟨_,rfl⟩,⟨⟨_,rfl⟩,trivial⟩⟩ ⟨⟨_,rfl⟩,⟨⟨_,rfl⟩,trivial⟩⟩ (by simp [Bool.and_eq_true,and_assoc]) ?_)
                                   exact wp_nil ⟨_,rfl,kR,rfl⟩
                                  ·intro e_ w_ k_ hf_ hR_
                                   refine hopE [(420,B true),(423,B ((r1181.1.Low==r1572.Low)&&(r1181.1.High==r1572.High)))] ⟨rQ (hR_ 11 420 rfl (lE rfl) rfl),rQ (hR_ 14 423 rfl (lE rfl) rfl),trivial⟩ ?_
                                   exact p_pkT rfl (rfl:_=B ((r1181.1.Low==r1572.Low)&&(r1181.1.High==r1572.High)))<|wp_nil ⟨_,rfl,kR,rfl⟩
                                  ·intro e_ w_ k_ hf_ hR_
                                   refine hopE [(424,B ((r1181.1.Low==r1572.Low)&&(r1181.1.High==r1572.High)))] ⟨rQ (hR_ 15 424 rfl (lE rfl) rfl),trivial⟩ ?_
                                   exact p_mB rfl<|wp_nil ⟨_,rfl,kR,congrArg Value.bool c1582⟩
                                  ·intro e_ w_ k_ hf_ hR_
                                   refine hopE [(27,I r1221.2),(425,B true)] ⟨((hf_ 27 rfl).trans (rfl:_=I r1221.2)),rQ (hR_ 16 425 rfl (lE rfl) rfl),trivial⟩ ?_
                                   refine gT rfl rfl (p_mI rfl ?_)
                                   exact wp_nil ⟨_,rfl,kR,rfl⟩
                                  ·intro e_ w_ k_ hf_ hR_
                                   refine hopE [(425,B true),(426,I r1221.2)] ⟨rQ (hR_ 16 425 rfl (lE rfl) rfl),rQ (hR_ 17 426 rfl (lE rfl) rfl),trivial⟩ ?_
                                   refine gT rfl rfl (p_cmp rfl rfl rfl ?_)
                                   exact wp_nil ⟨_,rfl,kR,rfl⟩
                                  ·intro e_ w_ k_ hf_ hR_
                                   refine hopE [(425,B true),(427,B (r1221.2==0))] ⟨rQ (hR_ 16 425 rfl (lE rfl) rfl),rQ (hR_ 18 427 rfl (lE rfl) rfl),trivial⟩ ?_
                                   exact p_pkT rfl (rfl:_=B (r1221.2==0))<|wp_nil ⟨_,rfl,kR,rfl⟩
                                  ·intro e_ w_ k_ hf_ hR_
                                   refine hopE [(428,B (r1221.2==0))] ⟨rQ (hR_ 19 428 rfl (lE rfl) rfl),trivial⟩ ?_
                                   exact p_mB rfl<|wp_nil ⟨_,rfl,kR,congrArg Value.bool c1589⟩
                                  ·intro e_ w_ k_ hf_ hR_
                                   have S_:=@A_ _ k_
                                   refine hopE [(46,P b1225 0),(429,B true)] ⟨((hf_ 46 rfl).trans (rfl:_=P b1225 0)),rQ (hR_ 20 429 rfl (lE rfl) rfl),trivial⟩ ?_
                                   refine gT rfl rfl (p_ldA ty49 sz49 (S_.atP (i:=5) rfl) rfl rfl ?_)
                                   exact wp_nil ⟨_,rfl,S_.keep,rfl⟩
                                  ·intro e_ w_ k_ hf_ hR_
                                   have S_:=@A_ _ k_
                                   refine hopE [(429,B true)] ⟨rQ (hR_ 20 429 rfl (lE rfl) rfl),trivial⟩ ?_
                                   refine gT rfl rfl (p_cv (B_Range_ok h1593) fu21 rfl S_ fun w1594 S1595=>?_)
                                   exact wp_nil ⟨_,rfl,S1595.keep,rfl⟩
                                  ·intro e_ w_ k_ hf_ hR_
                                   refine hopE [(429,B true),(430,AG [I r1221.1.Low,I r1221.1.High]),(431,AG [I r1592.Low,I r1592.High])] ⟨rQ (hR_ 20 429 rfl (lE rfl) rfl),rQ (hR_ 21 430 rfl (lE rfl) rfl),rQ (hR_ 22 431 rfl (lE rfl) rfl),trivial⟩ ?_
                                   refine gT rfl rfl (o_eqA (xs:=[I r1221.1.Low,I r1221.1.High]) (ys:=[I r1592.Low,I r1592.High]) (T:=((r1221.1.Low==r1592.Low)&&(r1221.1.High==r1592.High))) rfl rfl eq49 ⟨⟨_,rfl⟩,⟨⟨_,rfl⟩,trivial⟩⟩ ⟨⟨_,rfl⟩,⟨⟨_,rfl⟩,trivial⟩⟩ (by simp [Bool.and_eq_true,and_assoc]) ?_)
                                   exact wp_nil ⟨_,rfl,kR,rfl⟩
                                  ·intro e_ w_ k_ hf_ hR_
                                   refine hopE [(429,B true),(432,B ((r1221.1.Low==r1592.Low)&&(r1221.1.High==r1592.High)))] ⟨rQ (hR_ 20 429 rfl (lE rfl) rfl),rQ (hR_ 23 432 rfl (lE rfl) rfl),trivial⟩ ?_
                                   exact p_pkT rfl (rfl:_=B ((r1221.1.Low==r1592.Low)&&(r1221.1.High==r1592.High)))<|wp_nil ⟨_,rfl,kR,rfl⟩
                                  ·intro e_ w_ k_ hf_ hR_
                                   refine hopE [(433,B ((r1221.1.Low==r1592.Low)&&(r1221.1.High==r1592.High)))] ⟨rQ (hR_ 24 433 rfl (lE rfl) rfl),trivial⟩ ?_
                                   exact p_mB rfl<|wp_nil ⟨_,rfl,kR,congrArg Value.bool c1602⟩
                                  ·intro e_ w_ k_ hf_ hR_
                                   refine hopE [(29,I r1261.2),(434,B true)] ⟨((hf_ 29 rfl).trans (rfl:_=I r1261.2)),rQ (hR_ 25 434 rfl (lE rfl) rfl),trivial⟩ ?_
                                   refine gT rfl rfl (p_mI rfl ?_)
                                   exact wp_nil ⟨_,rfl,kR,rfl⟩
                                  ·intro e_ w_ k_ hf_ hR_
                                   refine hopE [(434,B true),(435,I r1261.2)] ⟨rQ (hR_ 25 434 rfl (lE rfl) rfl),rQ (hR_ 26 435 rfl (lE rfl) rfl),trivial⟩ ?_
                                   refine gT rfl rfl (p_cmp rfl rfl rfl ?_)
                                   exact wp_nil ⟨_,rfl,kR,rfl⟩
                                  ·intro e_ w_ k_ hf_ hR_
                                   refine hopE [(434,B true),(436,B (r1261.2==0))] ⟨rQ (hR_ 25 434 rfl (lE rfl) rfl),rQ (hR_ 27 436 rfl (lE rfl) rfl),trivial⟩ ?_
                                   exact p_pkT rfl (rfl:_=B (r1261.2==0))<|wp_nil ⟨_,rfl,kR,rfl⟩
                                  ·intro e_ w_ k_ hf_ hR_
                                   refine hopE [(437,B (r1261.2==0))] ⟨rQ (hR_ 28 437 rfl (lE rfl) rfl),trivial⟩ ?_
                                   exact p_mB rfl<|wp_nil ⟨_,rfl,kR,congrArg Value.bool c1609⟩
                                  ·intro e_ w_ k_ hf_ hR_
                                   have S_:=@A_ _ k_
                                   refine hopE [(47,P b1265 0),(438,B true)] ⟨((hf_ 47 rfl).trans (rfl:_=P b1265 0)),rQ (hR_ 29 438 rfl (lE rfl) rfl),trivial⟩ ?_
                                   refine gT rfl rfl (p_ldA ty49 sz49 (S_.atP (i:=4) rfl) rfl rfl ?_)
                                   exact wp_nil ⟨_,rfl,S_.keep,rfl⟩
                                  ·intro e_ w_ k_ hf_ hR_
                                   have S_:=@A_ _ k_
                                   refine hopE [(438,B true)] ⟨rQ (hR_ 29 438 rfl (lE rfl) rfl),trivial⟩ ?_
                                   refine gT rfl rfl (p_cv (B_Range_ok h1613) fu21 rfl S_ fun w1614 S1615=>?_)
                                   exact wp_nil ⟨_,rfl,S1615.keep,rfl⟩
                                  ·intro e_ w_ k_ hf_ hR_
                                   refine hopE [(438,B true),(439,AG [I r1261.1.Low,I r1261.1.High]),(440,AG [I r1612.Low,I r1612.High])] ⟨rQ (hR_ 29 438 rfl (lE rfl) rfl),rQ (hR_ 30 439 rfl (lE rfl) rfl),rQ (hR_ 31 440 rfl (lE rfl) rfl),trivial⟩ ?_
                                   refine gT rfl rfl (o_eqA (xs:=[I r1261.1.Low,I r1261.1.High]) (ys:=[I r1612.Low,I r1612.High]) (T:=((r1261.1.Low==r1612.Low)&&(r1261.1.High==r1612.High))) rfl rfl eq49 ⟨⟨_,rfl⟩,⟨⟨_,rfl⟩,trivial⟩⟩ ⟨⟨_,rfl⟩,⟨⟨_,rfl⟩,trivial⟩⟩ (by simp [Bool.and_eq_true,and_assoc]) ?_)
                                   exact wp_nil ⟨_,rfl,kR,rfl⟩
                                  ·intro e_ w_ k_ hf_ hR_
                                   refine hopE [(438,B true),(441,B ((r1261.1.Low==r1612.Low)&&(r1261.1.High==r1612.High)))] ⟨rQ (hR_ 29 438 rfl (lE rfl) rfl),rQ (hR_ 32 441 rfl (lE rfl) rfl),trivial⟩ ?_
                                   exact p_pkT rfl (rfl:_=B ((r1261.1.Low==r1612.Low)&&(r1261.1.High==r1612.High)))<|wp_nil ⟨_,rfl,kR,rfl⟩
                                  ·intro e_ w_ k_ hf_ hR_
                                   refine hopE [(442,B ((r1261.1.Low==r1612.Low)&&(r1261.1.High==r1612.High)))] ⟨rQ (hR_ 33 442 rfl (lE rfl) rfl),trivial⟩ ?_
                                   exact p_mB rfl<|wp_nil ⟨_,rfl,kR,congrArg Value.bool c1622⟩
                                  ·intro e_ w_ k_ hf_ hR_
                                   refine hopE [(31,I r1302.2),(443,B true)] ⟨((hf_ 31 rfl).trans (rfl:_=I r1302.2)),rQ (hR_ 34 443 rfl (lE rfl) rfl),trivial⟩ ?_
                                   refine gT rfl rfl (p_mI rfl ?_)
                                   exact wp_nil ⟨_,rfl,kR,rfl⟩
                                  ·intro e_ w_ k_ hf_ hR_
                                   refine hopE [(443,B true),(444,I r1302.2)] ⟨rQ (hR_ 34 443 rfl (lE rfl) rfl),rQ (hR_ 35 444 rfl (lE rfl) rfl),trivial⟩ ?_
                                   refine gT rfl rfl (p_cmp rfl rfl rfl ?_)
                                   exact wp_nil ⟨_,rfl,kR,rfl⟩
                                  ·intro e_ w_ k_ hf_ hR_
                                   refine hopE [(443,B true),(445,B (r1302.2==0))] ⟨rQ (hR_ 34 443 rfl (lE rfl) rfl),rQ (hR_ 36 445 rfl (lE rfl) rfl),trivial⟩ ?_
                                   exact p_pkT rfl (rfl:_=B (r1302.2==0))<|wp_nil ⟨_,rfl,kR,rfl⟩
                                  ·intro e_ w_ k_ hf_ hR_
                                   refine hopE [(446,B (r1302.2==0))] ⟨rQ (hR_ 37 446 rfl (lE rfl) rfl),trivial⟩ ?_
                                   exact p_mB rfl<|wp_nil ⟨_,rfl,kR,congrArg Value.bool c1629⟩
                                  ·intro e_ w_ k_ hf_ hR_
                                   refine hopE [(48,SL A1306 r1302.1.length c1307),(447,B true)] ⟨((hf_ 48 rfl).trans (rfl:_=SL A1306 r1302.1.length c1307)),rQ (hR_ 38 447 rfl (lE rfl) rfl),trivial⟩ ?_
                                   refine gT rfl rfl (p_mS rfl ?_)
                                   exact wp_nil ⟨_,rfl,kR,rfl⟩
                                  ·intro e_ w_ k_ hf_ hR_
                                   have S_:=@A_ _ k_
                                   refine hopE [(447,B true)] ⟨rQ (hR_ 38 447 rfl (lE rfl) rfl),trivial⟩ ?_
                                   refine gT rfl rfl<|p_bsl (enc:=intE) (l:=[0,1]) I (fun _=>rfl) sc30 in3 intE_len rfl (by decide) (by decide) zr3_2 S_ rfl fun A1632 c1633 w1634 S1635=>wp_nil ?_
                                   exact ⟨_,rfl,S1635.keep,⟨(A1632,c1633),rfl,⟨bL (New.al (S1635.newX (i:=0) rfl)) rfl (S1635.atX (i:=0) rfl) rfl,trivial⟩,(cA (S1635.atX (i:=0) rfl) nM)⟩⟩
                                  ·intro e_ w_ k_ hf_ hR_
                                   have S_:=@A_ _ k_
                                   obtain ⟨_,_,_,_,q1637⟩:=hR_ 38 447 rfl (lE rfl) rfl
                                   obtain ⟨_,_,_,_,q1638⟩:=hR_ 39 448 rfl (lE rfl) rfl
                                   obtain ⟨_,_,_,_,⟨A1632,c1633⟩,q1639,p1640,a1641⟩:=hR_ 40 449 rfl (lE rfl) rfl
                                   replace q1639:e_ 449=SL A1632 [0,1].length c1633:=q1639
                                   have S_:=St.addL' S_ (a1641 _ (.head _)) (fun _ _ _ h_=>(nE h_))
                                   refine hopE [(447,B true),(448,SL A1306 r1302.1.length c1307),(449,SL A1632 [0,1].length c1633)] ⟨q1637,q1638,q1639,trivial⟩ ?_
                                   refine gT rfl rfl (p_cv (B_Alike_ok h1643 (S_.atP (i:=20) rfl) (gr_rd intE_len (S_.atP (i:=0) rfl))) fu43 rfl S_ fun w1644 S1645=>?_)
                                   exact wp_nil ⟨_,rfl,S1645.keep,rfl⟩
                                  ·intro e_ w_ k_ hf_ hR_
                                   refine hopE [(447,B true),(450,B r1642)] ⟨rQ (hR_ 38 447 rfl (lE rfl) rfl),rQ (hR_ 41 450 rfl (lE rfl) rfl),trivial⟩ ?_
                                   exact p_pkT rfl (rfl:_=B r1642)<|wp_nil ⟨_,rfl,kR,rfl⟩
                                  ·intro e_ w_ k_ hf_ hR_
                                   refine hopE [(451,B r1642)] ⟨rQ (hR_ 42 451 rfl (lE rfl) rfl),trivial⟩ ?_
                                   exact p_mB rfl<|wp_nil ⟨_,rfl,kR,congrArg Value.bool c1649⟩
                                  ·intro e_ w_ k_ hf_ hR_
                                   refine hopE [(33,I r1342.2),(452,B true)] ⟨((hf_ 33 rfl).trans (rfl:_=I r1342.2)),rQ (hR_ 43 452 rfl (lE rfl) rfl),trivial⟩ ?_
                                   refine gT rfl rfl (p_mI rfl ?_)
                                   exact wp_nil ⟨_,rfl,kR,rfl⟩
                                  ·intro e_ w_ k_ hf_ hR_
                                   refine hopE [(452,B true),(453,I r1342.2)] ⟨rQ (hR_ 43 452 rfl (lE rfl) rfl),rQ (hR_ 44 453 rfl (lE rfl) rfl),trivial⟩ ?_
                                   refine gT rfl rfl (p_cmp rfl rfl rfl ?_)
                                   exact wp_nil ⟨_,rfl,kR,rfl⟩
                                  ·intro e_ w_ k_ hf_ hR_
                                   refine hopE [(452,B true),(454,B (r1342.2==0))] ⟨rQ (hR_ 43 452 rfl (lE rfl) rfl),rQ (hR_ 45 454 rfl (lE rfl) rfl),trivial⟩ ?_
                                   exact p_pkT rfl (rfl:_=B (r1342.2==0))<|wp_nil ⟨_,rfl,kR,rfl⟩
                                  ·intro e_ w_ k_ hf_ hR_
                                   refine hopE [(455,B (r1342.2==0))] ⟨rQ (hR_ 46 455 rfl (lE rfl) rfl),trivial⟩ ?_
                                   exact p_mB rfl<|wp_nil ⟨_,rfl,kR,congrArg Value.bool c1656⟩
                                  ·intro e_ w_ k_ hf_ hR_
                                   refine hopE [(49,SL A1346 r1342.1.length c1347),(456,B true)] ⟨((hf_ 49 rfl).trans (rfl:_=SL A1346 r1342.1.length c1347)),rQ (hR_ 47 456 rfl (lE rfl) rfl),trivial⟩ ?_
                                   refine gT rfl rfl (p_mS rfl ?_)
                                   exact wp_nil ⟨_,rfl,kR,rfl⟩
                                  ·intro e_ w_ k_ hf_ hR_
                                   have S_:=@A_ _ k_
                                   refine hopE [(456,B true)] ⟨rQ (hR_ 47 456 rfl (lE rfl) rfl),trivial⟩ ?_
                                   refine gT rfl rfl<|p_bsl (enc:=intE) (l:=([0]:List Int)) I (fun _=>rfl) sc30 in3 intE_len rfl (by decide) (by decide) zr3_1 S_ rfl fun A1659 c1660 w1661 S1662=>wp_nil ?_
                                   exact ⟨_,rfl,S1662.keep,⟨(A1659,c1660),rfl,⟨bL (New.al (S1662.newX (i:=0) rfl)) rfl (S1662.atX (i:=0) rfl) rfl,trivial⟩,(cA (S1662.atX (i:=0) rfl) nM)⟩⟩
                                  ·intro e_ w_ k_ hf_ hR_
                                   have S_:=@A_ _ k_
                                   obtain ⟨_,_,_,_,q1664⟩:=hR_ 47 456 rfl (lE rfl) rfl
                                   obtain ⟨_,_,_,_,q1665⟩:=hR_ 48 457 rfl (lE rfl) rfl
                                   obtain ⟨_,_,_,_,⟨A1659,c1660⟩,q1666,p1667,a1668⟩:=hR_ 49 458 rfl (lE rfl) rfl
                                   replace q1666:e_ 458=SL A1659 ([0]:List Int).length c1660:=q1666
                                   have S_:=St.addL' S_ (a1668 _ (.head _)) (fun _ _ _ h_=>(nE h_))
                                   refine hopE [(456,B true),(457,SL A1346 r1342.1.length c1347),(458,SL A1659 ([0]:List Int).length c1660)] ⟨q1664,q1665,q1666,trivial⟩ ?_
                                   refine gT rfl rfl (p_cv (B_Alike_ok h1670 (S_.atP (i:=19) rfl) (gr_rd intE_len (S_.atP (i:=0) rfl))) fu43 rfl S_ fun w1671 S1672=>?_)
                                   exact wp_nil ⟨_,rfl,S1672.keep,rfl⟩
                                  ·intro e_ w_ k_ hf_ hR_
                                   refine hopE [(456,B true),(459,B r1669)] ⟨rQ (hR_ 47 456 rfl (lE rfl) rfl),rQ (hR_ 50 459 rfl (lE rfl) rfl),trivial⟩ ?_
                                   exact p_pkT rfl (rfl:_=B r1669)<|wp_nil ⟨_,rfl,kR,rfl⟩
                                  ·intro e_ w_ k_ hf_ hR_
                                   refine hopE [(460,B r1669)] ⟨rQ (hR_ 51 460 rfl (lE rfl) rfl),trivial⟩ ?_
                                   exact p_mB rfl<|wp_nil ⟨_,rfl,kR,congrArg Value.bool c1676⟩
                                  ·intro e_ w_ k_ hf_ hR_
                                   refine hopE [(35,I r1382.2),(461,B true)] ⟨((hf_ 35 rfl).trans (rfl:_=I r1382.2)),rQ (hR_ 52 461 rfl (lE rfl) rfl),trivial⟩ ?_
                                   refine gT rfl rfl (p_mI rfl ?_)
                                   exact wp_nil ⟨_,rfl,kR,rfl⟩
                                  ·intro e_ w_ k_ hf_ hR_
                                   refine hopE [(461,B true),(462,I r1382.2)] ⟨rQ (hR_ 52 461 rfl (lE rfl) rfl),rQ (hR_ 53 462 rfl (lE rfl) rfl),trivial⟩ ?_
                                   refine gT rfl rfl (p_cmp rfl rfl rfl ?_)
                                   exact wp_nil ⟨_,rfl,kR,rfl⟩
                                  ·intro e_ w_ k_ hf_ hR_
                                   refine hopE [(461,B true),(463,B (r1382.2==0))] ⟨rQ (hR_ 52 461 rfl (lE rfl) rfl),rQ (hR_ 54 463 rfl (lE rfl) rfl),trivial⟩ ?_
                                   exact p_pkT rfl (rfl:_=B (r1382.2==0))<|wp_nil ⟨_,rfl,kR,rfl⟩
                                  ·intro e_ w_ k_ hf_ hR_
                                   refine hopE [(464,B (r1382.2==0))] ⟨rQ (hR_ 55 464 rfl (lE rfl) rfl),trivial⟩ ?_
                                   exact p_mB rfl<|wp_nil ⟨_,rfl,kR,congrArg Value.bool c1683⟩
                                  ·intro e_ w_ k_ hf_ hR_
                                   refine hopE [(50,B r1382.1),(465,B true)] ⟨((hf_ 50 rfl).trans (rfl:_=B r1382.1)),rQ (hR_ 56 465 rfl (lE rfl) rfl),trivial⟩ ?_
                                   refine gT rfl rfl (p_mB rfl ?_)
                                   exact wp_nil ⟨_,rfl,kR,rfl⟩
                                  ·intro e_ w_ k_ hf_ hR_
                                   refine hopE [(465,B true),(466,B r1382.1)] ⟨rQ (hR_ 56 465 rfl (lE rfl) rfl),rQ (hR_ 57 466 rfl (lE rfl) rfl),trivial⟩ ?_
                                   refine gT rfl rfl (p_not rfl ?_)
                                   exact wp_nil ⟨_,rfl,kR,rfl⟩
                                  ·intro e_ w_ k_ hf_ hR_
                                   refine hopE [(465,B true),(467,B (!r1382.1))] ⟨rQ (hR_ 56 465 rfl (lE rfl) rfl),rQ (hR_ 58 467 rfl (lE rfl) rfl),trivial⟩ ?_
                                   exact p_pkT rfl (rfl:_=B (!r1382.1))<|wp_nil ⟨_,rfl,kR,rfl⟩
                                  ·intro e_ w_ k_ hf_ hR_
                                   refine hopE [(468,B (!r1382.1))] ⟨rQ (hR_ 59 468 rfl (lE rfl) rfl),trivial⟩ ?_
                                   exact p_mB rfl<|wp_nil ⟨_,rfl,kR,congrArg Value.bool c1690⟩
                                  ·intro e_ w_ k_ hf_ hR_
                                   refine hopE [(37,I r1417.2),(469,B true)] ⟨((hf_ 37 rfl).trans (rfl:_=I r1417.2)),rQ (hR_ 60 469 rfl (lE rfl) rfl),trivial⟩ ?_
                                   refine gT rfl rfl (p_mI rfl ?_)
                                   exact wp_nil ⟨_,rfl,kR,rfl⟩
                                  ·intro e_ w_ k_ hf_ hR_
                                   refine hopE [(469,B true),(470,I r1417.2)] ⟨rQ (hR_ 60 469 rfl (lE rfl) rfl),rQ (hR_ 61 470 rfl (lE rfl) rfl),trivial⟩ ?_
                                   refine gT rfl rfl (p_cmp rfl rfl rfl ?_)
                                   exact wp_nil ⟨_,rfl,kR,rfl⟩
                                  ·intro e_ w_ k_ hf_ hR_
                                   refine hopE [(469,B true),(471,B (r1417.2==0))] ⟨rQ (hR_ 60 469 rfl (lE rfl) rfl),rQ (hR_ 62 471 rfl (lE rfl) rfl),trivial⟩ ?_
                                   exact p_pkT rfl (rfl:_=B (r1417.2==0))<|wp_nil ⟨_,rfl,kR,rfl⟩
                                  ·intro e_ w_ k_ hf_ hR_
                                   refine hopE [(472,B (r1417.2==0))] ⟨rQ (hR_ 63 472 rfl (lE rfl) rfl),trivial⟩ ?_
                                   exact p_mB rfl<|wp_nil ⟨_,rfl,kR,congrArg Value.bool c1697⟩
                                  ·intro e_ w_ k_ hf_ hR_
                                   refine hopE [(51,B r1417.1),(473,B true)] ⟨((hf_ 51 rfl).trans (rfl:_=B r1417.1)),rQ (hR_ 64 473 rfl (lE rfl) rfl),trivial⟩ ?_
                                   refine gT rfl rfl (p_mB rfl ?_)
                                   exact wp_nil ⟨_,rfl,kR,rfl⟩
                                  ·intro e_ w_ k_ hf_ hR_
                                   refine hopE [(473,B true),(474,B r1417.1)] ⟨rQ (hR_ 64 473 rfl (lE rfl) rfl),rQ (hR_ 65 474 rfl (lE rfl) rfl),trivial⟩ ?_
                                   exact p_pkT rfl (rfl:_=B r1417.1)<|wp_nil ⟨_,rfl,kR,rfl⟩
                                  ·intro e_ w_ k_ hf_ hR_
                                   refine hopE [(475,B r1417.1)] ⟨rQ (hR_ 66 475 rfl (lE rfl) rfl),trivial⟩ ?_
                                   exact p_mB rfl<|wp_nil ⟨_,rfl,kR,congrArg Value.bool c1702⟩
                                  ·intro e_ w_ k_ hf_ hR_
                                   refine hopE [(40,I r1458.2),(476,B true)] ⟨((hf_ 40 rfl).trans (rfl:_=I r1458.2)),rQ (hR_ 67 476 rfl (lE rfl) rfl),trivial⟩ ?_
                                   refine gT rfl rfl (p_mI rfl ?_)
                                   exact wp_nil ⟨_,rfl,kR,rfl⟩
                                  ·intro e_ w_ k_ hf_ hR_
                                   refine hopE [(476,B true),(477,I r1458.2)] ⟨rQ (hR_ 67 476 rfl (lE rfl) rfl),rQ (hR_ 68 477 rfl (lE rfl) rfl),trivial⟩ ?_
                                   refine gT rfl rfl (p_cmp rfl rfl rfl ?_)
                                   exact wp_nil ⟨_,rfl,kR,rfl⟩
                                  ·intro e_ w_ k_ hf_ hR_
                                   refine hopE [(476,B true),(478,B (r1458.2==0))] ⟨rQ (hR_ 67 476 rfl (lE rfl) rfl),rQ (hR_ 69 478 rfl (lE rfl) rfl),trivial⟩ ?_
                                   exact p_pkT rfl (rfl:_=B (r1458.2==0))<|wp_nil ⟨_,rfl,kR,rfl⟩
                                  ·intro e_ w_ k_ hf_ hR_
                                   refine hopE [(479,B (r1458.2==0))] ⟨rQ (hR_ 70 479 rfl (lE rfl) rfl),trivial⟩ ?_
                                   exact p_mB rfl<|wp_nil ⟨_,rfl,kR,congrArg Value.bool c1709⟩
                                  ·intro e_ w_ k_ hf_ hR_
                                   refine hopE [(52,SL A1462 r1458.1.length c1463),(480,B true)] ⟨((hf_ 52 rfl).trans (rfl:_=SL A1462 r1458.1.length c1463)),rQ (hR_ 71 480 rfl (lE rfl) rfl),trivial⟩ ?_
                                   refine gT rfl rfl (p_mS rfl ?_)
                                   exact wp_nil ⟨_,rfl,kR,rfl⟩
                                  ·intro e_ w_ k_ hf_ hR_
                                   have S_:=@A_ _ k_
                                   refine hopE [(480,B true)] ⟨rQ (hR_ 71 480 rfl (lE rfl) rfl),trivial⟩ ?_
                                   refine gT rfl rfl<|p_bsl (enc:=intE) (l:=([0]:List Int)) I (fun _=>rfl) sc30 in3 intE_len rfl (by decide) (by decide) zr3_1 S_ rfl fun A1712 c1713 w1714 S1715=>wp_nil ?_
                                   exact ⟨_,rfl,S1715.keep,⟨(A1712,c1713),rfl,⟨bL (New.al (S1715.newX (i:=0) rfl)) rfl (S1715.atX (i:=0) rfl) rfl,trivial⟩,(cA (S1715.atX (i:=0) rfl) nM)⟩⟩
                                  ·intro e_ w_ k_ hf_ hR_
                                   have S_:=@A_ _ k_
                                   obtain ⟨_,_,_,_,q1717⟩:=hR_ 71 480 rfl (lE rfl) rfl
                                   obtain ⟨_,_,_,_,q1718⟩:=hR_ 72 481 rfl (lE rfl) rfl
                                   obtain ⟨_,_,_,_,⟨A1712,c1713⟩,q1719,p1720,a1721⟩:=hR_ 73 482 rfl (lE rfl) rfl
                                   replace q1719:e_ 482=SL A1712 ([0]:List Int).length c1713:=q1719
                                   have S_:=St.addL' S_ (a1721 _ (.head _)) (fun _ _ _ h_=>(nE h_))
                                   refine hopE [(480,B true),(481,SL A1462 r1458.1.length c1463),(482,SL A1712 ([0]:List Int).length c1713)] ⟨q1717,q1718,q1719,trivial⟩ ?_
                                   refine gT rfl rfl (p_cv (B_Alike_ok h1723 (S_.atP (i:=14) rfl) (gr_rd intE_len (S_.atP (i:=0) rfl))) fu43 rfl S_ fun w1724 S1725=>?_)
                                   exact wp_nil ⟨_,rfl,S1725.keep,rfl⟩
                                  ·intro e_ w_ k_ hf_ hR_
                                   refine hopE [(480,B true),(483,B r1722)] ⟨rQ (hR_ 71 480 rfl (lE rfl) rfl),rQ (hR_ 74 483 rfl (lE rfl) rfl),trivial⟩ ?_
                                   exact p_pkT rfl (rfl:_=B r1722)<|wp_nil ⟨_,rfl,kR,rfl⟩
                                  ·intro e_ w_ k_ hf_ hR_
                                   refine hopE [(484,B r1722)] ⟨rQ (hR_ 75 484 rfl (lE rfl) rfl),trivial⟩ ?_
                                   exact p_mB rfl<|wp_nil ⟨_,rfl,kR,congrArg Value.bool c1729⟩
                                  ·intro e_ w_ k_ hf_ hR_
                                   refine hopE [(43,I r1503.2),(485,B true)] ⟨((hf_ 43 rfl).trans (rfl:_=I r1503.2)),rQ (hR_ 76 485 rfl (lE rfl) rfl),trivial⟩ ?_
                                   refine gT rfl rfl (p_mI rfl ?_)
                                   exact wp_nil ⟨_,rfl,kR,rfl⟩
                                  ·intro e_ w_ k_ hf_ hR_
                                   refine hopE [(485,B true),(486,I r1503.2)] ⟨rQ (hR_ 76 485 rfl (lE rfl) rfl),rQ (hR_ 77 486 rfl (lE rfl) rfl),trivial⟩ ?_
                                   refine gT rfl rfl (p_cmp rfl rfl rfl ?_)
                                   exact wp_nil ⟨_,rfl,kR,rfl⟩
                                  ·intro e_ w_ k_ hf_ hR_
                                   refine hopE [(485,B true),(487,B (r1503.2==0))] ⟨rQ (hR_ 76 485 rfl (lE rfl) rfl),rQ (hR_ 78 487 rfl (lE rfl) rfl),trivial⟩ ?_
                                   exact p_pkT rfl (rfl:_=B (r1503.2==0))<|wp_nil ⟨_,rfl,kR,rfl⟩
                                  ·intro e_ w_ k_ hf_ hR_
                                   refine hopE [(488,B (r1503.2==0))] ⟨rQ (hR_ 79 488 rfl (lE rfl) rfl),trivial⟩ ?_
                                   exact p_mB rfl<|wp_nil ⟨_,rfl,kR,congrArg Value.bool c1736⟩
                                  ·intro e_ w_ k_ hf_ hR_
                                   refine hopE [(53,SL A1507 r1503.1.length c1508),(489,B true)] ⟨((hf_ 53 rfl).trans (rfl:_=SL A1507 r1503.1.length c1508)),rQ (hR_ 80 489 rfl (lE rfl) rfl),trivial⟩ ?_
                                   refine gT rfl rfl (p_mS rfl ?_)
                                   exact wp_nil ⟨_,rfl,kR,rfl⟩
                                  ·intro e_ w_ k_ hf_ hR_
                                   refine hopE [(489,B true),(490,SL A1507 r1503.1.length c1508)] ⟨rQ (hR_ 80 489 rfl (lE rfl) rfl),rQ (hR_ 81 490 rfl (lE rfl) rfl),trivial⟩ ?_
                                   refine gT rfl rfl (p_len rfl sc30 ?_)
                                   exact wp_nil ⟨_,rfl,kR,rfl⟩
                                  ·intro e_ w_ k_ hf_ hR_
                                   refine hopE [(489,B true),(491,I (r1503.1.length:Int))] ⟨rQ (hR_ 80 489 rfl (lE rfl) rfl),rQ (hR_ 82 491 rfl (lE rfl) rfl),trivial⟩ ?_
                                   refine gT rfl rfl (p_cmp rfl rfl rfl ?_)
                                   exact wp_nil ⟨_,rfl,kR,rfl⟩
                                  ·intro e_ w_ k_ hf_ hR_
                                   refine hopE [(489,B true),(492,B ((r1503.1.length:Int)==0))] ⟨rQ (hR_ 80 489 rfl (lE rfl) rfl),rQ (hR_ 83 492 rfl (lE rfl) rfl),trivial⟩ ?_
                                   exact p_pkT rfl (rfl:_=B ((r1503.1.length:Int)==0))<|wp_nil ⟨_,rfl,kR,rfl⟩
                                  ·intro e_ w_ k_ hf_ hR_
                                   refine hopE [(493,B ((r1503.1.length:Int)==0))] ⟨rQ (hR_ 84 493 rfl (lE rfl) rfl),trivial⟩ ?_
                                   exact p_mB rfl<|wp_nil ⟨_,rfl,kR,congrArg Value.bool c1745⟩
                                  ·intro e_ w_ k_ hf_ hR_
                                   refine hopE [(55,I r1543.2),(494,B true)] ⟨((hf_ 55 rfl).trans (rfl:_=I r1543.2)),rQ (hR_ 85 494 rfl (lE rfl) rfl),trivial⟩ ?_
                                   refine gT rfl rfl (p_mI rfl ?_)
                                   exact wp_nil ⟨_,rfl,kR,rfl⟩
                                  ·intro e_ w_ k_ hf_ hR_
                                   refine hopE [(494,B true),(495,I r1543.2)] ⟨rQ (hR_ 85 494 rfl (lE rfl) rfl),rQ (hR_ 86 495 rfl (lE rfl) rfl),trivial⟩ ?_
                                   refine gT rfl rfl (p_cmp rfl rfl rfl ?_)
                                   exact wp_nil ⟨_,rfl,kR,rfl⟩
                                  ·intro e_ w_ k_ hf_ hR_
                                   refine hopE [(494,B true),(496,B (r1543.2==0))] ⟨rQ (hR_ 85 494 rfl (lE rfl) rfl),rQ (hR_ 87 496 rfl (lE rfl) rfl),trivial⟩ ?_
                                   exact p_pkT rfl (rfl:_=B (r1543.2==0))<|wp_nil ⟨_,rfl,kR,rfl⟩
                                  ·intro e_ w_ k_ hf_ hR_
                                   refine hopE [(497,B (r1543.2==0))] ⟨rQ (hR_ 88 497 rfl (lE rfl) rfl),trivial⟩ ?_
                                   exact p_mB rfl<|wp_nil ⟨_,rfl,kR,congrArg Value.bool c1752⟩
                                  ·intro e_ w_ k_ hf_ hR_
                                   refine hopE [(54,B r1543.1),(498,B true)] ⟨((hf_ 54 rfl).trans (rfl:_=B r1543.1)),rQ (hR_ 89 498 rfl (lE rfl) rfl),trivial⟩ ?_
                                   refine gT rfl rfl (p_mB rfl ?_)
                                   exact wp_nil ⟨_,rfl,kR,rfl⟩
                                  ·intro e_ w_ k_ hf_ hR_
                                   refine hopE [(498,B true),(499,B r1543.1)] ⟨rQ (hR_ 89 498 rfl (lE rfl) rfl),rQ (hR_ 90 499 rfl (lE rfl) rfl),trivial⟩ ?_
                                   refine gT rfl rfl (p_not rfl ?_)
                                   exact wp_nil ⟨_,rfl,kR,rfl⟩
                                  ·intro e_ w_ k_ hf_ hR_
                                   refine hopE [(498,B true),(500,B (!r1543.1))] ⟨rQ (hR_ 89 498 rfl (lE rfl) rfl),rQ (hR_ 91 500 rfl (lE rfl) rfl),trivial⟩ ?_
                                   exact p_pkT rfl (rfl:_=B (!r1543.1))<|wp_nil ⟨_,rfl,kR,rfl⟩
                                  ·intro e_ w_ k_ hf_ hR_
                                   refine hopE [(501,B (!r1543.1))] ⟨rQ (hR_ 92 501 rfl (lE rfl) rfl),trivial⟩ ?_
                                   exact p_mB rfl<|wp_nil ⟨_,rfl,kR,congrArg Value.bool c1759⟩
                                  ·intro e_ w_ k_ hf_ hR_
                                   refine hopE [(502,B true)] ⟨rQ (hR_ 93 502 rfl (lE rfl) rfl),trivial⟩ ?_
                                   exact p_pkT rfl (rfl:_=B true)<|wp_nil ⟨_,rfl,kR,rfl⟩
                                  ·intro e_ w_ k_ hf_ hR_
                                   refine hopE [(503,B true)] ⟨rQ (hR_ 94 503 rfl (lE rfl) rfl),trivial⟩ ?_
                                   exact p_mB rfl<|wp_nil ⟨_,rfl,kR,rfl⟩
                                  ·intro e_ w_ k_ hf_ hR_
                                   have S_:=@A_ _ k_
                                   refine hopE [(504,B true)] ⟨rQ (hR_ 95 504 rfl (lE rfl) rfl),trivial⟩ ?_
                                   refine gT rfl rfl (p_cv (law_punched_ok h1764 (S_.atP (i:=24) rfl) (S_.atP (i:=25) rfl) (S_.atP (i:=26) rfl)) fu13 rfl S_ fun w1765 S1766=>?_)
                                   exact wp_nil ⟨_,rfl,S1766.keep,rfl⟩
                                  ·intro e_ w_ k_ hf_ hR_
                                   refine hopE [(504,B true),(505,B r1763)] ⟨rQ (hR_ 95 504 rfl (lE rfl) rfl),rQ (hR_ 96 505 rfl (lE rfl) rfl),trivial⟩ ?_
                                   exact p_pkT rfl (rfl:_=B r1763)<|wp_nil ⟨_,rfl,kR,rfl⟩
                                  ·intro e_ w_ k_ hf_ hR_
                                   refine hopE [(506,B r1763)] ⟨rQ (hR_ 97 506 rfl (lE rfl) rfl),trivial⟩ ?_
                                   refine p_aB rfl<|wp_nil ?_
                                   exact ⟨_,rfl,kR,rfl⟩
                                  intro e1770 w1771 lo1772 hi1773 k1774 hf1775 hR1776 hd1777
                                  have S1778:=S1546.call k1774
                                  try clear S1546
                                  obtain ⟨h1780,h1781,h1782,⟨A1632,c1633⟩,q1779,h1783,h1784⟩:=hR1776 40 449 (lE rfl) rfl
                                  replace q1779:e1770 449=SL A1632 [0,1].length c1633:=q1779
                                  obtain ⟨p1785,_⟩:=h1783
                                  obtain ⟨h1788,h1789,h1790,⟨A1659,c1660⟩,q1787,h1791,h1792⟩:=hR1776 49 458 (lE rfl) rfl
                                  replace q1787:e1770 458=SL A1659 ([0]:List Int).length c1660:=q1787
                                  obtain ⟨p1793,_⟩:=h1791
                                  obtain ⟨h1796,h1797,h1798,⟨A1712,c1713⟩,q1795,h1799,h1800⟩:=hR1776 73 482 (lE rfl) rfl
                                  replace q1795:e1770 482=SL A1712 ([0]:List Int).length c1713:=q1795
                                  obtain ⟨p1801,_⟩:=h1799
                                  have q1803:e1770 0=B r1763:=(hR1776 98 0 (lE rfl) rfl).2.2.2
                                  refine tailE [(0,B r1763)] ⟨q1803,trivial⟩ ?_
                                  intro g1804
                                  refine wp_nil ?_
                                  have S1805:St w nF w1771 [] [rd eTicketBox 4 none 0 ([]:List TicketBox),rd eTicketShow 3 none 0 ([]:List TicketShow),rd eTicketSeason 2 none 0 ([]:List TicketSeason),rd eTallyCount 7 none 0 ([]:List TallyCount),gW0,gW1,gW2]:=S1778.pk [] (by decide) [12,13,14,15,16,17,18] rfl rfl
                                  try clear S1778
                                  obtain rfl:=sJ H
                                  exact c_ret (rT Tryd.f8 S1805.keep rfl rfl)
                                 ·exact nH (condF c1759 H)
                                ·exact nH (condF c1752 H)
                               ·exact nH (condF c1745 H)
                              ·exact nH (condF c1736 H)
                             ·exact nH (condF c1729 H)
                            ·exact nH (condF c1709 H)
                           ·exact nH (condF c1702 H)
                          ·exact nH (condF c1697 H)
                         ·exact nH (condF c1690 H)
                        ·exact nH (condF c1683 H)
                       ·exact nH (condF c1676 H)
                      ·exact nH (condF c1656 H)
                     ·exact nH (condF c1649 H)
                    ·exact nH (condF c1629 H)
                   ·exact nH (condF c1622 H)
                  ·exact nH (condF c1609 H)
                 ·exact nH (condF c1602 H)
                ·exact nH (condF c1589 H)
               ·exact nH (condF c1582 H)
              ·exact nH (condF c1569 H)
             ·exact nH (condF c1562 H)
            ·exact nH (condF c1549 H)
end Go.Proofs.YtafhljljfglfeaaDoor