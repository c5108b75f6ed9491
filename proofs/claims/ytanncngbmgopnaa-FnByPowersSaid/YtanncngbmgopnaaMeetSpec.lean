/- spec.MeetingOf: where two walkers meet. Conditions: a map and one of its things, or none. -/
import Derived.Test.YtanncngbmgopnaaMeeting
import Derived.Test.YtanncngbmgopnaaOkSpec
import Derived.Test.YtanncngbmgopnaaL1In
namespace Go.Proofs.Ytanncngbmgopnaa
open Go.RowKit
set_option linter.unusedVariables false

/-- Two numbers and a truth. -/
def RetTri (w : World) (a b : Int) (t : Bool) (e : Ending) (w' : World) : Prop := e = .returned (.tuple #[.int .i64 a, .int .i64 b, .bool t]) ∧ Below w.heap.size w w'


end Go.Proofs.Ytanncngbmgopnaa
