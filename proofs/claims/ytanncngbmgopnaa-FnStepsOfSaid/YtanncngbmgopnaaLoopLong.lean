/- impl.LoopLong, where the reference's is not reached. No condition. -/
import Derived.Test.YtanncngbmgopnaaTailSpec
import Derived.Test.YtanncngbmgopnaaTail
import Derived.Test.YtanncngbmgopnaaLoopLongI
