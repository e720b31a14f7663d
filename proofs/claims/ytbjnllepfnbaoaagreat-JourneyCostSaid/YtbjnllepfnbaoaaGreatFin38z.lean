/- All functions. -/
import Derived.Test.YtbjnllepfnbaoaaGreatFin38zb
