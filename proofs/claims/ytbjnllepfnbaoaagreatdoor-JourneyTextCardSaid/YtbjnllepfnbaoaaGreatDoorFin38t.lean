/- All functions. -/
import Derived.Test.YtbjnllepfnbaoaaGreatDoorFin38tb
